/-
  An abstract walk: a function's code is carried out over abstract values, blocks of the call's own and lists in memory; what is left is plain. Definitions alone; no condition.
-/
import Derived.Test.YtkhggobpanfkfaaDoorData
import Derived.Laws.CopyRow
import Derived.Laws.Cells
import Derived.Laws.Rows
import Derived.IntWalk
import Derived.Laws.StructEq
import Derived.MapKept
namespace Go.Proofs.YtkhggobpanfkfaaDoor
open Go.RowKit
namespace Ab

/-- Lists vs0 they lie in memory: their elements are numbers, or pairs of numbers. -/
inductive EL where
  | ints (l : List Int)
  | gots (l : List (Int × Int))
  | bytes (l : List UInt8)
  | k3 (l : List (Int × Int × Int))

def EL.len : EL → Nat
  | .ints l => l.length
  | .gots l => l.length
  | .bytes l => l.length
  | .k3 l => l.length
def EL.sz : EL → Nat
  | .ints _ => 1
  | .gots _ => 2
  | .bytes _ => 1
  | .k3 _ => 3
def EL.enc : EL → List Value
  | .ints l => l.map (Value.int .i64)
  | .gots l => l.flatMap fun g => [.int .i64 g.1, .int .i64 g.2]
  | .bytes l => l.map fun b => Value.int .u8 b.toNat
  | .k3 l => l.flatMap fun g => [.int .i64 g.1, .int .i64 g.2.1, .int .i64 g.2.2]
def EL.take : EL → Nat → EL
  | .ints l, n => .ints (l.take n)
  | .gots l, n => .gots (l.take n)
  | .bytes l, n => .bytes (l.take n)
  | .k3 l, n => .k3 (l.take n)
def EL.drop : EL → Nat → EL
  | .ints l, n => .ints (l.drop n)
  | .gots l, n => .gots (l.drop n)
  | .bytes l, n => .bytes (l.drop n)
  | .k3 l, n => .k3 (l.drop n)
/-- Which kind of list. -/
inductive EK where
  | ints
  | gots
  | bytes
  | k3
def EK.nil : EK → EL
  | .ints => .ints []
  | .gots => .gots []
  | .bytes => .bytes []
  | .k3 => .k3 []

def EK.repl : EK → Nat → EL
  | .ints, n => .ints (List.replicate n 0)
  | .gots, n => .gots (List.replicate n (0, 0))
  | .bytes, n => .bytes (List.replicate n 0)
  | .k3, n => .k3 (List.replicate n (0, 0, 0))

/-- One cell. -/
inductive LV where
  | v (x : Value)
  /-- the address of a cell of a block of the call's own -/
  | p (k off : Nat)
  /-- the whole of a list of the call's own -/
  | s (k ver : Nat)
  /-- a part of a list of the call's own -/
  | w (k ver sz i n : Nat)
  /-- a list that came in -/
  | f (l : EL)
  /-- a list that came in, by its very value -/
  | fx (v : Value) (l : EL)
  /-- the address of a cell of an element of a list of the call's own -/
  | e (k ver sz i off : Nat)
  /-- the address of a cell of an element of a list that came in -/
  | g (l : EL) (i off : Nat)
  /-- a channel of the call's own (none); an interface that holds the address of a block of the call's own -/
  | o (T : Option TypeId) (k : Nat)
  /-- a map of the call's own -/
  | m (k : Nat)
  | j

inductive AV where
  | l (x : LV)
  | a (cs : List LV)
  | t (xs : List (LV ⊕ List LV))
  | j

/-- A block of the call's own; a list of the call's own; nothing known. -/
inductive HB where
  | b (cs : List LV) (T : TypeId)
  | r (ver : Nat) (E : TypeId) (l : EL)
  | d
  /-- something else that lies in one block -/
  | x (Φ : Obj → Prop)

abbrev Fr := List AV
abbrev Hp := List HB

inductive TK where
  | leaf
  | bool
  | int (k : IntKind)
  | struct (fs : List (Nat × Nat × Bool))
  | arr (n : Nat) (e : TypeId) (esz : Nat) (eagg : Bool)
  | slice (e : TypeId) (esz : Nat) (ek : EK)
  | osl (e : TypeId)
  | str
  | ptr (e : TypeId)
  | chan
  /-- a map from numbers -/
  | map

structure TI where
  sz : Nat
  agg : Bool
  zero : List Value
  zl : List LV
  bytes : Nat
  kind : TK
  /-- two of them are compared cell by cell: numbers of a kind, or bools -/
  eqs : Option (List (Option IntKind))
  /-- the methods of a pointer's type: name, function, is the pointer the receiver? -/
  ms : List (String × FuncId × Bool)

abbrev Tab := List (TypeId × TI)

def tyK : Tab → TypeId → (TI → Prop) → Prop
  | [], _, _ => False
  | (t', i) :: r, t, K => match Nat.beq t' t with
    | true => K i
    | false => tyK r t K

def getF : Fr → Nat → (AV → Prop) → Prop
  | [], _, _ => False
  | a :: _, 0, K => K a
  | _ :: r, n + 1, K => getF r n K
def setF : Fr → Nat → AV → (Fr → Prop) → Prop
  | [], _, _, _ => False
  | _ :: r, 0, x, K => K (x :: r)
  | a :: r, n + 1, x, K => setF r n x fun r' => K (a :: r')
def putF (fr : Fr) (d : Option Tmp) (x : AV) (K : Fr → Prop) : Prop := match d with
  | none => K fr
  | some d => setF fr d x K
def getH : Hp → Nat → (HB → Prop) → Prop
  | [], _, _ => False
  | a :: _, 0, K => K a
  | _ :: r, n + 1, K => getH r n K
def setH : Hp → Nat → HB → (Hp → Prop) → Prop
  | [], _, _, _ => False
  | _ :: r, 0, x, K => K (x :: r)
  | a :: r, n + 1, x, K => setH r n x fun r' => K (a :: r')
def endH : Hp → Nat → HB → (Nat → Hp → Prop) → Prop
  | [], k, x, K => K k [x]
  | a :: r, k, x, K => endH r (k + 1) x fun n r' => K n (a :: r')
def dropK : List LV → Nat → (List LV → Prop) → Prop
  | cs, 0, K => K cs
  | [], _ + 1, _ => False
  | _ :: cs, n + 1, K => dropK cs n K
def takeK : List LV → Nat → (List LV → Prop) → Prop
  | _, 0, K => K []
  | [], _ + 1, _ => False
  | c :: cs, n + 1, K => takeK cs n fun r => K (c :: r)
def overK : List LV → List LV → (List LV → Prop) → Prop
  | cs, [], K => K cs
  | [], _ :: _, _ => False
  | _ :: cs, v :: vs, K => overK cs vs fun r => K (v :: r)
def replK : List LV → Nat → List LV → (List LV → Prop) → Prop
  | cs, 0, vs, K => overK cs vs K
  | [], _ + 1, _, _ => False
  | c :: cs, n + 1, vs, K => replK cs n vs fun r => K (c :: r)
def cutK (cs : List LV) (off sz : Nat) (agg : Bool) (K : AV → Prop) : Prop :=
  dropK cs off fun r => takeK r sz fun q => match agg with
    | true => K (.a q)
    | false => match q with
      | [x] => K (.l x)
      | _ => False

/-- What is owed beside the way. -/
inductive Side (p q : Prop) : Prop where
  | mk (hp : p) (hq : q)
def lenK : List LV → Nat → Prop → Prop
  | [], 0, p => p
  | _ :: r, n + 1, p => lenK r n p
  | _, _, _ => False
/-- Either way. -/
inductive Br (t : Bool) (p q : Prop) : Prop where
  | mk (ht : t = true → p) (hf : t = false → q)
/-- A region is behind. -/
inductive End (p : Prop) : Prop where
  | mk (h : p)
/-- Either of two orders. -/
inductive Fork (p q : Prop) : Prop where
  | mk (hp : p) (hq : q)
theorem brT {p q : Prop} (h : p) : Br true p q := .mk (fun _ => h) (fun e => Bool.noConfusion e)
theorem brT' {t : Bool} {p q : Prop} (e : t = true) (h : p) : Br t p q := e ▸ brT h
theorem brF {p q : Prop} (h : q) : Br false p q := .mk (fun e => Bool.noConfusion e) (fun _ => h)
theorem brF' {t : Bool} {p q : Prop} (e : t = false) (h : q) : Br t p q := e ▸ brF h

def constK (v : Value) (K : AV → Prop) : Prop := match v with
  | .bool b => K (.l (.v (.bool b)))
  | .int k n => K (.l (.v (.int k n)))
  | .string s => K (.l (.v (.string s)))
  | .slice none 0 0 => K (.l (.v (.slice none 0 0)))
  | .pointer none => K (.l (.v (.pointer none)))
  | .nilIface => K (.l (.v .nilIface))
  | .nilFunc => K (.l (.v .nilFunc))
  | _ => False
def evK (fr : Fr) (x : Operand) (K : AV → Prop) : Prop := match x with
  | .tmp t => getF fr t K
  | .const v => constK v K
  | .func f => K (.l (.v (.func (.func f) #[] #[])))
  | .global g => K (.l (.v (.pointer (some ⟨g, 0, none⟩))))
def evsK (fr : Fr) : List Operand → (List AV → Prop) → Prop
  | [], K => K []
  | x :: r, K => evK fr x fun a => evsK fr r fun vs0 => K (a :: vs0)

def rng : IntKind → Int → Prop
  | .i64, n => -9223372036854775808 ≤ n ∧ n ≤ 9223372036854775807
  | .u8, n => 0 ≤ n ∧ n ≤ 255
  | _, _ => False
theorem rngI {n : Int} (h : -9223372036854775808 ≤ n ∧ n ≤ 9223372036854775807) : rng .i64 n := h
theorem rngB {n : Int} (h : 0 ≤ n ∧ n ≤ 255) : rng .u8 n := h
abbrev I (k : IntKind) (n : Int) : AV := .l (.v (.int k n))
abbrev B (b : Bool) : AV := .l (.v (.bool b))

def intK (op : BinOp) (k : IntKind) (x y : Int) (K : AV → Prop) : Prop := match op with
  | .add => Side (rng k (x + y)) <| K (I k (x + y))
  | .sub => Side (rng k (x - y)) <| K (I k (x - y))
  | .mul => Side (rng k (x * y)) <| K (I k (x * y))
  | .quo => Br (decide (x < 0)) (Side (0 < y ∧ rng k (0 - (0 - x) / y)) <| K (I k (0 - (0 - x) / y))) (Side (0 ≤ x ∧ 0 < y ∧ rng k (x / y)) <| K (I k (x / y)))
  | .rem => Side (0 ≤ x ∧ 0 < y) <| K (I k (x % y))
  | .and => K (I k (k.wrap (BitVec.ofInt k.bits x &&& BitVec.ofInt k.bits y).toNat))
  | .or => K (I k (k.wrap (BitVec.ofInt k.bits x ||| BitVec.ofInt k.bits y).toNat))
  | .xor => K (I k (k.wrap (BitVec.ofInt k.bits x ^^^ BitVec.ofInt k.bits y).toNat))
  | .andNot => K (I k (k.wrap (BitVec.ofInt k.bits x &&& ~~~(BitVec.ofInt k.bits y)).toNat))
  | .eql => K (B (decide (x = y)))
  | .neq => K (B (!decide (x = y)))
  | .lss => K (B (decide (x < y)))
  | .leq => K (B (decide (x ≤ y)))
  | .gtr => K (B (decide (y < x)))
  | .geq => K (B (decide (y ≤ x)))
  | _ => False
def shK (op : BinOp) (k : IntKind) (x y : Int) (K : AV → Prop) : Prop := match op with
  | .shl => Side (0 ≤ y) <| K (I k (k.wrap (x * 2 ^ (min y.toNat k.bits))))
  | .shr => Side (0 ≤ y) <| K (I k (x.fdiv (2 ^ (min y.toNat k.bits))))
  | _ => False
def isSh : BinOp → Bool
  | .shl | .shr => true
  | _ => false
/-- Are two rows of cells equal, cell by cell? -/
def eq1 (k : Option IntKind) (x y : LV) (K : Bool → Prop) : Prop := match k with
  | some _ => (match x with
    | .v (.int k1 a) => (match y with
      | .v (.int k2 b) => Side (k1 = k2) <| K (decide (a = b))
      | _ => False)
    | _ => False)
  | none => (match x with
    | .v (.bool a) => (match y with
      | .v (.bool b) => K (a == b)
      | _ => False)
    | _ => False)
def eqLs : List (Option IntKind) → List LV → List LV → (Bool → Prop) → Prop
  | [], [], [], K => K true
  | k :: ks, x :: xs, y :: ys, K => eq1 k x y fun b => eqLs ks xs ys fun c => K (b && c)
  | _, _, _, _ => False
def binK (T : Tab) (op : BinOp) (t : TypeId) (a b : AV) (K : AV → Prop) : Prop := match a with
  | .l (.v (.int k x)) => (match b with
    | .l (.v (.int k' y)) => (match isSh op with
      | true => shK op k x y K
      | false => Side (k = k') <| intK op k x y K)
    | _ => False)
  | .l (.v (.bool x)) => (match b with
    | .l (.v (.bool y)) => tyK T t fun ti => (match ti.kind with
      | .bool => (match op with
        | .eql => K (B (x == y))
        | .neq => K (B (!(x == y)))
        | _ => False)
      | _ => False)
    | _ => False)
  | .a xs => (match b with
    | .a ys => tyK T t fun ti => (match ti.eqs with
      | some ks => (match op with
        | .eql => eqLs ks xs ys fun c => K (B c)
        | .neq => eqLs ks xs ys fun c => K (B (!c))
        | _ => False)
      | none => False)
    | _ => False)
  | .l (.v (.string x)) => (match b with
    | .l (.v (.string y)) => (match op with
      | .eql => K (B (x.toList == y.toList))
      | .neq => K (B (!(x.toList == y.toList)))
      | _ => False)
    | _ => False)
  | .l (.v (.pointer p)) => (match b with
    | .l (.v (.pointer none)) => tyK T t fun ti => (match ti.kind with
      | .ptr _ => (match op with
        | .eql => K (B p.isNone)
        | .neq => K (B (!p.isNone))
        | _ => False)
      | _ => False)
    | _ => False)
  | .l (.p _ _) => (match b with
    | .l (.v (.pointer none)) => tyK T t fun ti => (match ti.kind with
      | .ptr _ => (match op with
        | .eql => K (B false)
        | .neq => K (B true)
        | _ => False)
      | _ => False)
    | _ => False)
  | _ => False

/-- The cells of an element, by address. -/
def elK (l : EL) (i off : Nat) (agg : Bool) (sz : Nat) (K : AV → Prop) : Prop := match l with
  | .ints l => (match agg with
    | true => False
    | false => (match off with
      | 0 => K (I .i64 (l.getD i 0))
      | _ => False))
  | .bytes l => (match agg with
    | true => False
    | false => (match off with
      | 0 => K (I .u8 ((l.getD i 0).toNat : Int))
      | _ => False))
  | .gots l => (match agg with
    | true => (match off with
      | 0 => (match sz with
        | 2 => K (.a [.v (.int .i64 (l.getD i (0, 0)).1), .v (.int .i64 (l.getD i (0, 0)).2)])
        | _ => False)
      | _ => False)
    | false => (match off with
      | 0 => K (I .i64 (l.getD i (0, 0)).1)
      | 1 => K (I .i64 (l.getD i (0, 0)).2)
      | _ => False))
  | .k3 l => (match agg with
    | true => (match off with
      | 0 => (match sz with
        | 3 => K (.a [.v (.int .i64 (l.getD i (0, 0, 0)).1), .v (.int .i64 (l.getD i (0, 0, 0)).2.1), .v (.int .i64 (l.getD i (0, 0, 0)).2.2)])
        | _ => False)
      | _ => False)
    | false => (match off with
      | 0 => K (I .i64 (l.getD i (0, 0, 0)).1)
      | 1 => K (I .i64 (l.getD i (0, 0, 0)).2.1)
      | 2 => K (I .i64 (l.getD i (0, 0, 0)).2.2)
      | _ => False))

/-- A list of the call's own, at this version. -/
def rowK (hp : Hp) (k ver : Nat) (K : TypeId → EL → Prop) : Prop := getH hp k fun h => match h with
  | .r ver' E l => (match Nat.beq ver ver' with
    | true => K E l
    | false => False)
  | _ => False

def memN : List Nat → Nat → Bool
  | [], _ => false
  | a :: r, k => match Nat.beq a k with
    | true => true
    | false => memN r k
/-- What a load may ask in a region that draws: blocks that were there before, not those that are written. -/
def mayAsk : Option (Nat × List Nat) → Nat → Bool
  | none, _ => true
  | some (n, W), k => Nat.blt k n && !memN W k
def mayPut : Option (Nat × List Nat) → Nat → Bool
  | none, _ => true
  | some (n, W), k => memN W k || Nat.ble n k

def fldK : List (Nat × Nat × Bool) → Nat → (Nat → Nat → Bool → Prop) → Prop
  | [], _, _ => False
  | (o, s, g) :: _, 0, K => K o s g
  | _ :: r, n + 1, K => fldK r n K

def sumK : List (LV ⊕ List LV) → Nat → (AV → Prop) → Prop
  | [], _, _ => False
  | .inl x :: _, 0, K => K (.l x)
  | .inr cs :: _, 0, K => K (.a cs)
  | _ :: r, n + 1, K => sumK r n K

def cellsK (a : AV) (K : List LV → Prop) : Prop := match a with
  | .l x => K [x]
  | .a cs => K cs
  | _ => False

/-- The parts of a literal. -/
def fillK (fr : Fr) (fs : List (Nat × Nat × Bool)) : List (Nat × Operand) → List LV → (List LV → Prop) → Prop
  | [], cs, K => K cs
  | (i, x) :: r, cs, K => fldK fs i fun off sz _ => evK fr x fun a => cellsK a fun vs => lenK vs sz (replK cs off vs fun cs' => fillK fr fs r cs' K)

def fillAK (fr : Fr) (esz : Nat) : List (Nat × Operand) → List LV → (List LV → Prop) → Prop
  | [], cs, K => K cs
  | (i, x) :: r, cs, K => evK fr x fun a => cellsK a fun vs => lenK vs esz (replK cs (i * esz) vs fun cs' => fillAK fr esz r cs' K)

/-- What a slice that is only read holds. -/
def readK (hp : Hp) (ek : EK) (a : AV) (K : EL → Prop) : Prop := match a with
  | .l (.f l) => K l
  | .l (.s k ver) => rowK hp k ver fun _ l => K l
  | .l (.w k ver sz i n) => rowK hp k ver fun _ l => Side (Nat.beq sz l.sz = true) <| Side (i + n ≤ l.len) <| K ((l.drop i).take n)
  | .l (.v (.slice none 0 0)) => K ek.nil
  | _ => False
def lenOfK (hp : Hp) (a : AV) (K : Nat → Prop) : Prop := match a with
  | .l (.f l) => K l.len
  | .l (.fx _ l) => K l.len
  | .l (.s k ver) => rowK hp k ver fun _ l => K l.len
  | .l (.w k ver _ _ n) => rowK hp k ver fun _ _ => K n
  | .l (.v (.slice _ n _)) => K n
  | _ => False

def optK (fr : Fr) (x : Option Operand) (d : Int) (K : Int → Prop) : Prop := match x with
  | none => K d
  | some x => evK fr x fun a => match a with
    | .l (.v (.int _ n)) => K n
    | _ => False

def cutS (esz : Nat) (a : AV) (hp : Hp) (fr : Fr) (lo hi : Option Operand) (K : AV → Prop) : Prop :=
  lenOfK hp a fun n => optK fr lo 0 fun i => optK fr hi n fun h => Side (0 ≤ i ∧ i ≤ h ∧ h ≤ n) <| match a with
    | .l (.f l) => Side (Nat.beq esz l.sz = true) <| K (.l (.f ((l.drop i.toNat).take (h.toNat - i.toNat))))
    | .l (.s k ver) => rowK hp k ver fun _ l => Side (Nat.beq esz l.sz = true) <| K (.l (.w k ver esz i.toNat (h.toNat - i.toNat)))
    | .l (.w k ver sz i0 _) => rowK hp k ver fun _ _ => Side (Nat.beq esz sz = true) <| K (.l (.w k ver sz (i0 + i.toNat) (h.toNat - i.toNat)))
    | _ => False

def minI (x y : Int) : Int := if y < x then y else x
def maxI (x y : Int) : Int := if x < y then y else x

/-- Cells whose values are known. -/
def valsK : List LV → (List Value → Prop) → Prop
  | [], K => K []
  | .v x :: r, K => valsK r fun us => K (x :: us)
  | _, _ => False
/-- The method of a name. -/
def methK : List (String × FuncId × Bool) → String → (FuncId → Bool → Prop) → Prop
  | [], _, _ => False
  | (n, f, p) :: r, m, K => match n == m with
    | true => K f p
    | false => methK r m K
/-- A map from numbers. -/
def mapO (es : List (Int × Value)) (o : Obj) : Prop := ∃ en cl, o = .map en cl ∧ en.toList.map (fun e => (e.key, e.val)) = es.map fun x => (Value.int .i64 x.1, x.2)
def mapG : List (Int × Value) → Int → Option Value
  | [], _ => none
  | (k, v) :: r, n => match decide (k = n) with
    | true => some v
    | false => mapG r n
/-- Operations that answer the same in every world that keeps what was asked. -/
def softP (T : Tab) (W : Option (Nat × List Nat)) (fr : Fr) (hp : Hp) (op : Op) (K : AV → Prop) : Prop := match op with
  | .move x => evK fr x K
  | .assign x => evK fr x K
  | .pick c a b => evK fr c fun cv => match cv with
    | .l (.v (.bool t)) => Br t (evK fr a K) (evK fr b K)
    | _ => False
  | .binOp op t x y _ => evK fr x fun a => evK fr y fun b => binK T op t a b K
  | .unOp op _ x => evK fr x fun a => (match op with
    | .not => (match a with
      | .l (.v (.bool b)) => K (B (!b))
      | _ => False)
    | .neg => (match a with
      | .l (.v (.int k n)) => Side (rng k (0 - n)) <| K (I k (0 - n))
      | _ => False)
    | _ => False)
  | .extract x i => evK fr x fun a => (match a with
    | .t xs => sumK xs i K
    | _ => False)
  | .build t parts => tyK T t fun ti => (match ti.kind with
    | .struct fs => fillK fr fs parts.toList ti.zl fun cs => K (.a cs)
    | .arr _ _ esz _ => fillAK fr esz parts.toList ti.zl fun cs => K (.a cs)
    | _ => False)
  | .field t x f => evK fr x fun a => (match a with
    | .a cs => tyK T t fun ti => (match ti.kind with
      | .struct fs => fldK fs f fun off sz agg => cutK cs off sz agg K
      | _ => False)
    | _ => False)
  | .fieldAddr t x f => evK fr x fun a => tyK T t fun ti => (match ti.kind with
    | .struct fs => fldK fs f fun fo _ _ => (match a with
      | .l (.p k off) => K (.l (.p k (off + fo)))
      | .l (.e k ver sz i off) => rowK hp k ver fun _ _ => K (.l (.e k ver sz i (off + fo)))
      | .l (.g l i off) => K (.l (.g l i (off + fo)))
      | _ => False)
    | _ => False)
  | .indexAddr t x i => evK fr x fun a => evK fr i fun b => (match b with
    | .l (.v (.int _ n)) => tyK T t fun ti => (match ti.kind with
      | .slice _ esz _ => lenOfK hp a fun m => Side (0 ≤ n ∧ n < m) <| (match a with
        | .l (.f l) => Side (Nat.beq esz l.sz = true) <| K (.l (.g l n.toNat 0))
        | .l (.fx _ l) => Side (Nat.beq esz l.sz = true) <| K (.l (.g l n.toNat 0))
        | .l (.s k ver) => rowK hp k ver fun _ l => Side (Nat.beq esz l.sz = true) <| K (.l (.e k ver esz n.toNat 0))
        | .l (.w k ver sz i0 _) => rowK hp k ver fun _ _ => Side (Nat.beq esz sz = true) <| K (.l (.e k ver sz (i0 + n.toNat) 0))
        | _ => False)
      | .arr m _ esz _ => Side (0 ≤ n ∧ n < m) <| (match a with
        | .l (.p k off) => K (.l (.p k (off + n.toNat * esz)))
        | _ => False)
      | _ => False)
    | _ => False)
  | .index t x i => evK fr x fun a => evK fr i fun b => (match b with
    | .l (.v (.int _ n)) => tyK T t fun ti => (match ti.kind with
      | .arr m _ esz eagg => Side (0 ≤ n ∧ n < m) <| (match a with
        | .a cs => cutK cs (n.toNat * esz) esz eagg K
        | _ => False)
      | _ => False)
    | _ => False)
  | .load t x => evK fr x fun a => tyK T t fun ti => (match a with
    | .l (.p k off) => Side (mayAsk W k = true) <| getH hp k fun h => (match h with
      | .b cs _ => cutK cs off ti.sz ti.agg K
      | _ => False)
    | .l (.e k ver sz i off) => Side (mayAsk W k = true) <| rowK hp k ver fun _ l => Side (Nat.beq sz l.sz = true) <| Side (i < l.len) <| elK l i off ti.agg ti.sz K
    | .l (.g l i off) => Side (i < l.len) <| elK l i off ti.agg ti.sz K
    | _ => False)
  | .slice t x lo hi mx => (match mx with
    | none => evK fr x fun a => tyK T t fun ti => (match ti.kind with
      | .slice _ esz _ => cutS esz a hp fr lo hi K
      | _ => False)
    | some _ => False)
  | .nilCheck x => evK fr x fun a => (match a with
    | .l (.p k off) => K (.l (.p k off))
    | _ => False)
  | .makeInterface t x => evK fr x fun a => tyK T t fun ti => (match a with
    | .l (.p k 0) => (match ti.kind with
      | .ptr _ => K (.l (.o (some t) k))
      | _ => False)
    | .a cs => (match ti.kind with
      | .struct _ => valsK cs fun us => K (.l (.v (.iface t (.agg us.toArray))))
      | _ => False)
    | _ => False)
  | .typeAssert x _ t ok => (match ok with
    | true => False
    | false => evK fr x fun a => tyK T t fun ti => (match a with
      | .l (.v (.iface t' (.agg us))) => (match ti.kind with
        | .struct _ => Side (Nat.beq t' t = true) <| Side (us.toList.all (·.oneCell') = true) <| K (.a (us.toList.map .v))
        | _ => False)
      | _ => False))
  | .lookup t x i ok => (match ok with
    | true => False
    | false => evK fr x fun a => evK fr i fun b => (match a with
      | .l (.m k) => (match b with
        | .l (.v (.int .i64 n)) => tyK T t fun ti => (match ti.kind with
          | .map => Side (mayAsk W k = true) <| getH hp k fun h => (match h with
            | .x Φ => ∃ es v, (∀ o, Φ o → mapO es o) ∧ mapG es n = some v ∧ v.oneCell' = true ∧ K (.l (.v v))
            | _ => False)
          | _ => False)
        | _ => False)
      | _ => False))
  | .convert s d x => evK fr x fun a => tyK T s fun _ => (match a with
    | .l (.v (.int _ n)) => tyK T d fun ti => (match ti.kind with
      | .int k => Side (rng k n) <| K (I k n)
      | _ => False)
    | _ => False)
  | .call c => (match c.callee with
    | .builtin .len => evsK fr c.args.toList fun vs0 => (match vs0 with
      | [a] => (match c.argTypes.toList with
        | [t] => tyK T t fun ti => (match ti.kind with
          | .slice _ _ _ => lenOfK hp a fun n => K (I .i64 n)
          | .osl _ => lenOfK hp a fun n => K (I .i64 n)
          | .str => (match a with
            | .l (.v (.string s)) => K (I .i64 s.size)
            | _ => False)
          | _ => False)
        | _ => False)
      | _ => False)
    | .builtin .min => evsK fr c.args.toList fun vs0 => (match vs0 with
      | [.l (.v (.int k x)), .l (.v (.int _ y))] => K (I k (minI x y))
      | _ => False)
    | .builtin .max => evsK fr c.args.toList fun vs0 => (match vs0 with
      | [.l (.v (.int k x)), .l (.v (.int _ y))] => K (I k (maxI x y))
      | _ => False)
    | _ => False)
  | _ => False

/-- What a call does, by its contract. -/
structure CS where
  S : List AV → Hp → (AV → Hp → Prop) → Prop
  /-- which of the caller's blocks it may write: none: any -/
  tch : List AV → Option (List Nat)
abbrev Env := List (Nat × CS)
def csK : Env → Nat → (CS → Prop) → Prop
  | [], _, _ => False
  | (f', c) :: r, f, K => match Nat.beq f' f with
    | true => K c
    | false => csK r f K

def newH (rsv : Option Nat) (hp : Hp) (x : HB) (K : Nat → Hp → Prop) : Prop := match rsv with
  | none => endH hp 0 x K
  | some k => getH hp k fun h => match h with
    | .d => setH hp k x fun hp' => K k hp'
    | _ => False

def toELK (ek : EK) (cs : List LV) (K : EL → Prop) : Prop := match ek with
  | .ints => go cs K
  | .gots => go2 cs K
  | .bytes => (match cs with
    | [] => K (.bytes [])
    | _ => False)
  | .k3 => go3 cs K
where
  go : List LV → (EL → Prop) → Prop
    | [], K => K (.ints [])
    | .v (.int .i64 n) :: r, K => go r fun e => match e with
      | .ints l => K (.ints (n :: l))
      | _ => False
    | _, _ => False
  go2 : List LV → (EL → Prop) → Prop
    | [], K => K (.gots [])
    | .v (.int .i64 n) :: .v (.int .i64 m) :: r, K => go2 r fun e => match e with
      | .gots l => K (.gots ((n, m) :: l))
      | _ => False
    | _, _ => False
  go3 : List LV → (EL → Prop) → Prop
    | [], K => K (.k3 [])
    | .v (.int .i64 n) :: .v (.int .i64 m) :: .v (.int .i64 o) :: r, K => go3 r fun e => match e with
      | .k3 l => K (.k3 ((n, m, o) :: l))
      | _ => False
    | _, _ => False

/-- The parts of a slice literal, one behind the other. -/
def partsK (fr : Fr) (sz : Nat) : Nat → Nat → List (Nat × Operand) → (List LV → Prop) → Prop
  | _, 0, [], K => K []
  | i, n + 1, (i', x) :: r, K => Side (Nat.beq i i' = true) <| evK fr x fun a => cellsK a fun vs => lenK vs sz (partsK fr sz (i + 1) n r fun cs => overJ vs cs K)
  | _, _, _, _ => False
where
  overJ : List LV → List LV → (List LV → Prop) → Prop
    | [], cs, K => K cs
    | v :: vs, cs, K => overJ vs cs fun r => K (v :: r)

def appEL (l m : EL) (K : EL → Prop) : Prop := match l with
  | .ints x => (match m with
    | .ints y => K (.ints (x ++ y))
    | _ => False)
  | .gots x => (match m with
    | .gots y => K (.gots (x ++ y))
    | _ => False)
  | .bytes x => (match m with
    | .bytes y => K (.bytes (x ++ y))
    | _ => False)
  | .k3 x => (match m with
    | .k3 y => K (.k3 (x ++ y))
    | _ => False)
/-- Cells of an element are written. -/
def setEL (l : EL) (i off : Nat) (vs : List LV) (K : EL → Prop) : Prop := match l with
  | .ints l => (match off with
    | 0 => (match vs with
      | [.v (.int .i64 x)] => K (.ints (l.set i x))
      | _ => False)
    | _ => False)
  | .gots l => (match off with
    | 0 => (match vs with
      | [.v (.int .i64 x)] => K (.gots (l.set i (x, (l.getD i (0, 0)).2)))
      | [.v (.int .i64 x), .v (.int .i64 y)] => K (.gots (l.set i (x, y)))
      | _ => False)
    | 1 => (match vs with
      | [.v (.int .i64 y)] => K (.gots (l.set i ((l.getD i (0, 0)).1, y)))
      | _ => False)
    | _ => False)
  | .bytes _ => False
  | .k3 l => (match off with
    | 0 => (match vs with
      | [.v (.int .i64 x), .v (.int .i64 y), .v (.int .i64 z)] => K (.k3 (l.set i (x, y, z)))
      | _ => False)
    | _ => False)
def maxL : Nat := 1099511627776
def allIn : Option (Nat × List Nat) → List Nat → Bool
  | _, [] => true
  | W, k :: r => mayPut W k && allIn W r
def mayTch : Option (Nat × List Nat) → Option (List Nat) → Bool
  | W, some l => allIn W l
  | none, none => true
  | some _, none => false

/-- A channel with room for one number. -/
def chanO (l : List Int) (closed : Bool) (o : Obj) : Prop := ∃ s r, o = .chan 1 (l.map (Value.int .i64)).toArray closed s r false
/-- A new key of a map. -/
def insP (T : Tab) (W : Option (Nat × List Nat)) (fr : Fr) (hp : Hp) (t : TypeId) (x y z : Operand) (K : Hp → Prop) : Prop :=
  evK fr x fun a => evK fr y fun b => evK fr z fun c => tyK T t fun ti => (match ti.kind with
    | .map => (match a with
      | .l (.m k) => (match b with
        | .l (.v (.int .i64 n)) => (match c with
          | .l (.v v) => Side (mayPut W k = true) <| getH hp k fun h => (match h with
            | .x Φ => ∃ es, (∀ o, Φ o → mapO es o) ∧ mapG es n = none ∧ setH hp k (.x (mapO (es ++ [(n, v)]))) K
            | _ => False)
          | _ => False)
        | _ => False)
      | _ => False)
    | _ => False)
/-- One operation. -/
def effP (T : Tab) (G : Env) (W : Option (Nat × List Nat)) (rsv : Option Nat) (fr : Fr) (hp : Hp) (o : Oper) (K : Fr → Hp → Prop) : Prop := match o.op with
  | .alloc t => tyK T t fun ti => newH rsv hp (.b ti.zl t) fun k hp' => putF fr o.dst (.l (.p k 0)) fun fr' => K fr' hp'
  | .box t x => evK fr x fun a => cellsK a fun cs => newH rsv hp (.b cs t) fun k hp' => putF fr o.dst (.l (.p k 0)) fun fr' => K fr' hp'
  | .store t x y => evK fr x fun a => evK fr y fun b => cellsK b fun vs => tyK T t fun ti => lenK vs ti.sz (match a with
    | .l (.p k off) => Side (mayPut W k = true) <| getH hp k fun h => (match h with
      | .b cs T' => replK cs off vs fun cs' => setH hp k (.b cs' T') fun hp' => putF fr o.dst .j fun fr' => K fr' hp'
      | _ => False)
    | .l (.e k ver sz i off) => Side (mayPut W k = true) <| rowK hp k ver fun E l => Side (Nat.beq sz l.sz = true) <| Side (i < l.len) <| setEL l i off vs fun l' => setH hp k (.r ver E l') fun hp' => putF fr o.dst .j fun fr' => K fr' hp'
    | _ => False)
  | .buildSlice t n parts => tyK T t fun ti => (match ti.kind with
    | .slice e esz ek => Side (Nat.ble (n * esz) 16777216 = true) <| partsK fr esz 0 n parts.toList fun cs => toELK ek cs fun l => newH rsv hp (.r 0 e l) fun k hp' => putF fr o.dst (.l (.s k 0)) fun fr' => K fr' hp'
    | _ => False)
  | .makeSlice t n c => tyK T t fun ti => (match ti.kind with
    | .slice e _ ek => (match n with
      | .const (.int .i64 0) => evK fr c fun a => (match a with
        | .l (.v (.int .i64 m)) => Side (0 ≤ m ∧ m ≤ 1099511627776) <| newH rsv hp (.r 0 e ek.nil) fun k hp' => putF fr o.dst (.l (.s k 0)) fun fr' => K fr' hp'
        | _ => False)
      | .tmp y => evK fr (.tmp y) fun a => (match a with
        | .l (.v (.int .i64 m)) => evK fr c fun a2 => (match a2 with
          | .l (.v (.int .i64 m2)) => Side (0 ≤ m ∧ m ≤ 1099511627776) <| Side (m = m2) <| newH rsv hp (.r 0 e (ek.repl m.toNat)) fun k hp' => putF fr o.dst (.l (.s k 0)) fun fr' => K fr' hp'
          | _ => False)
        | _ => False)
      | _ => False)
    | _ => False)
  | .makeChan t n => tyK T t fun ti => (match ti.kind with
    | .chan => (match n with
      | .const (.int .i64 1) => newH rsv hp (.x (chanO [] false)) fun k hp' => putF fr o.dst (.l (.o none k)) fun fr' => K fr' hp'
      | _ => False)
    | _ => False)
  | .makeMap t r => tyK T t fun ti => (match ti.kind with
    | .map => (match r with
      | none => newH rsv hp (.x (mapO [])) fun k hp' => putF fr o.dst (.l (.m k)) fun fr' => K fr' hp'
      | some _ => False)
    | _ => False)
  | .insert t x y z => insP T W fr hp t x y z fun hp' => putF fr o.dst .j fun fr' => K fr' hp'
  | .mapUpdate t x y z => insP T W fr hp t x y z fun hp' => putF fr o.dst .j fun fr' => K fr' hp'
  | .call c => (match c.callee with
    | .builtin .append => (match c.args.toList with
      | [x, y] => (match c.argTypes.toList with
        | [t, t2] => tyK T t fun ti => (match ti.kind with
          | .slice e esz ek => Side (Nat.beq t t2 = true) <| evK fr x fun a => evK fr y fun b => readK hp ek b fun m => Side (Nat.beq esz m.sz = true) <| (match a with
            | .l (.s k ver) => Side (mayPut W k = true) <| rowK hp k ver fun E l => Side (Nat.beq E e = true) <| Side (l.len + m.len ≤ maxL) <| appEL l m fun l' => setH hp k (.r (ver + 1) e l') fun hp' => putF fr o.dst (.l (.s k (ver + 1))) fun fr' => K fr' hp'
            | .l (.v (.slice none 0 0)) => endH hp 0 (.r 0 e m) fun k hp' => putF fr o.dst (.l (.s k 0)) fun fr' => K fr' hp'
            | _ => False)
          | _ => False)
        | _ => False)
      | _ => False)
    | .invoke r name => evK fr r fun a => (match a with
      | .l (.o (some t) k) => tyK T t fun ti => methK ti.ms name fun f p => csK G f fun c' => evsK fr c.args.toList fun vs0 => (match p with
        | true => Side (mayTch W (c'.tch (.l (.p k 0) :: vs0)) = true) <| c'.S (.l (.p k 0) :: vs0) hp fun r hp' => putF fr o.dst r fun fr' => K fr' hp'
        | false => (match ti.kind with
          | .ptr e => tyK T e fun ei => Side (mayAsk W k = true) <| getH hp k fun h => (match h with
            | .b cs _ => cutK cs 0 ei.sz ei.agg fun x => Side (mayTch W (c'.tch (x :: vs0)) = true) <| c'.S (x :: vs0) hp fun r hp' => putF fr o.dst r fun fr' => K fr' hp'
            | _ => False)
          | _ => False))
      | _ => False)
    | .value (.func f) => csK G f fun c' => evsK fr c.args.toList fun vs0 => Side (mayTch W (c'.tch vs0) = true) <| c'.S vs0 hp fun r hp' => putF fr o.dst r fun fr' => K fr' hp'
    | .value (.tmp d) => getF fr d fun fv => (match fv with
      | .l (.v (.func (.func f) us vs)) => Side (us = #[]) <| Side (vs = #[]) <| csK G f fun c' => evsK fr c.args.toList fun vs0 => Side (mayTch W (c'.tch vs0) = true) <| c'.S vs0 hp fun r hp' => putF fr o.dst r fun fr' => K fr' hp'
      | _ => False)
    | _ => softP T none fr hp o.op fun r => putF fr o.dst r fun fr' => K fr' hp)
  | _ => softP T none fr hp o.op fun r => putF fr o.dst r fun fr' => K fr' hp

def getO : List Oper → Nat → (Oper → Prop) → Prop
  | [], _, _ => False
  | a :: _, 0, K => K a
  | _ :: r, n + 1, K => getO r n K
/-- Is the operation wanted? -/
def wantK (all : List Oper) (fr : Fr) (o : Oper) (p q : Prop) : Prop := match o.guard with
  | none => p
  | some (i, b) => getO all i fun oi => (match oi.dst with
    | some d => getF fr d fun a => (match a with
      | .l (.v (.bool t)) => (match b with
        | true => Br t p q
        | false => Br t q p)
      | .t xs => (match xs with
        | [] => q
        | _ => False)
      | _ => False)
    | none => False)

def opsK (T : Tab) (G : Env) (all : List Oper) : List Oper → Fr → Hp → (Fr → Hp → Prop) → Prop
  | [], fr, hp, K => K fr hp
  | o :: r, fr, hp, K => wantK all fr o (effP T G none none fr hp o fun fr' hp' => opsK T G all r fr' hp' K) (putF fr o.dst (.t []) fun fr' => opsK T G all r fr' hp K)

def isNew : Op → Bool
  | .alloc _ | .box _ _ | .buildSlice .. | .makeSlice .. | .makeChan .. | .makeMap .. => true
  | _ => false
/-- How many operations before i make a block. -/
def newsB : List Oper → Nat → Nat
  | _, 0 => 0
  | [], _ + 1 => 0
  | o :: r, n + 1 => match isNew o.op with
    | true => newsB r n + 1
    | false => newsB r n

/-- A number, counted out. -/
def natK : Nat → (Nat → Prop) → Prop
  | 0, K => K 0
  | n + 1, K => natK n fun m => K (m + 1)
def natsK : List Nat → (List Nat → Prop) → Prop
  | [], K => K []
  | a :: r, K => natK a fun a' => natsK r fun r' => K (a' :: r')
/-- One operation of a region that draws: kind 0: it answers the same later; 1: what may be asked stays; 2: nobody asks behind it. -/
def stepT (T : Tab) (G : Env) (all : List Oper) (W : Nat × List Nat) (base : Nat) (i k : Nat) (fr : Fr) (hp : Hp) (K : Fr → Hp → Prop) : Prop := getO all i fun o => (match k with
  | 0 => wantK all fr o (softP T (some W) fr hp o.op fun r => putF fr o.dst r fun fr' => K fr' hp) (putF fr o.dst (.t []) fun fr' => K fr' hp)
  | 1 => wantK all fr o (natK (base + newsB all i) fun k => effP T G (some W) (some k) fr hp o K) (putF fr o.dst (.t []) fun fr' => K fr' hp)
  | _ => wantK all fr o (natK (base + newsB all i) fun k => effP T G none (some k) fr hp o K) (putF fr o.dst (.t []) fun fr' => K fr' hp))
def lateK (T : Tab) (G : Env) (all : List Oper) (W : Nat × List Nat) (base : Nat) : Tr → Fr → Hp → (Fr → Hp → Prop) → Prop
  | .nil, fr, hp, K => End (K fr hp)
  | .op i k t, fr, hp, K => (match k with
    | 0 => False
    | 1 => False
    | _ => stepT T G all W base i 2 fr hp fun fr' hp' => lateK T G all W base t fr' hp' K)
  | .fork .., _, _, _ => False
def treeK (T : Tab) (G : Env) (all : List Oper) (W : Nat × List Nat) (base : Nat) : Tr → Fr → Hp → (Fr → Hp → Prop) → Prop
  | .nil, fr, hp, K => End (K fr hp)
  | .op i k t, fr, hp, K => (match k with
    | 0 => stepT T G all W base i 0 fr hp fun fr' hp' => treeK T G all W base t fr' hp' K
    | 1 => stepT T G all W base i 1 fr hp fun fr' hp' => treeK T G all W base t fr' hp' K
    | _ => stepT T G all W base i 2 fr hp fun fr' hp' => lateK T G all W base t fr' hp' K)
  | .fork i _ t j _ u, fr, hp, K =>
    Fork (∀ K', (stepT T G all W base i 1 fr hp fun fr' hp' => treeK T G all W base t fr' hp' K') → stepT T G all W base j 1 fr hp fun fr' hp' => treeK T G all W base u fr' hp' K')
      (stepT T G all W base i 1 fr hp fun fr' hp' => treeK T G all W base t fr' hp' K)

def isApp (o : Oper) : Bool := match o.op with
  | .call c => (match c.callee with
    | .builtin .append => true
    | _ => false)
  | _ => false
def anyApp : List Oper → Bool
  | [] => false
  | o :: r => match isApp o with
    | true => true
    | false => anyApp r
def isWr (o : Oper) : Bool := match o.op with
  | .call c => (match c.callee with
    | .builtin .append => true
    | .builtin .copy => true
    | .builtin _ => false
    | _ => true)
  | .store .. => true
  | _ => false
def anyWr : List Oper → Bool
  | [] => false
  | o :: r => match isWr o with
    | true => true
    | false => anyWr r
/-- What a region that draws may write. -/
def wrOf (ops : List Oper) (W0 : List Nat) (rows : List Nat) : List Nat := match anyWr ops with
  | false => []
  | true => (match anyApp ops with
    | true => W0 ++ rows
    | false => W0)
/-- The blocks that stores write which are no late ones. -/
def tgtOf (fr : Fr) (o : Oper) : List Nat := match o.op with
  | .store _ x _ => (match x with
    | .tmp d => (match fr[d]? with
      | some (.l (.p k _)) => [k]
      | _ => [])
    | _ => [])
  | _ => []
def tgtAt (fr : Fr) (ops : List Oper) (i k : Nat) : List Nat := match k with
  | 1 => (match ops[i]? with
    | some o => tgtOf fr o
    | none => [])
  | _ => []
def stW (fr : Fr) (ops : List Oper) : Tr → List Nat
  | .nil => []
  | .op i k t => tgtAt fr ops i k ++ stW fr ops t
  | .fork i k t j l u => tgtAt fr ops i k ++ (stW fr ops t ++ (tgtAt fr ops j l ++ stW fr ops u))
def rowsOf : Nat → Hp → List Nat
  | _, [] => []
  | k, .r .. :: r => k :: rowsOf (k + 1) r
  | k, _ :: r => rowsOf (k + 1) r
def rsvK : Nat → Hp → (Hp → Prop) → Prop
  | 0, hp, K => K hp
  | n + 1, hp, K => endH hp 0 .d fun _ hp' => rsvK n hp' K
/-- How a piece of code is left. -/
inductive Xt where
  | n
  | x (id : Nat)
  | r

abbrev Go1 := Fr → Hp → (Xt → Fr → Hp → Prop) → Prop

def iterK (X : Go1) : Nat → Go1
  | 0, _, _, _ => False
  | n + 1, fr, hp, K => X fr hp fun e fr' hp' => match e with
    | .n => iterK X n fr' hp' K
    | .x id => K (.x id) fr' hp'
    | .r => K .r fr' hp'

/-- The leaf t says no more than the leaf s, when the blocks of t are those that ρ names. -/
def covL (ρ : List Nat) (ht hs : Hp) (t s : LV) : Prop := match t with
  | .j => True
  | .p k off => (match s with
    | .p k' off' => ρ[k]? = some k' ∧ off = off' ∧ getH ht k fun h => (match h with
      | .b _ _ => True
      | _ => False)
    | _ => False)
  | .s k ver => (match s with
    | .s k' ver' => ρ[k]? = some k' ∧ rowK ht k ver (fun _ _ => rowK hs k' ver' fun _ _ => True)
    | _ => False)
  | .w k ver sz i n => (match s with
    | .w k' ver' sz' i' n' => (ρ[k]? = some k' ∧ sz = sz' ∧ i = i' ∧ n = n') ∧ rowK ht k ver (fun _ _ => rowK hs k' ver' fun _ _ => True)
    | .s k' ver' => (ρ[k]? = some k' ∧ i = 0) ∧ rowK ht k ver (fun _ _ => rowK hs k' ver' fun _ l => n = l.len ∧ sz = l.sz)
    | _ => False)
  | .e .. => False
  | .g .. => False
  | .o T k => (match s with
    | .o T' k' => T = T' ∧ ρ[k]? = some k' ∧ getH ht k fun h => (match h with
      | .b _ _ => True
      | _ => False)
    | _ => False)
  | .m k => (match s with
    | .m k' => ρ[k]? = some k' ∧ getH ht k fun h => (match h with
      | .x _ => True
      | _ => False)
    | _ => False)
  | .v x => .v x = s
  | .f l => .f l = s
  | .fx v l => .fx v l = s
def covLs (ρ : List Nat) (ht hs : Hp) : List LV → List LV → Prop → Prop
  | [], [], p => p
  | t :: ts, s :: ss, p => (match t with
    | .j => covLs ρ ht hs ts ss p
    | t => Side (covL ρ ht hs t s) <| covLs ρ ht hs ts ss p)
  | _, _, _ => False
def covF (ρ : List Nat) (ht hs : Hp) : Fr → Fr → Prop → Prop
  | [], [], p => p
  | t :: ts, s :: ss, p => (match t with
    | .j => covF ρ ht hs ts ss p
    | .l x => (match s with
      | .l y => covLs ρ ht hs [x] [y] (covF ρ ht hs ts ss p)
      | _ => False)
    | .a xs => (match s with
      | .a ys => covLs ρ ht hs xs ys (covF ρ ht hs ts ss p)
      | _ => False)
    | .t _ => False)
  | _, _, _ => False
/-- The blocks; those below N are the caller's: they stay where they are. -/
def covHs (N : Nat) (ρ : List Nat) (ht hs : Hp) : Nat → List HB → List Nat → Prop → Prop
  | _, [], [], p => p
  | i, t :: ts, k :: ks, p => getH hs k fun s => (match t with
    | .d => Side (Nat.ble N i = true) <| covHs N ρ ht hs (i + 1) ts ks p
    | .b cs T => (match s with
      | .b cs' T' => Side ((Nat.ble N i || Nat.beq i k) = true) <| Side (Nat.beq T T' = true) <| covLs ρ ht hs cs cs' (covHs N ρ ht hs (i + 1) ts ks p)
      | _ => False)
    | .r ver E l => (match s with
      | .r ver' E' l' => Side ((Nat.ble N i || (Nat.beq i k && Nat.beq ver ver')) = true) <| Side (Nat.beq E E' = true) <| Side (l = l') <| covHs N ρ ht hs (i + 1) ts ks p
      | _ => False)
    | .x Φ => (match s with
      | .x Φ' => Side ((Nat.ble N i || Nat.beq i k) = true) <| Side (∀ o, Φ' o → Φ o) <| covHs N ρ ht hs (i + 1) ts ks p
      | _ => False))
  | _, _, _, _ => False
def lenH : Hp → Nat
  | [] => 0
  | _ :: r => lenH r + 1

def nodupB : List Nat → Bool
  | [] => true
  | a :: r => !memN r a && nodupB r
def cov (N : Nat) (ρ : List Nat) (ft : Fr) (ht : Hp) (fs : Fr) (hs : Hp) : Prop := Side ((nodupB ρ && Nat.ble N ρ.length && Nat.beq (lenH ht) ρ.length) = true) <| covHs N ρ ht hs 0 ht ρ (covF ρ ht hs ft fs True)

def updF : List (Nat × AV) → Fr → (Fr → Prop) → Prop
  | [], fr, K => K fr
  | (k, x) :: r, fr, K => setF fr k x fun fr' => updF r fr' K
def updH : List (Nat × HB) → Hp → (Hp → Prop) → Prop
  | [], hp, K => K hp
  | (k, x) :: r, hp, K => setH hp k x fun hp' => updH r hp' K
def killF : List Nat → Fr → (Fr → Prop) → Prop
  | [], fr, K => K fr
  | k :: r, fr, K => setF fr k .j fun fr' => killF r fr' K
def dropT : Fr → (Fr → Prop) → Prop
  | [], K => K []
  | a :: r, K => dropT r fun r' => (match a with
    | .l x => K (.l x :: r')
    | .a cs => K (.a cs :: r')
    | .t _ => K (.j :: r')
    | .j => K (.j :: r'))
/-- The state at a loop's head: what the loop writes is forgotten, what is named is known. -/
def headK (ws : List Nat) (fr : Fr) (hp : Hp) (u : List (Nat × AV)) (v : List (Nat × HB)) (K : Fr → Hp → Prop) : Prop :=
  dropT fr fun fr0 => killF ws fr0 fun fr1 => updF u fr1 fun fr2 => updH v hp fun hp2 => K fr2 hp2

inductive LoopI (N : Nat) (X : Go1) (ws : List Nat) (fr : Fr) (hp : Hp) (K : Xt → Fr → Hp → Prop) : Prop where
  | it (n : Nat) (h : iterK X n fr hp K)
  | inv (σ : Type) (u : σ → List (Nat × AV)) (v : σ → List (Nat × HB)) (μ : σ → Nat) (x0 : σ) (ρ : List Nat) (h0 : headK ws fr hp (u x0) (v x0) fun ft ht => cov N ρ ft ht fr hp)
    (h : ∀ x, headK ws fr hp (u x) (v x) fun ft ht => X ft ht fun e fr' hp' => match e with
      | .n => ∃ x' ρ, μ x' < μ x ∧ headK ws fr hp (u x') (v x') fun ft' ht' => cov N ρ ft' ht' fr' hp'
      | .x id => K (.x id) fr' hp'
      | .r => K .r fr' hp')
  | invP (m : Nat) (σ : Type) (u : σ → List (Nat × AV)) (v : σ → List (Nat × HB)) (μ : σ → Nat) (x0 : σ) (ρ : List Nat) (h0 : rsvK m hp fun hp1 => headK ws fr hp1 (u x0) (v x0) fun ft ht => cov N ρ ft ht fr hp1)
    (h : ∀ x, rsvK m hp fun hp1 => headK ws fr hp1 (u x) (v x) fun ft ht => X ft ht fun e fr' hp' => match e with
      | .n => ∃ x' ρ, μ x' < μ x ∧ rsvK m hp fun hp1 => headK ws fr hp1 (u x') (v x') fun ft' ht' => cov N ρ ft' ht' fr' hp'
      | .x id => K (.x id) fr' hp'
      | .r => K .r fr' hp')
def iterL (N : Nat) (X : Go1) (ws : List Nat) : Nat → Go1
  | 0, fr, hp, K => LoopI N X ws fr hp K
  | n + 1, fr, hp, K => X fr hp fun e fr' hp' => match e with
    | .n => iterL N X ws n fr' hp' K
    | .x id => K (.x id) fr' hp'
    | .r => K .r fr' hp'
/-- A loop: by rounds, by an invariant, or some rounds first. -/
inductive LoopG (N : Nat) (X : Go1) (ws : List Nat) (fr : Fr) (hp : Hp) (K : Xt → Fr → Hp → Prop) : Prop where
  | g (h : LoopI N X ws fr hp K)
  | un (n : Nat) (h : iterL N X ws n fr hp K)
section
variable {N : Nat} {X : Go1} {ws : List Nat} {fr : Fr} {hp : Hp} {K : Xt → Fr → Hp → Prop}
theorem LoopG.it (n : Nat) (h : iterK X n fr hp K) : LoopG N X ws fr hp K := .g (.it n h)
theorem LoopG.inv (σ : Type) (u : σ → List (Nat × AV)) (v : σ → List (Nat × HB)) (μ : σ → Nat) (x0 : σ) (ρ : List Nat) (h0 : headK ws fr hp (u x0) (v x0) fun ft ht => cov N ρ ft ht fr hp)
    (h : ∀ x, headK ws fr hp (u x) (v x) fun ft ht => X ft ht fun e fr' hp' => match e with
      | .n => ∃ x' ρ, μ x' < μ x ∧ headK ws fr hp (u x') (v x') fun ft' ht' => cov N ρ ft' ht' fr' hp'
      | .x id => K (.x id) fr' hp'
      | .r => K .r fr' hp') : LoopG N X ws fr hp K := .g (.inv σ u v μ x0 ρ h0 h)
theorem LoopG.invP (m : Nat) (σ : Type) (u : σ → List (Nat × AV)) (v : σ → List (Nat × HB)) (μ : σ → Nat) (x0 : σ) (ρ : List Nat) (h0 : rsvK m hp fun hp1 => headK ws fr hp1 (u x0) (v x0) fun ft ht => cov N ρ ft ht fr hp1)
    (h : ∀ x, rsvK m hp fun hp1 => headK ws fr hp1 (u x) (v x) fun ft ht => X ft ht fun e fr' hp' => match e with
      | .n => ∃ x' ρ, μ x' < μ x ∧ rsvK m hp fun hp1 => headK ws fr hp1 (u x') (v x') fun ft' ht' => cov N ρ ft' ht' fr' hp'
      | .x id => K (.x id) fr' hp'
      | .r => K .r fr' hp') : LoopG N X ws fr hp K := .g (.invP m σ u v μ x0 ρ h0 h)
end

/-- The order is one that the region allows, and serves for all. -/
def regOk (t : Tr) (ops : Array Oper) : Bool := Nat.beq t.len ops.size && Region.noSelect ops && lateOk .any ops t.flat && canonOk .any ops (Array.replicate ops.size false) t

/-- The slots that a piece of code writes. -/
def dsts : List Oper → List Nat
  | [] => []
  | o :: r => match o.dst with
    | some d => d :: dsts r
    | none => dsts r
def wrs : Code → List Nat
  | .region _ ops _ => dsts ops.toList
  | .seq a b => wrs a ++ wrs b
  | .cond _ a b => wrs a ++ wrs b
  | .block _ c => wrs c
  | .loop c => wrs c
  | _ => []

def exec (T : Tab) (G : Env) (N : Nat) (W0 : List Nat) (TR : Nat → Tr) : Code → Go1
  | .skip => fun fr hp K => K .n fr hp
  | .region id ops draw => fun fr hp K => (match draw with
    | false => opsK T G ops.toList ops.toList fr hp fun fr' hp' => K .n fr' hp'
    | true => Side (regOk (TR id) ops = true) <| rsvK (newsB ops.toList ops.size) hp fun hp' => natK (lenH hp) fun base => natsK (wrOf ops.toList W0 (rowsOf 0 hp) ++ stW fr ops.toList (TR id)) fun W => treeK T G ops.toList (base, W) base (TR id) fr hp' fun fr' hp' => K .n fr' hp')
  | .seq a b => fun fr hp K => exec T G N W0 TR a fr hp fun e fr' hp' => (match e with
    | .n => exec T G N W0 TR b fr' hp' K
    | .x id => K (.x id) fr' hp'
    | .r => K .r fr' hp')
  | .cond c a b => fun fr hp K => evK fr c fun v => (match v with
    | .l (.v (.bool t)) => Br t (exec T G N W0 TR a fr hp K) (exec T G N W0 TR b fr hp K)
    | _ => False)
  | .block id c => fun fr hp K => exec T G N W0 TR c fr hp fun e fr' hp' => (match e with
    | .n => K .n fr' hp'
    | .x id' => (match Nat.beq id' id with
      | true => K .n fr' hp'
      | false => K (.x id') fr' hp')
    | .r => K .r fr' hp')
  | .loop c => fun fr hp K => LoopG N (exec T G N W0 TR c) (wrs c) fr hp K
  | .exit id => fun fr hp K => K (.x id) fr hp
  | .ret => fun fr hp K => K .r fr hp
  | _ => fun _ _ _ => False

/-- The results, out of the frame. -/
def resK (T : Tab) (fr : Fr) (hp : Hp) : ResultVar → (AV → Prop) → Prop
  | .tmp t, K => getF fr t K
  | .cell t ty, K => softP T none fr hp (.load ty (.tmp t)) K
def resOf (a : AV) (K : (LV ⊕ List LV) → Prop) : Prop := match a with
  | .l x => K (.inl x)
  | .a cs => K (.inr cs)
  | _ => False
def ressK (T : Tab) (fr : Fr) (hp : Hp) : List ResultVar → (List (LV ⊕ List LV) → Prop) → Prop
  | [], K => K []
  | r :: rs, K => resK T fr hp r fun a => resOf a fun x => ressK T fr hp rs fun xs => K (x :: xs)
def outK (T : Tab) (fr : Fr) (hp : Hp) (rs : List ResultVar) (K : AV → Prop) : Prop := match rs with
  | [r] => resK T fr hp r K
  | rs => ressK T fr hp rs fun xs => K (.t xs)

def padF : Nat → Fr → Fr
  | 0, vs0 => vs0
  | n + 1, [] => .j :: padF n []
  | n + 1, a :: vs0 => a :: padF n vs0

/-- A whole function, from its arguments. -/
def callP (T : Tab) (G : Env) (N : Nat) (W0 : List Nat) (TR : Nat → Tr) (fn : Func) (vs0 : List AV) (hp : Hp) (K : AV → Hp → Prop) : Prop := match fn.body with
  | none => False
  | some c => exec T G N W0 TR c (padF fn.ntmps vs0) hp fun e fr' hp' => (match e with
    | .n => outK T fr' hp' fn.results.toList fun r => K r hp'
    | .r => outK T fr' hp' fn.results.toList fun r => K r hp'
    | .x _ => False)

end Ab
end Go.Proofs.YtkhggobpanfkfaaDoor

/-
  What abstract values stand for, and what becomes of it when the memory changes. Plain lemmas; no condition.
-/
namespace Go.Proofs.YtkhggobpanfkfaaDoor
open Go.RowKit
namespace Ab

/-! ### The walk's words, read -/
theorem side_iff {p q : Prop} : Side p q ↔ p ∧ q := ⟨fun ⟨a, b⟩ => ⟨a, b⟩, fun ⟨a, b⟩ => ⟨a, b⟩⟩
theorem end_iff {p : Prop} : End p ↔ p := ⟨fun ⟨a⟩ => a, fun a => ⟨a⟩⟩
theorem br_iff {t : Bool} {p q : Prop} : Br t p q ↔ (t = true → p) ∧ (t = false → q) := ⟨fun ⟨a, b⟩ => ⟨a, b⟩, fun ⟨a, b⟩ => ⟨a, b⟩⟩
theorem br_ite {t : Bool} {p q : Prop} : Br t p q ↔ if t then p else q := by
  rw [br_iff]; cases t <;> simp

theorem beqF {a b : Nat} (h : ¬ a = b) : Nat.beq a b = false := by
  cases hb : Nat.beq a b with
  | false => rfl
  | true => exact absurd (Nat.eq_of_beq_eq_true hb) h
def tyL : Tab → TypeId → Option TI
  | [], _ => none
  | (t', i) :: r, t => if t' = t then some i else tyL r t
theorem tyK_iff {T : Tab} {t : TypeId} {K : TI → Prop} : tyK T t K ↔ ∃ i, tyL T t = some i ∧ K i := by
  induction T with
  | nil => simp [tyK, tyL]
  | cons x r ih =>
    obtain ⟨t', i⟩ := x
    by_cases h : t' = t
    · subst h; simp [tyK, tyL]
    · have : Nat.beq t' t = false := beqF h
      simp only [tyK, tyL, this, if_neg h, ih]
theorem getF_iff {fr : Fr} {n : Nat} {K : AV → Prop} : getF fr n K ↔ ∃ x, fr[n]? = some x ∧ K x := by
  induction fr generalizing n with
  | nil => simp [getF]
  | cons a r ih => cases n <;> simp [getF, ih]
theorem setF_iff {fr : Fr} {n : Nat} {x : AV} {K : Fr → Prop} : setF fr n x K ↔ n < fr.length ∧ K (fr.set n x) := by
  induction fr generalizing n K with
  | nil => simp [setF]
  | cons a r ih => cases n <;> simp [setF, ih]
theorem getH_iff {hp : Hp} {n : Nat} {K : HB → Prop} : getH hp n K ↔ ∃ x, hp[n]? = some x ∧ K x := by
  induction hp generalizing n with
  | nil => simp [getH]
  | cons a r ih => cases n <;> simp [getH, ih]
theorem setH_iff {hp : Hp} {n : Nat} {x : HB} {K : Hp → Prop} : setH hp n x K ↔ n < hp.length ∧ K (hp.set n x) := by
  induction hp generalizing n K with
  | nil => simp [setH]
  | cons a r ih => cases n <;> simp [setH, ih]
theorem endH_iff {hp : Hp} {k : Nat} {x : HB} {K : Nat → Hp → Prop} : endH hp k x K ↔ K (k + hp.length) (hp ++ [x]) := by
  induction hp generalizing k K with
  | nil => simp [endH]
  | cons a r ih => simp [endH, ih, Nat.add_assoc, Nat.add_comm 1]
theorem dropK_iff {cs : List LV} {n : Nat} {K : List LV → Prop} : dropK cs n K ↔ n ≤ cs.length ∧ K (cs.drop n) := by
  induction cs generalizing n with
  | nil => cases n <;> simp [dropK]
  | cons a r ih => cases n <;> simp [dropK, ih]
theorem takeK_iff {cs : List LV} {n : Nat} {K : List LV → Prop} : takeK cs n K ↔ n ≤ cs.length ∧ K (cs.take n) := by
  induction cs generalizing n K with
  | nil => cases n <;> simp [takeK]
  | cons a r ih => cases n <;> simp [takeK, ih]
theorem overK_iff {cs vs : List LV} {K : List LV → Prop} : overK cs vs K ↔ vs.length ≤ cs.length ∧ K (vs ++ cs.drop vs.length) := by
  induction vs generalizing cs K with
  | nil => cases cs <;> simp [overK]
  | cons v vs ih => cases cs <;> simp [overK, ih]
theorem replK_iff {cs vs : List LV} {n : Nat} {K : List LV → Prop} : replK cs n vs K ↔ n + vs.length ≤ cs.length ∧ K (cs.take n ++ vs ++ cs.drop (n + vs.length)) := by
  induction cs generalizing n K with
  | nil =>
    cases n
    · simp [replK, overK_iff]
    · simp [replK]
  | cons a r ih =>
    cases n
    · simp [replK, overK_iff]
    · simp [replK, ih, Nat.add_right_comm]
theorem lenK_iff {cs : List LV} {n : Nat} {p : Prop} : lenK cs n p ↔ cs.length = n ∧ p := by
  induction cs generalizing n with
  | nil => cases n <;> simp [lenK]
  | cons a r ih => cases n <;> simp [lenK, ih]
theorem fldK_iff {fs : List (Nat × Nat × Bool)} {n : Nat} {K : Nat → Nat → Bool → Prop} : fldK fs n K ↔ ∃ o s g, fs[n]? = some (o, s, g) ∧ K o s g := by
  induction fs generalizing n with
  | nil => simp [fldK]
  | cons a r ih =>
    obtain ⟨o, s, g⟩ := a
    cases n with
    | zero =>
      simp only [fldK, List.getElem?_cons_zero, Option.some.injEq, Prod.mk.injEq]
      exact ⟨fun h => ⟨_, _, _, ⟨rfl, rfl, rfl⟩, h⟩, fun ⟨_, _, _, ⟨rfl, rfl, rfl⟩, h⟩ => h⟩
    | succ n => simp only [fldK, List.getElem?_cons_succ, ih]
theorem natK_iff {n : Nat} {K : Nat → Prop} : natK n K ↔ K n := by
  induction n generalizing K with
  | zero => simp [natK]
  | succ n ih => simp [natK, ih]
theorem natsK_iff {l : List Nat} {K : List Nat → Prop} : natsK l K ↔ K l := by
  induction l generalizing K with
  | nil => simp [natsK]
  | cons a r ih => simp [natsK, natK_iff, ih]
theorem getO_iff {l : List Oper} {n : Nat} {K : Oper → Prop} : getO l n K ↔ ∃ x, l[n]? = some x ∧ K x := by
  induction l generalizing n with
  | nil => simp [getO]
  | cons a r ih => cases n <;> simp [getO, ih]
theorem lenH_eq (hp : Hp) : lenH hp = hp.length := by
  induction hp with
  | nil => rfl
  | cons a r ih => simp [lenH, ih]
theorem rsvK_iff {n : Nat} {hp : Hp} {K : Hp → Prop} : rsvK n hp K ↔ K (hp ++ List.replicate n .d) := by
  induction n generalizing hp with
  | zero => simp [rsvK]
  | succ n ih => simp [rsvK, endH_iff, ih, List.replicate_succ]
theorem csK_spec {G : Env} {f : Nat} {K : CS → Prop} (h : csK G f K) : ∃ c, (f, c) ∈ G ∧ K c := by
  induction G with
  | nil => simp [csK] at h
  | cons a r ih =>
    obtain ⟨f', c⟩ := a
    cases hb : Nat.beq f' f with
    | true =>
      have : f' = f := by simpa using hb
      subst this
      simp only [csK, hb] at h
      exact ⟨c, by simp, h⟩
    | false =>
      simp only [csK, hb] at h
      obtain ⟨c', h1, h2⟩ := ih h
      exact ⟨c', by simp [h1], h2⟩
theorem csK_mono {G : Env} {f : Nat} {K K' : CS → Prop} (h : csK G f K) (hk : ∀ c, (f, c) ∈ G → K c → K' c) : csK G f K' := by
  induction G with
  | nil => simp [csK] at h
  | cons a r ih =>
    obtain ⟨f', c⟩ := a
    cases hb : Nat.beq f' f with
    | true =>
      have : f' = f := by simpa using hb
      subst this
      simp only [csK, hb] at h ⊢
      exact hk c (by simp) h
    | false =>
      simp only [csK, hb] at h ⊢
      exact ih h fun c hc => hk c (by simp [hc])
theorem memN_iff {l : List Nat} {k : Nat} : memN l k = true ↔ k ∈ l := by
  induction l with
  | nil => simp [memN]
  | cons a r ih =>
    cases hb : Nat.beq a k with
    | true => have : a = k := by simpa using hb
              subst this; simp [memN]
    | false => have : ¬ a = k := by intro e; subst e; simp at hb
               simp [memN, hb, ih, Ne.symm this]

/-! ### What they stand for -/

/-- What is fixed while a function runs: the world in which it began; the blocks that it was lent. -/
structure Cx where
  w0 : World
  M : List Nat

/-- Beyond the blocks of S, what was there is there. -/
structure Tch (S : Nat → Prop) (w w' : World) : Prop where
  os : w'.os = w.os
  tape : w'.tape = w.tape
  output : w'.output = w.output
  size : w.heap.size ≤ w'.heap.size
  block : ∀ b, b < w.heap.size → ¬ S b → w'.heap[b]? = w.heap[b]?

theorem Tch.refl (S : Nat → Prop) (w : World) : Tch S w w := ⟨rfl, rfl, rfl, Nat.le_refl _, fun _ _ _ => rfl⟩
theorem Tch.trans {S : Nat → Prop} {a b c : World} (h : Tch S a b) (k : Tch S b c) : Tch S a c :=
  ⟨k.os.trans h.os, k.tape.trans h.tape, k.output.trans h.output, Nat.le_trans h.size k.size, fun i hi hs => (k.block i (Nat.lt_of_lt_of_le hi h.size) hs).trans (h.block i hi hs)⟩
theorem Tch.mono {S S' : Nat → Prop} {w w' : World} (h : Tch S w w') (hs : ∀ b, b < w.heap.size → S b → S' b) : Tch S' w w' :=
  ⟨h.os, h.tape, h.output, h.size, fun b hb hn => h.block b hb fun e => hn (hs b hb e)⟩
theorem Tch.of_below {S : Nat → Prop} {w w' : World} (h : Below w.heap.size w w') : Tch S w w' := ⟨h.os, h.tape, h.output, h.size, fun b hb _ => h.block b hb⟩
theorem Tch.of_grown {w w' : World} {row : Option Nat} (h : w.grownBy w' row) : Tch (fun b => row = some b) w w' :=
  ⟨h.os, h.tape, h.output, h.size, fun b hb hn => h.block b hb fun e => hn e.symm⟩
theorem Tch.drew {S : Nat → Prop} {w w' : World} (h : Tch S w w') : Tch S w w'.drew := ⟨h.os, h.tape, h.output, h.size, h.block⟩
theorem Tch.below {w w' : World} (h : Tch (fun _ => False) w w') : Below w.heap.size w w' := ⟨h.os, h.tape, h.output, h.size, fun b hb => h.block b hb id⟩

/-- A list that came in, in memory that nobody writes. -/
def FZ (cx : Cx) (v : Value) (l : EL) : Prop := Sl cx.w0 l.sz v l.len l.enc ∧ l.len ≤ maxL ∧ (l.len ≠ 0 → ∀ b, v.ownBlock = some b → b ∉ cx.M)

/-- Where a block or a list of the call's own lies. -/
inductive En where
  | b (n : Nat)
  | r (v : Value) (ver : Nat)
  | x

/-- v is the part of v1 from i on, n elements of sz cells. -/
def PartOf (v1 : Value) (sz i n : Nat) (v : Value) : Prop := ∃ a c, v = .slice a n c ∧ (a = none → c = 0) ∧
  (0 < n → ∃ g n1 c1, v1 = .slice (some ⟨g, 0, none⟩) n1 c1 ∧ a = some ⟨g, i * sz, none⟩ ∧ n ≤ c ∧ c + i ≤ c1)

def LC (cx : Cx) (β : List En) (x : LV) (v : Value) : Prop := v.oneCell' = true ∧ match x with
  | .v y => v = y
  | .p k off => ∃ n, β[k]? = some (.b n) ∧ v = .pointer (some ⟨n, off, none⟩)
  | .s k ver => ∃ v1 ver1, β[k]? = some (.r v1 ver1) ∧ ver ≤ ver1 ∧ (ver = ver1 → v = v1)
  | .w k ver sz i n => ∃ v1 ver1, β[k]? = some (.r v1 ver1) ∧ ver ≤ ver1 ∧ (ver = ver1 → PartOf v1 sz i n v)
  | .f l => FZ cx v l
  | .fx u l => v = u ∧ FZ cx v l
  | .e k ver sz i off => ∃ v1 ver1, β[k]? = some (.r v1 ver1) ∧ ver ≤ ver1 ∧ (ver = ver1 → ∃ g n1 c1, v1 = .slice (some ⟨g, 0, none⟩) n1 c1 ∧ v = .pointer (some ⟨g, i * sz + off, none⟩))
  | .o T k => ∃ n, β[k]? = some (.b n) ∧ v = (match T with
    | none => .chan (some n)
    | some t => .iface t (.pointer (some ⟨n, 0, none⟩)))
  | .m k => ∃ n, β[k]? = some (.b n) ∧ v = .map (some n)
  | .g l i off => ∃ v1 g o n c, FZ cx v1 l ∧ v1 = .slice (some ⟨g, o, none⟩) n c ∧ v = .pointer (some ⟨g, o + (i * l.sz + off), none⟩)
  | .j => True

def LCs (cx : Cx) (β : List En) : List LV → List Value → Prop
  | [], [] => True
  | x :: xs, v :: vs => LC cx β x v ∧ LCs cx β xs vs
  | _, _ => False
def TCs (cx : Cx) (β : List En) : List (LV ⊕ List LV) → List Value → Prop
  | [], [] => True
  | .inl x :: xs, v :: vs => LC cx β x v ∧ TCs cx β xs vs
  | .inr cs :: xs, v :: vs => (∃ us, v = .agg us ∧ LCs cx β cs us.toList) ∧ TCs cx β xs vs
  | _, _ => False
def AC (cx : Cx) (β : List En) (x : AV) (v : Value) : Prop := match x with
  | .l y => LC cx β y v
  | .a cs => ∃ us, v = .agg us ∧ LCs cx β cs us.toList
  | .t xs => ∃ vs, v = .tuple vs ∧ TCs cx β xs vs.toList
  | .j => True
def ACs (cx : Cx) (β : List En) : List AV → List Value → Prop
  | [], [] => True
  | x :: xs, v :: vs => AC cx β x v ∧ ACs cx β xs vs
  | _, _ => False

def FR (cx : Cx) (β : List En) (fr : Fr) (tmps : Array Value) : Prop := fr.length = tmps.size ∧ ∀ i x, fr[i]? = some x → AC cx β x (tmps.getD i undef)

def HOk (cx : Cx) (β : List En) (w : World) : HB → En → Prop
  | .b cs T, .b n => (cx.w0.heap.size ≤ n ∨ n ∈ cx.M) ∧ ∃ us, w.heap[n]? = some (.cells us T (0, 0)) ∧ LCs cx β cs us.toList
  | .r ver E l, .r v ver' => ver' = ver ∧ w.ownsRow cx.w0.heap.size E l.sz v l.len l.enc ∧ l.len ≤ maxL
  | .d, .x => True
  | .x Φ, .b n => (cx.w0.heap.size ≤ n ∨ n ∈ cx.M) ∧ ∃ ob, w.heap[n]? = some ob ∧ Φ ob
  | _, _ => False

def ownE : HB → En → Option Nat
  | .b _ _, .b n => some n
  | .x _, .b n => some n
  | .r _ _ _, .r v _ => v.ownBlock
  | _, _ => none
def ownB (hp : Hp) (β : List En) (k : Nat) : Option Nat := match hp[k]?, β[k]? with
  | some h, some e => ownE h e
  | _, _ => none

/-- The one package variable that is read holds what its start lays: the address of a text. -/
def Gw (w : World) : Prop := ∃ (a : Addr) (T : TypeId) (fr : Nat × Nat), w.heap[0]? = some (.cells #[.iface 187 (.pointer (some a))] T fr)
def Gm (M : List Nat) : Prop := 0 ∉ M
theorem Gw.keep {M : List Nat} {w w' : World} (h : Gw w) (hM : Gm M) (k : Tch (· ∈ M) w w') : Gw w' := by
  obtain ⟨a, T, fr, e⟩ := h
  exact ⟨a, T, fr, (k.block 0 (Array.getElem?_eq_some_iff.1 e).1 hM).trans e⟩
theorem Gm.nil : Gm [] := by simp [Gm]
theorem Gw.below {w w' : World} (h : Gw w) (hb : Below w.heap.size w w') : Gw w' := by
  obtain ⟨a, T, fr, e⟩ := h
  exact ⟨a, T, fr, (hb.block 0 (Array.getElem?_eq_some_iff.1 e).1).trans e⟩
theorem Gm.rd {w : World} (h : Gw w) {r : Nat} {us : Array Value} {T : TypeId} {fr : Nat × Nat} (hr : w.heap[r]? = some (.cells us T fr)) (hn : us.size ≠ 1) : Gm [r] := by
  obtain ⟨a, T2, f2, e⟩ := h
  have : r ≠ 0 := by
    rintro rfl
    rw [e] at hr
    cases hr
    exact hn rfl
  simp [Gm]
  omega

structure Inv (cx : Cx) (β : List En) (hp : Hp) (w : World) : Prop where
  kp : Tch (· ∈ cx.M) cx.w0 w
  len : β.length = hp.length
  ent : ∀ (k : Nat) h e, hp[k]? = some h → β[k]? = some e → HOk cx β w h e
  dis : ∀ (i k b : Nat), ownB hp β i = some b → ownB hp β k = some b → i = k

/-- What was known where stays known. -/
def Ext (β β' : List En) : Prop := ∀ (k : Nat) e, β[k]? = some e → match e with
  | .b n => β'[k]? = some (.b n)
  | .r v ver => ∃ v' ver', β'[k]? = some (.r v' ver') ∧ ver ≤ ver' ∧ (ver = ver' → v' = v)
  | .x => True

theorem Ext.refl (β : List En) : Ext β β := by
  intro k e h
  cases e with
  | b n => exact h
  | r v ver => exact ⟨v, ver, h, Nat.le_refl _, fun _ => rfl⟩
  | x => trivial
theorem Ext.trans {a b c : List En} (h : Ext a b) (k : Ext b c) : Ext a c := by
  intro i e he
  have h1 := h i e he
  cases e with
  | b n => exact k i _ h1
  | r v ver =>
    obtain ⟨v', ver', h2, h3, h4⟩ := h1
    obtain ⟨v2, ver2, h5, h6, h7⟩ := k i _ h2
    exact ⟨v2, ver2, h5, Nat.le_trans h3 h6, fun e => (h7 (by omega)).trans (h4 (by omega))⟩
  | x => trivial

theorem LC.ext {cx : Cx} {β β' : List En} (hx : Ext β β') {x : LV} {v : Value} (h : LC cx β x v) : LC cx β' x v := by
  refine ⟨h.1, ?_⟩
  have h2 := h.2
  cases x with
  | p k off =>
    obtain ⟨n, h1, h3⟩ := h2
    exact ⟨n, hx k _ h1, h3⟩
  | o T k =>
    obtain ⟨n, h1, h3⟩ := h2
    exact ⟨n, hx k _ h1, h3⟩
  | m k =>
    obtain ⟨n, h1, h3⟩ := h2
    exact ⟨n, hx k _ h1, h3⟩
  | s k ver =>
    obtain ⟨v1, ver1, h1, h3, h4⟩ := h2
    obtain ⟨v2, ver2, h5, h6, h7⟩ := hx k _ h1
    exact ⟨v2, ver2, h5, by omega, fun e => (h4 (by omega)).trans (h7 (by omega)).symm⟩
  | w k ver sz i n =>
    obtain ⟨v1, ver1, h1, h3, h4⟩ := h2
    obtain ⟨v2, ver2, h5, h6, h7⟩ := hx k _ h1
    exact ⟨v2, ver2, h5, by omega, fun e => by rw [h7 (by omega)]; exact h4 (by omega)⟩
  | e k ver sz i off =>
    obtain ⟨v1, ver1, h1, h3, h4⟩ := h2
    obtain ⟨v2, ver2, h5, h6, h7⟩ := hx k _ h1
    exact ⟨v2, ver2, h5, by omega, fun e => by rw [h7 (by omega)]; exact h4 (by omega)⟩
  | _ => exact h2
theorem LCs.ext {cx : Cx} {β β' : List En} (hx : Ext β β') : ∀ {xs : List LV} {vs : List Value}, LCs cx β xs vs → LCs cx β' xs vs
  | [], [], _ => trivial
  | _ :: _, _ :: _, h => ⟨h.1.ext hx, LCs.ext hx h.2⟩
  | [], _ :: _, h => h
  | _ :: _, [], h => h
theorem TCs.ext {cx : Cx} {β β' : List En} (hx : Ext β β') : ∀ {xs : List (LV ⊕ List LV)} {vs : List Value}, TCs cx β xs vs → TCs cx β' xs vs
  | [], [], _ => trivial
  | .inl _ :: _, _ :: _, h => ⟨h.1.ext hx, TCs.ext hx h.2⟩
  | .inr _ :: _, _ :: _, h => ⟨h.1.imp fun _ ⟨e, h1⟩ => ⟨e, h1.ext hx⟩, TCs.ext hx h.2⟩
  | [], _ :: _, h => h
  | .inl _ :: _, [], h => h
  | .inr _ :: _, [], h => h
theorem AC.ext {cx : Cx} {β β' : List En} (hx : Ext β β') {x : AV} {v : Value} (h : AC cx β x v) : AC cx β' x v := by
  cases x with
  | l y => exact LC.ext hx h
  | a cs => obtain ⟨us, h1, h2⟩ := h; exact ⟨us, h1, h2.ext hx⟩
  | t xs => obtain ⟨us, h1, h2⟩ := h; exact ⟨us, h1, h2.ext hx⟩
  | j => trivial
theorem FR.ext {cx : Cx} {β β' : List En} (hx : Ext β β') {fr : Fr} {t : Array Value} (h : FR cx β fr t) : FR cx β' fr t := ⟨h.1, fun i x hi => (h.2 i x hi).ext hx⟩

theorem LCs.length {cx : Cx} {β : List En} : ∀ {xs : List LV} {vs : List Value}, LCs cx β xs vs → xs.length = vs.length
  | [], [], _ => rfl
  | _ :: _, _ :: _, h => by simp [LCs.length h.2]
  | [], _ :: _, h => h.elim
  | _ :: _, [], h => h.elim
theorem LCs.drop {cx : Cx} {β : List En} : ∀ {xs : List LV} {vs : List Value} (n : Nat), LCs cx β xs vs → LCs cx β (xs.drop n) (vs.drop n)
  | _, _, 0, h => h
  | [], [], _ + 1, _ => trivial
  | _ :: _, _ :: _, n + 1, h => LCs.drop n h.2
  | [], _ :: _, _ + 1, h => h.elim
  | _ :: _, [], _ + 1, h => h.elim
theorem LCs.take {cx : Cx} {β : List En} : ∀ {xs : List LV} {vs : List Value} (n : Nat), LCs cx β xs vs → LCs cx β (xs.take n) (vs.take n)
  | _, _, 0, _ => by simp [LCs]
  | [], [], _ + 1, _ => trivial
  | _ :: _, _ :: _, n + 1, h => ⟨h.1, LCs.take n h.2⟩
  | [], _ :: _, _ + 1, h => h.elim
  | _ :: _, [], _ + 1, h => h.elim
theorem LCs.append {cx : Cx} {β : List En} : ∀ {xs : List LV} {vs : List Value} {ys : List LV} {us : List Value}, LCs cx β xs vs → LCs cx β ys us → LCs cx β (xs ++ ys) (vs ++ us)
  | [], [], _, _, _, k => k
  | _ :: _, _ :: _, _, _, h, k => ⟨h.1, LCs.append h.2 k⟩
  | [], _ :: _, _, _, h, _ => h.elim
  | _ :: _, [], _, _, h, _ => h.elim
theorem LCs.one {cx : Cx} {β : List En} : ∀ {xs : List LV} {vs : List Value}, LCs cx β xs vs → ∀ v ∈ vs, v.oneCell' = true
  | [], [], _, _, hm => by cases hm
  | _ :: _, _ :: _, h, v, hm => by
    rcases List.mem_cons.1 hm with rfl | hm
    · exact h.1.1
    · exact LCs.one h.2 v hm
  | [], _ :: _, h, _, _ => h.elim
  | _ :: _, [], h, _, _ => h.elim
theorem LCs.consts {cx : Cx} {β : List En} : ∀ {vs : List Value}, (∀ v ∈ vs, v.oneCell' = true) → LCs cx β (vs.map LV.v) vs
  | [], _ => trivial
  | v :: vs, h => ⟨⟨h v (by simp), rfl⟩, LCs.consts fun u hu => h u (by simp [hu])⟩

theorem HOk.keep {cx : Cx} {β β' : List En} {w w' : World} {h : HB} {e : En} (ho : HOk cx β w h e) (hx : Ext β β') (hb : ∀ b, ownE h e = some b → w'.heap[b]? = w.heap[b]?) : HOk cx β' w' h e := by
  cases h with
  | b cs T => cases e with
    | b n =>
      obtain ⟨h1, us, h2, h3⟩ := ho
      exact ⟨h1, us, (hb n rfl).trans h2, h3.ext hx⟩
    | _ => exact ho
  | r ver E l => cases e with
    | r v ver' =>
      obtain ⟨h1, h2, h3⟩ := ho
      refine ⟨h1, ⟨h2.1, h2.2.imp id fun ⟨g, cap, cur, e1, e2, e3, e4⟩ => ⟨g, cap, cur, e1, e2, ?_, e4⟩⟩, h3⟩
      exact (hb g (by rw [e1]; rfl)).trans e3
    | _ => exact ho
  | d => cases e <;> exact ho
  | x Φ => cases e with
    | b n =>
      obtain ⟨h1, ob, h2, h3⟩ := ho
      exact ⟨h1, ob, (hb n rfl).trans h2, h3⟩
    | _ => exact ho

theorem HOk.lt {cx : Cx} {β : List En} {w : World} {h : HB} {e : En} (ho : HOk cx β w h e) {b : Nat} (hb : ownE h e = some b) : b < w.heap.size ∧ (cx.w0.heap.size ≤ b ∨ b ∈ cx.M) := by
  cases h with
  | b cs T => cases e with
    | b n =>
      obtain ⟨h1, us, h2, h3⟩ := ho
      simp only [ownE, Option.some.injEq] at hb
      subst hb
      exact ⟨(Array.getElem?_eq_some_iff.1 h2).1, h1⟩
    | _ => simp [ownE] at hb
  | r ver E l => cases e with
    | r v ver' =>
      have := ho.2.1.lt b hb
      exact ⟨this.2, .inl this.1⟩
    | _ => simp [ownE] at hb
  | d => simp [ownE] at hb
  | x Φ => cases e with
    | b n =>
      obtain ⟨h1, ob, h2, h3⟩ := ho
      simp only [ownE, Option.some.injEq] at hb
      subst hb
      exact ⟨(Array.getElem?_eq_some_iff.1 h2).1, h1⟩
    | _ => simp [ownE] at hb

theorem ownB_some {hp : Hp} {β : List En} {k b : Nat} (h : ownB hp β k = some b) : ∃ x e, hp[k]? = some x ∧ β[k]? = some e ∧ ownE x e = some b := by
  unfold ownB at h
  split at h
  · exact ⟨_, _, ‹_›, ‹_›, h⟩
  · cases h
theorem ownB_of {hp : Hp} {β : List En} {k : Nat} {x : HB} {e : En} (h1 : hp[k]? = some x) (h2 : β[k]? = some e) : ownB hp β k = ownE x e := by
  unfold ownB; rw [h1, h2]
theorem Inv.lt {cx : Cx} {β : List En} {hp : Hp} {w : World} (h : Inv cx β hp w) {k b : Nat} (hb : ownB hp β k = some b) : b < w.heap.size ∧ (cx.w0.heap.size ≤ b ∨ b ∈ cx.M) := by
  obtain ⟨x, e, h1, h2, h3⟩ := ownB_some hb
  exact (h.ent k x e h1 h2).lt h3

/-- One block or list of the call's own is written, or comes anew. -/
theorem Inv.upd {cx : Cx} {β β' : List En} {hp hp' : Hp} {w w' : World} {k0 : Nat} {h' : HB} {e' : En} (hI : Inv cx β hp w) (ht : Tch (fun b => ownB hp β k0 = some b) w w')
    (hk : ∀ k, k ≠ k0 → hp'[k]? = hp[k]? ∧ β'[k]? = β[k]?) (hh : hp'[k0]? = some h') (he : β'[k0]? = some e') (hlen : β'.length = hp'.length) (hx : Ext β β') (hok : HOk cx β' w' h' e')
    (hown : ∀ b, ownE h' e' = some b → ownB hp β k0 = some b ∨ w.heap.size ≤ b) : Inv cx β' hp' w' := by
  have own' : ∀ k b, ownB hp' β' k = some b → ownB hp β k = some b ∨ (k = k0 ∧ w.heap.size ≤ b) := by
    intro k b hb
    by_cases h : k = k0
    · subst h
      rw [ownB_of hh he] at hb
      exact (hown b hb).imp id fun h => ⟨rfl, h⟩
    · left
      unfold ownB at hb ⊢
      rw [(hk k h).1, (hk k h).2] at hb
      exact hb
  refine ⟨⟨ht.os.trans hI.kp.os, ht.tape.trans hI.kp.tape, ht.output.trans hI.kp.output, Nat.le_trans hI.kp.size ht.size, fun b hb hn => ?_⟩, hlen, fun k h e h1 h2 => ?_, fun i k b hi hk' => ?_⟩
  · refine (ht.block b (Nat.lt_of_lt_of_le hb hI.kp.size) fun e => ?_).trans (hI.kp.block b hb hn)
    rcases (hI.lt e).2 with h | h
    · omega
    · exact hn h
  · by_cases h0 : k = k0
    · subst h0
      rw [hh] at h1
      rw [he] at h2
      obtain rfl := Option.some.inj h1
      obtain rfl := Option.some.inj h2
      exact hok
    · rw [(hk k h0).1] at h1
      rw [(hk k h0).2] at h2
      have ho := hI.ent k h e h1 h2
      refine ho.keep hx fun b hb => ht.block b (ho.lt hb).1 fun e' => ?_
      exact h0 (hI.dis k k0 b (by rw [ownB_of h1 h2]; exact hb) e')
  · rcases own' i b hi with h1 | ⟨rfl, h1⟩ <;> rcases own' k b hk' with h2 | ⟨rfl, h2⟩
    · exact hI.dis i k b h1 h2
    · have := (hI.lt h1).1; omega
    · have := (hI.lt h2).1; omega
    · rfl

/-- Nothing of the call's own is written. -/
theorem Inv.stay {cx : Cx} {β : List En} {hp : Hp} {w w' : World} (hI : Inv cx β hp w) (ht : Below w.heap.size w w') : Inv cx β hp w' := by
  refine ⟨⟨ht.os.trans hI.kp.os, ht.tape.trans hI.kp.tape, ht.output.trans hI.kp.output, Nat.le_trans hI.kp.size ht.size, fun b hb hn => ?_⟩, hI.len, fun k h e h1 h2 => ?_, hI.dis⟩
  · exact (ht.block b (Nat.lt_of_lt_of_le hb hI.kp.size)).trans (hI.kp.block b hb hn)
  · have ho := hI.ent k h e h1 h2
    exact ho.keep (Ext.refl _) fun b hb => ht.block b (ho.lt hb).1

theorem EL.enc_len (l : EL) : l.enc.length = l.len * l.sz := by
  cases l with
  | ints l => simp [EL.enc, EL.len, EL.sz]
  | bytes l => simp [EL.enc, EL.len, EL.sz]
  | gots l =>
    simp only [EL.enc, EL.len, EL.sz]
    induction l with
    | nil => rfl
    | cons a r ih => simp [ih]; omega
  | k3 l =>
    simp only [EL.enc, EL.len, EL.sz]
    induction l with
    | nil => rfl
    | cons a r ih => simp [ih]; omega
theorem EL.one (l : EL) : ∀ u ∈ l.enc, u.oneCell' = true := by
  intro u hu
  cases l with
  | ints l => obtain ⟨x, _, rfl⟩ := List.mem_map.1 hu; rfl
  | bytes l => obtain ⟨x, _, rfl⟩ := List.mem_map.1 hu; rfl
  | gots l => obtain ⟨x, _, h⟩ := List.mem_flatMap.1 hu; simp at h; rcases h with rfl | rfl <;> rfl
  | k3 l => obtain ⟨x, _, h⟩ := List.mem_flatMap.1 hu; simp at h; rcases h with rfl | rfl | rfl <;> rfl

theorem FZ.sl {cx : Cx} {β : List En} {hp : Hp} {w : World} {v : Value} {l : EL} (h : FZ cx v l) (hI : Inv cx β hp w) : Sl w l.sz v l.len l.enc := by
  refine ⟨h.1.1, ?_⟩
  rcases h.1.2 with ⟨h0, h1⟩ | ⟨g, off, cap, cur, T, h1, h2, h3, h4⟩
  · exact .inl ⟨h0, h1⟩
  · by_cases h0 : l.len = 0
    · exact .inl ⟨h0, _, cap, by rw [h1, h0], fun e => by cases e⟩
    · refine .inr ⟨g, off, cap, cur, T, h1, h2, ?_, h4⟩
      rw [hI.kp.block g (Array.getElem?_eq_some_iff.1 h3).1 (h.2.2 h0 g (by rw [h1]; rfl))]
      exact h3

end Ab
end Go.Proofs.YtkhggobpanfkfaaDoor

/-
  The soft operations: what the abstract walk says of them is what they answer. Plain lemmas; the conditions are the types' rows (TIok).
-/
namespace Go.Proofs.YtkhggobpanfkfaaDoor
open Go.RowKit
namespace Ab

def aggD : TypeDesc → Bool
  | .struct _ | .array _ _ => true
  | _ => false
def EK.zero : EK → Value
  | .ints => .int .i64 0
  | .gots => .agg #[.int .i64 0, .int .i64 0]
  | .bytes => .int .u8 0
  | .k3 => .agg #[.int .i64 0, .int .i64 0, .int .i64 0]
def EK.sz : EK → Nat
  | .ints => 1
  | .gots => 2
  | .bytes => 1
  | .k3 => 3

def cmpV : List (Option IntKind) → List Value → List Value → Option Bool
  | [], [], [] => some true
  | some _ :: ks, .int k x :: xs, .int k' y :: ys => if k = k' then (cmpV ks xs ys).map fun b => decide (x = y) && b else none
  | none :: ks, .bool x :: xs, .bool y :: ys => (cmpV ks xs ys).map fun b => (x == y) && b
  | _, _, _ => none
def tyOf : Option IntKind → TypeDesc
  | some k => .int k
  | none => .bool
/-- Two values of this struct are compared cell by cell. -/
structure EqOk (P : Program) (t : TypeId) (ks : List (Option IntKind)) : Prop where
  under : P.underlying t = some (.struct (P.fieldsOf t))
  held : P.stoodInHeld t = false
  guard : P.eqGuardType P.depth t = false
  fields : (P.fieldsOf t).toList.map (fun f => (f.name != "_", f.offset, P.underlying f.type)) = ks.zipIdx.map fun x => (true, x.2, some (tyOf x.1))

def isI64 : TypeDesc → Bool
  | .int .i64 => true
  | _ => false
def KOk (P : Program) (t : TypeId) : TK → Prop
  | .leaf => True
  | .bool => P.underlying t = some .bool
  | .int k => P.underlying t = some (.int k)
  | .struct fs => (P.underlying t).bind (fun d => match d with
      | .struct g => some (g.toList.map fun f => (f.offset, (P.info? f.type).map (·.size), (P.underlying f.type).map aggD))
      | _ => none) = some (fs.map fun x => (x.1, some x.2.1, some x.2.2)) ∧ fs.all (fun x => x.2.1 != 0) = true
  | .arr n e esz eagg => P.underlying t = some (.array n e) ∧ (P.info? e).map (·.size) = some esz ∧ (P.underlying e).map aggD = some eagg
  | .osl e => P.underlying t = some (.slice e)
  | .str => P.underlying t = some .string
  | .ptr e => P.underlying t = some (.pointer e)
  | .chan => (P.underlying t).bind (fun d => match d with
      | .chan _ e => (P.info? e).map fun f => decide (f.bytes ≤ 16)
      | _ => none) = some true
  | .map => (P.underlying t).bind (fun d => match d with
      | .map k _ => (P.underlying k).map isI64
      | _ => none) = some true
  | .slice e esz ek => P.underlying t = some (.slice e) ∧ (P.info? e).map (fun f => (f.zero, f.size)) = some (some ek.zero, esz) ∧ ((P.info? e).map fun f => decide (f.bytes ≤ 32)) = some true ∧ esz = ek.sz

/-- The methods of a pointer's type are these. -/
def MethOk (P : Program) (t : TypeId) (k : TK) (ms : List (String × FuncId × Bool)) : Prop := ∀ m ∈ ms, ∀ (n : Nat) (w : World),
  (m.2.2 = true → (method (P.types.size + Made.depth) t (.pointer (some ⟨n, 0, none⟩)) m.1).run P w = .ok (m.2.1, .pointer (some ⟨n, 0, none⟩)) w) ∧
  (m.2.2 = false → ∀ e, k = .ptr e → (method (P.types.size + Made.depth) t (.pointer (some ⟨n, 0, none⟩)) m.1).run P w = (do let r ← loadVar e ⟨n, 0, none⟩; pure (m.2.1, r) : Sem (FuncId × Value)).run P w)
structure TIok (P : Program) (t : TypeId) (i : TI) : Prop where
  inf : (P.info? t).map (fun f => (f.zero.map (fun z => z.cells.toList), f.size, f.bytes)) = some (some i.zero, i.sz, i.bytes)
  agg : (P.underlying t).map aggD = some i.agg
  zl : i.zl = i.zero.map LV.v
  zlen : i.zero.length = i.sz
  one : i.zero.all (·.oneCell') = true
  kind : KOk P t i.kind
  eqs : ∀ ks, i.eqs = some ks → EqOk P t ks
  meth : MethOk P t i.kind i.ms

def TabOk (P : Program) (T : Tab) : Prop := ∀ t i, tyL T t = some i → TIok P t i

section
variable {P : Program} {cx : Cx} {β : List En} {w : World}

theorem run_sz {t : TypeId} {n : Nat} (h : (P.info? t).map (·.size) = some n) (w : World) : (sizeOf t).run P w = .ok n w := by
  obtain ⟨f, hf, rfl⟩ := Option.map_eq_some_iff.1 h
  simp [sizeOf, typeInfo, hf]
theorem run_ag {t : TypeId} {g : Bool} (h : (P.underlying t).map aggD = some g) (w : World) : (isAgg t).run P w = .ok g w := by
  obtain ⟨d, hd, rfl⟩ := Option.map_eq_some_iff.1 h
  unfold isAgg
  rw [Sem.run_bind, run_underlying hd]
  cases d <;> rfl
theorem TIok.size {t : TypeId} {i : TI} (h : TIok P t i) : (P.info? t).map (·.size) = some i.sz := by
  obtain ⟨f, hf, e⟩ := Option.map_eq_some_iff.1 h.inf
  simp only [Prod.mk.injEq] at e
  rw [hf, Option.map_some, e.2.1]
theorem TIok.run_zero {t : TypeId} {i : TI} (h : TIok P t i) : ∃ z, z.cells.toList = i.zero ∧ ∀ w, (zeroValue t).run P w = .ok z w := by
  obtain ⟨f, hf, e⟩ := Option.map_eq_some_iff.1 h.inf
  simp only [Prod.mk.injEq] at e
  obtain ⟨z, hz, ez⟩ := Option.map_eq_some_iff.1 e.1
  exact ⟨z, ez, fun w => by simp [zeroValue, typeInfo, hf, hz]⟩
theorem TIok.zeros {t : TypeId} {i : TI} (h : TIok P t i) : LCs cx β i.zl i.zero := by
  rw [h.zl]
  exact LCs.consts fun v hv => List.all_eq_true.1 h.one v hv

/-! ### Operands -/
theorem const_spec {v : Value} {K : AV → Prop} (h : constK v K) : ∃ r, K r ∧ AC cx β r v := by
  unfold constK at h
  split at h <;> first | exact h.elim | exact ⟨_, h, rfl, rfl⟩
theorem ev_spec {fr : Fr} {a : Act} {x : Operand} {K : AV → Prop} (hf : FR cx β fr a.tmps) (h : evK fr x K) : ∃ r, K r ∧ AC cx β r (a.eval x) := by
  cases x with
  | tmp t =>
    obtain ⟨r, h1, h2⟩ := getF_iff.1 h
    exact ⟨r, h2, hf.2 t r h1⟩
  | const v => exact const_spec h
  | func f => exact ⟨_, h, rfl, rfl⟩
  | global g => exact ⟨_, h, rfl, rfl⟩
theorem evs_spec {fr : Fr} {a : Act} (hf : FR cx β fr a.tmps) : ∀ {xs : List Operand} {K : List AV → Prop}, evsK fr xs K → ∃ rs, K rs ∧ ACs cx β rs (xs.map a.eval)
  | [], K, h => ⟨[], h, trivial⟩
  | x :: xs, K, h => by
    obtain ⟨r, h1, h2⟩ := ev_spec hf h
    obtain ⟨rs, h3, h4⟩ := evs_spec hf h1
    exact ⟨r :: rs, h3, h2, h4⟩

/-! ### Numbers and tests -/
theorem rng_wrap {k : IntKind} {n : Int} (h : rng k n) : k.wrap n = n := by
  cases k <;> first | exact IntWalk.i64_in n h | exact IntWalk.u8_in n h | exact h.elim
theorem acI (k : IntKind) (n : Int) : AC cx β (I k n) (.int k n) := ⟨rfl, rfl⟩
theorem acB (b : Bool) : AC cx β (B b) (.bool b) := ⟨rfl, rfl⟩

theorem int_spec {op : BinOp} {k : IntKind} {x y : Int} {K : AV → Prop} (hs : isSh op = false) (h : intK op k x y K) (t : TypeId) : ∃ r, K r ∧ ∃ v, AC cx β r v ∧ ∀ w, (binOp op t (.int k x) (.int k y)).run P w = .ok v w := by
  cases op <;> simp only [isSh, Bool.true_eq_false] at hs <;> simp only [intK, side_iff] at h
  case add => exact ⟨_, h.2, _, acI _ _, fun w => by simp [binOp, Op.intArith, rng_wrap h.1]⟩
  case sub => exact ⟨_, h.2, _, acI _ _, fun w => by simp [binOp, Op.intArith, rng_wrap h.1]⟩
  case mul => exact ⟨_, h.2, _, acI _ _, fun w => by simp [binOp, Op.intArith, rng_wrap h.1]⟩
  case quo =>
    rw [br_iff] at h
    by_cases hx : x < 0
    · obtain ⟨⟨h1, h2⟩, h3⟩ := h.1 (by simpa using hx)
      have h0 : ¬ y = 0 := by omega
      have e : x.tdiv y = 0 - (0 - x) / y := by
        have := Int.neg_tdiv (a := -x) (b := y)
        rw [Int.neg_neg] at this
        rw [this, Int.tdiv_eq_ediv_of_nonneg (by omega)]
        simp
      exact ⟨_, h3, _, acI _ _, fun w => by simp only [binOp, Op.intDiv, h0, if_false, e, rng_wrap h2, ne_eq, not_true_eq_false]; rfl⟩
    · have h := h.2 (by simpa using hx)
      have h0 : ¬ y = 0 := by omega
      exact ⟨_, h.2, _, acI _ _, fun w => by simp [binOp, Op.intDiv, h0, Int.tdiv_eq_ediv_of_nonneg h.1.1, rng_wrap h.1.2.2]⟩
  case rem =>
    have h0 : ¬ y = 0 := by omega
    exact ⟨_, h.2, _, acI _ _, fun w => by simp [binOp, Op.intDiv, h0, Int.tmod_eq_emod_of_nonneg h.1.1]⟩
  case and => exact ⟨_, h, _, acI _ _, fun w => by simp [binOp, Op.intBits]⟩
  case or => exact ⟨_, h, _, acI _ _, fun w => by simp [binOp, Op.intBits]⟩
  case xor => exact ⟨_, h, _, acI _ _, fun w => by simp [binOp, Op.intBits]⟩
  case andNot => exact ⟨_, h, _, acI _ _, fun w => by simp [binOp, Op.intBits]⟩
  case eql => exact ⟨_, h, _, acB _, fun w => by simp [binOp, Op.intCmp]; rfl⟩
  case neq => exact ⟨_, h, _, acB _, fun w => by simp [binOp, Op.intCmp]; rfl⟩
  case lss => exact ⟨_, h, _, acB _, fun w => by simp [binOp, Op.intCmp]⟩
  case leq => exact ⟨_, h, _, acB _, fun w => by simp [binOp, Op.intCmp]⟩
  case gtr => exact ⟨_, h, _, acB _, fun w => by simp [binOp, Op.intCmp]⟩
  case geq => exact ⟨_, h, _, acB _, fun w => by simp [binOp, Op.intCmp]⟩
  all_goals exact h.elim

theorem sh_spec {op : BinOp} {k k' : IntKind} {x y : Int} {K : AV → Prop} (h : shK op k x y K) (t : TypeId) : ∃ r, K r ∧ ∃ v, AC cx β r v ∧ ∀ w, (binOp op t (.int k x) (.int k' y)).run P w = .ok v w := by
  cases op <;> simp only [shK, side_iff] at h
  case shl =>
    have h0 : ¬ y < 0 := by omega
    exact ⟨_, h.2, _, acI _ _, fun w => by simp [binOp, Op.shift, h0]⟩
  case shr =>
    have h0 : ¬ y < 0 := by omega
    exact ⟨_, h.2, _, acI _ _, fun w => by simp [binOp, Op.shift, h0]⟩
  all_goals exact h.elim

theorem eq1_spec {k : Option IntKind} {x y : LV} {u v : Value} {K : Bool → Prop} (h : eq1 k x y K) (hx : LC cx β x u) (hy : LC cx β y v) : ∃ b, K b ∧ ∀ ks us vs c, cmpV ks us vs = some c → cmpV (k :: ks) (u :: us) (v :: vs) = some (b && c) := by
  unfold eq1 at h
  split at h
  · split at h
    · obtain ⟨_, rfl⟩ := hx
      split at h
      · obtain ⟨_, rfl⟩ := hy
        obtain ⟨hk, h2⟩ := side_iff.1 h
        subst hk
        exact ⟨_, h2, fun ks us vs c hc => by simp [cmpV, hc]⟩
      · exact h.elim
    · exact h.elim
  · split at h
    · obtain ⟨_, rfl⟩ := hx
      split at h
      · obtain ⟨_, rfl⟩ := hy
        exact ⟨_, h, fun ks us vs c hc => by simp [cmpV, hc]⟩
      · exact h.elim
    · exact h.elim
theorem eqLs_spec : ∀ {ks : List (Option IntKind)} {xs ys : List LV} {us vs : List Value} {K : Bool → Prop}, eqLs ks xs ys K → LCs cx β xs us → LCs cx β ys vs → ∃ b, K b ∧ cmpV ks us vs = some b
  | [], [], [], [], [], _, h, _, _ => ⟨true, h, rfl⟩
  | _ :: _, _ :: _, _ :: _, _ :: _, _ :: _, _, h, hx, hy => by
    obtain ⟨b, h1, h2⟩ := eq1_spec h hx.1 hy.1
    obtain ⟨c, h3, h4⟩ := eqLs_spec h1 hx.2 hy.2
    exact ⟨_, h3, h2 _ _ _ _ h4⟩
  | [], [], [], _ :: _, _, _, _, hx, _ => hx.elim
  | [], [], [], [], _ :: _, _, _, _, hy => hy.elim
  | _ :: _, _ :: _, _ :: _, [], _, _, _, hx, _ => hx.elim
  | _ :: _, _ :: _, _ :: _, _ :: _, [], _, _, _, hy => hy.elim
  | [], [], _ :: _, _, _, _, h, _, _ => by simp [eqLs] at h
  | [], _ :: _, _, _, _, _, h, _, _ => by simp [eqLs] at h
  | _ :: _, [], _, _, _, _, h, _, _ => by simp [eqLs] at h
  | _ :: _, _ :: _, [], _, _, _, h, _, _ => by simp [eqLs] at h

theorem eqFields_spec (d : Nat) (us vs : Array Value) : ∀ (ks : List (Option IntKind)) (fs : List Field) (i : Nat) (b : Bool), fs.map (fun f => (f.name != "_", f.offset, P.underlying f.type)) = (ks.zipIdx i).map (fun x => (true, x.2, some (tyOf x.1))) →
    cmpV ks (us.toList.drop i) (vs.toList.drop i) = some b → ∀ w, (Op.eqFields (d + 1) us vs fs).run P w = .ok b w
  | [], [], i, b, _, h, w => by
    cases hu : us.toList.drop i <;> cases hv : vs.toList.drop i <;> rw [hu, hv] at h <;> simp [cmpV] at h
    subst h
    rfl
  | k :: ks, f :: fs, i, b, hf, h, w => by
    simp only [List.map_cons, List.zipIdx_cons, List.cons.injEq, Prod.mk.injEq] at hf
    obtain ⟨⟨f1, f2, f3⟩, f4⟩ := hf
    have hpart : ∀ (zs : Array Value) (z : Value) (rest : List Value), zs.toList.drop i = z :: rest → (part f.type zs f.offset).run P w = .ok z w ∧ zs.toList.drop (i + 1) = rest := by
      intro zs z rest hz
      have h0 : zs[i]? = some z := by
        have := congrArg (fun l => l[0]?) hz
        simpa using this
      refine ⟨?_, by have := congrArg List.tail hz; simpa using this⟩
      have hag : (isAgg f.type).run P w = .ok false w := by
        unfold isAgg
        rw [Sem.run_bind, run_underlying f3]
        cases k <;> rfl
      unfold part
      rw [Sem.run_bind, hag, Result.andThen_ok, f2, h0]
      rfl
    cases hu : us.toList.drop i with
    | nil => rw [hu] at h; cases k <;> simp [cmpV] at h
    | cons u us' =>
      cases hv : vs.toList.drop i with
      | nil => rw [hu, hv] at h; cases k <;> cases u <;> simp [cmpV] at h
      | cons v vs' =>
        obtain ⟨p1, p2⟩ := hpart us u us' hu
        obtain ⟨p3, p4⟩ := hpart vs v vs' hv
        rw [hu, hv] at h
        have fin : ∀ (r c : Bool), (Op.equalIn (d + 1) f.type u v).run P w = .ok r w → cmpV ks us' vs' = some c → b = (r && c) → (Op.eqFields (d + 1) us vs (f :: fs)).run P w = .ok b w := by
          intro r c h1 h2 h3
          have ih := eqFields_spec d us vs ks fs (i + 1) c f4 (by rw [p2, p4]; exact h2) w
          unfold Op.eqFields
          rw [if_pos (by simpa using f1), Sem.run_bind, p1, Result.andThen_ok, Sem.run_bind, p3, Result.andThen_ok, Sem.run_bind, h1, Result.andThen_ok, h3]
          cases r
          · rfl
          · simpa using ih
        cases k with
        | some k0 =>
          cases u <;> cases v <;> simp only [cmpV, reduceCtorEq] at h
          split at h
          · rename_i hk
            subst hk
            obtain ⟨c, h1, h2⟩ := Option.map_eq_some_iff.1 h
            exact fin _ c (run_equalIn_int w d f.type _ k0 _ _ f3) h1 h2.symm
          · cases h
        | none =>
          cases u <;> cases v <;> simp only [cmpV, reduceCtorEq] at h
          obtain ⟨c, h1, h2⟩ := Option.map_eq_some_iff.1 h
          exact fin _ c (run_equalIn_bool' w d f.type _ _ f3) h1 h2.symm
  | [], _ :: _, _, _, hf, _, _ => by simp at hf
  | _ :: _, [], _, _, hf, _, _ => by simp at hf

theorem EqOk.run {t : TypeId} {ks : List (Option IntKind)} (h : EqOk P t ks) {us vs : Array Value} {b : Bool} (hc : cmpV ks us.toList vs.toList = some b) (w : World) : (Op.equalIn 10000 t (.agg us) (.agg vs)).run P w = .ok b w := by
  rw [run_equalIn_struct w 9999 t us vs h.under h.held]
  exact eqFields_spec 9998 us vs ks _ 0 b h.fields (by simpa using hc) w

theorem guard_int {op : BinOp} {t : TypeId} {x y : Operand} {k k' : IntKind} {a b : Int} (w : World) : (eqGuard op t x y (.int k a) (.int k' b)).run P w = .ok () w := by
  unfold eqGuard; dsimp only; split <;> rfl
theorem guard_bool {op : BinOp} {t : TypeId} {x y : Operand} {a b : Bool} (w : World) : (eqGuard op t x y (.bool a) (.bool b)).run P w = .ok () w := by
  unfold eqGuard; dsimp only; split <;> rfl
theorem guard_string {op : BinOp} {t : TypeId} {x y : Operand} {a b : ByteArray} (w : World) : (eqGuard op t x y (.string a) (.string b)).run P w = .ok () w := by
  unfold eqGuard; dsimp only; split <;> rfl

theorem guard_ptr {op : BinOp} {t : TypeId} {x y : Operand} {a b : Option Addr} (w : World) : (eqGuard op t x y (.pointer a) (.pointer b)).run P w = .ok () w := by
  unfold eqGuard; dsimp only; split <;> rfl
theorem eq_nil {t e : TypeId} (hk : P.underlying t = some (.pointer e)) (p : Option Addr) (w : World) : (Op.equal t (.pointer p) (.pointer none)).run P w = .ok p.isNone w := by
  show (Op.equalIn (9999 + 1) t (.pointer p) (.pointer none)).run P w = _
  rw [Op.equalIn, Sem.run_bind, run_underlying hk]
  cases p <;> rfl
theorem bin_spec {T : Tab} (hT : TabOk P T) {op : BinOp} {t : TypeId} {a b : AV} {va vb : Value} {K : AV → Prop} (h : binK T op t a b K) (ha : AC cx β a va) (hb : AC cx β b vb) (x y : Operand) :
    ∃ r, K r ∧ ∃ v, AC cx β r v ∧ ∀ w, (do eqGuard op t x y va vb; binOp op t va vb : Sem Value).run P w = .ok v w := by
  unfold binK at h
  split at h
  · rename_i k x1
    obtain ⟨_, rfl⟩ := ha
    split at h
    · rename_i k' y1
      obtain ⟨_, rfl⟩ := hb
      cases hs : isSh op with
      | true =>
        simp only [hs] at h
        obtain ⟨r, h1, v, h2, h3⟩ := sh_spec (P := P) (cx := cx) (β := β) (k' := k') h t
        exact ⟨r, h1, v, h2, fun w => by rw [Sem.run_bind, guard_int]; exact h3 w⟩
      | false =>
        simp only [hs, side_iff] at h
        obtain ⟨rfl, h⟩ := h
        obtain ⟨r, h1, v, h2, h3⟩ := int_spec (P := P) (cx := cx) (β := β) hs h t
        exact ⟨r, h1, v, h2, fun w => by rw [Sem.run_bind, guard_int]; exact h3 w⟩
    · exact h.elim
  · rename_i x1
    obtain ⟨_, rfl⟩ := ha
    split at h
    · rename_i y1
      obtain ⟨_, rfl⟩ := hb
      obtain ⟨i, hi, h⟩ := tyK_iff.1 h
      have hk := (hT t i hi).kind
      split at h
      · rename_i hkind
        rw [hkind] at hk
        have he : ∀ w, (Op.equal t (.bool x1) (.bool y1)).run P w = .ok (x1 == y1) w := fun w => by
          show (Op.equalIn (9999 + 1) t (.bool x1) (.bool y1)).run P w = _
          rw [Op.equalIn, Sem.run_bind, run_underlying hk]
          rfl
        cases op <;> first | exact h.elim | exact ⟨_, h, _, acB _, fun w => by rw [Sem.run_bind, guard_bool]; simp [binOp, he]⟩
      · exact h.elim
    · exact h.elim
  · rename_i xs
    obtain ⟨us, rfl, hu⟩ := ha
    split at h
    · rename_i ys
      obtain ⟨vs, rfl, hv⟩ := hb
      obtain ⟨i, hi, h⟩ := tyK_iff.1 h
      have hk := (hT t i hi).eqs
      cases he : i.eqs with
      | none => simp only [he] at h
      | some ks =>
        simp only [he] at h
        have hq := hk ks he
        cases op <;> first | exact h.elim | skip
        case eql =>
          obtain ⟨c, h1, h2⟩ := eqLs_spec h hu hv
          refine ⟨_, h1, _, acB _, fun w => ?_⟩
          rw [Sem.run_bind, run_eqGuard_agg w _ t x y us vs hq.guard, Result.andThen_ok, run_eql_struct, hq.run h2]
          rfl
        case neq =>
          obtain ⟨c, h1, h2⟩ := eqLs_spec h hu hv
          refine ⟨_, h1, _, acB _, fun w => ?_⟩
          rw [Sem.run_bind, run_eqGuard_agg w _ t x y us vs hq.guard, Result.andThen_ok, run_neq_struct, hq.run h2]
          rfl
    · exact h.elim
  · rename_i x1
    obtain ⟨_, rfl⟩ := ha
    split at h
    · rename_i y1
      obtain ⟨_, rfl⟩ := hb
      cases op <;> first | exact h.elim | exact ⟨_, h, _, acB _, fun w => by rw [Sem.run_bind, guard_string]; simp [binOp, Op.stringOp]⟩
    · exact h.elim
  · rename_i p
    obtain ⟨_, rfl⟩ := ha
    split at h
    · obtain ⟨_, rfl⟩ := hb
      obtain ⟨i, hi, h⟩ := tyK_iff.1 h
      have hk := (hT t i hi).kind
      split at h
      · rename_i hkind
        rw [hkind] at hk
        cases op <;> first | exact h.elim | exact ⟨_, h, _, acB _, fun w => by rw [Sem.run_bind, guard_ptr]; simp [binOp, eq_nil hk]⟩
      · exact h.elim
    · exact h.elim
  · obtain ⟨_, n, _, rfl⟩ := ha
    split at h
    · obtain ⟨_, rfl⟩ := hb
      obtain ⟨i, hi, h⟩ := tyK_iff.1 h
      have hk := (hT t i hi).kind
      split at h
      · rename_i hkind
        rw [hkind] at hk
        cases op <;> first | exact h.elim | exact ⟨_, h, _, acB _, fun w => by rw [Sem.run_bind, guard_ptr]; simp [binOp, eq_nil hk]⟩
      · exact h.elim
    · exact h.elim
  · exact h.elim

/-! ### Parts of structs -/
theorem cut_load {t : TypeId} {i : TI} (hT : TIok P t i) {cs : List LV} {us : Array Value} {off b : Nat} {T' : TypeId} {fz : Nat × Nat} {K : AV → Prop} (hb : w.heap[b]? = some (.cells us T' fz)) (hcs : LCs cx β cs us.toList) (h : cutK cs off i.sz i.agg K) :
    ∃ r, K r ∧ ∃ v, AC cx β r v ∧ ∀ w' : World, w'.heap[b]? = w.heap[b]? → (loadVar t ⟨b, off, none⟩).run P w' = .ok v w' := by
  obtain ⟨h1, h⟩ := dropK_iff.1 h
  obtain ⟨h2, h⟩ := takeK_iff.1 h
  have hl := (hcs.drop off).take i.sz
  have hlen : ((us.toList.drop off).take i.sz).length = i.sz := by
    have := hl.length
    rw [← this]; simp only [List.length_take] at h2 ⊢; omega
  have cell : ∀ w' : World, w'.heap[b]? = w.heap[b]? → ∀ j v, ((us.toList.drop off).take i.sz)[j]? = some v → w'.cell? ((⟨b, off, none⟩ : Addr).add j) = some v := by
    intro w' hw j v hj
    have hadd : (⟨b, off, none⟩ : Addr).add j = ⟨b, off + j, none⟩ := by unfold Addr.add; split <;> simp_all
    rw [hadd]
    unfold World.cell?
    simp only [hw, hb]
    rw [List.getElem?_take] at hj
    split at hj
    · rw [List.getElem?_drop] at hj
      simpa using hj
    · cases hj
  cases hg : i.agg with
  | true =>
    simp only [hg] at h
    refine ⟨_, h, .agg ((us.toList.drop off).take i.sz).toArray, ⟨_, rfl, by simpa using hl⟩, fun w' hw => ?_⟩
    have hL := run_loadCells_list (P := P) w' ⟨b, off, none⟩ _ (cell w' hw)
    rw [hlen] at hL
    simp [loadVar, run_ag (hg ▸ hT.agg), run_sz hT.size, hL]
  | false =>
    simp only [hg] at h
    split at h
    · rename_i x hx
      rw [hx] at hl
      cases hu : (us.toList.drop off).take i.sz with
      | nil => rw [hu] at hl; exact hl.elim
      | cons v vs =>
        rw [hu] at hl
        refine ⟨_, h, v, hl.1, fun w' hw => ?_⟩
        have := cell w' hw 0 v (by rw [hu]; rfl)
        simp only [Addr.add, if_true] at this
        simp [loadVar, run_ag (hg ▸ hT.agg), load, Sem.run, this]
    · exact h.elim

end
end Ab
end Go.Proofs.YtkhggobpanfkfaaDoor

/-
  The soft operations on lists and structs: what the abstract walk says of them is what they answer. Plain lemmas; the conditions are the types' rows (TIok).
-/
namespace Go.Proofs.YtkhggobpanfkfaaDoor
open Go.RowKit
namespace Ab

theorem addr_add (g o j : Nat) : (⟨g, o, none⟩ : Addr).add j = ⟨g, o + j, none⟩ := by unfold Addr.add; split <;> simp_all

theorem EL.len_take (l : EL) (n : Nat) : (l.take n).len = min n l.len := by cases l <;> simp [EL.take, EL.len]
theorem EL.len_drop (l : EL) (n : Nat) : (l.drop n).len = l.len - n := by cases l <;> simp [EL.drop, EL.len]
theorem EL.sz_take (l : EL) (n : Nat) : (l.take n).sz = l.sz := by cases l <;> rfl
theorem EL.sz_drop (l : EL) (n : Nat) : (l.drop n).sz = l.sz := by cases l <;> rfl
theorem EL.sz_pos (l : EL) : 0 < l.sz := by cases l <;> simp [EL.sz]
theorem gots_take (l : List (Int × Int)) (n : Nat) : EL.enc (.gots (l.take n)) = (EL.enc (.gots l)).take (n * 2) := by
  induction l generalizing n with
  | nil => simp [EL.enc]
  | cons a r ih =>
    cases n with
    | zero => simp [EL.enc]
    | succ n =>
      have := ih n
      simp only [EL.enc] at this ⊢
      simp only [List.take_succ_cons, List.flatMap_cons, Nat.succ_mul]
      rw [show n * 2 + 2 = (n * 2 + 1) + 1 from rfl]
      simp [this]
theorem gots_drop (l : List (Int × Int)) (n : Nat) : EL.enc (.gots (l.drop n)) = (EL.enc (.gots l)).drop (n * 2) := by
  induction l generalizing n with
  | nil => simp [EL.enc]
  | cons a r ih =>
    cases n with
    | zero => simp [EL.enc]
    | succ n =>
      have := ih n
      simp only [EL.enc] at this ⊢
      simp only [List.drop_succ_cons, List.flatMap_cons, Nat.succ_mul]
      rw [show n * 2 + 2 = (n * 2 + 1) + 1 from rfl]
      simp [this]
theorem k3_take (l : List (Int × Int × Int)) (n : Nat) : EL.enc (.k3 (l.take n)) = (EL.enc (.k3 l)).take (n * 3) := by
  induction l generalizing n with
  | nil => simp [EL.enc]
  | cons a r ih =>
    cases n with
    | zero => simp [EL.enc]
    | succ n =>
      have := ih n
      simp only [EL.enc] at this ⊢
      simp only [List.take_succ_cons, List.flatMap_cons, Nat.succ_mul]
      rw [show n * 3 + 3 = (n * 3 + 1 + 1) + 1 from rfl]
      simp [this]
theorem k3_drop (l : List (Int × Int × Int)) (n : Nat) : EL.enc (.k3 (l.drop n)) = (EL.enc (.k3 l)).drop (n * 3) := by
  induction l generalizing n with
  | nil => simp [EL.enc]
  | cons a r ih =>
    cases n with
    | zero => simp [EL.enc]
    | succ n =>
      have := ih n
      simp only [EL.enc] at this ⊢
      simp only [List.drop_succ_cons, List.flatMap_cons, Nat.succ_mul]
      rw [show n * 3 + 3 = (n * 3 + 1 + 1) + 1 from rfl]
      simp [this]
theorem EL.enc_take (l : EL) (n : Nat) : (l.take n).enc = l.enc.take (n * l.sz) := by
  cases l with
  | ints l => simp [EL.take, EL.enc, EL.sz]
  | bytes l => simp [EL.take, EL.enc, EL.sz]
  | gots l => exact gots_take l n
  | k3 l => exact k3_take l n
theorem EL.enc_drop (l : EL) (n : Nat) : (l.drop n).enc = l.enc.drop (n * l.sz) := by
  cases l with
  | ints l => simp [EL.drop, EL.enc, EL.sz]
  | bytes l => simp [EL.drop, EL.enc, EL.sz]
  | gots l => exact gots_drop l n
  | k3 l => exact k3_drop l n

section
variable {P : Program} {cx : Cx} {β : List En} {hp : Hp} {w : World}

theorem Sl.sub {sz n i h c : Nat} {a : Option Addr} {xs : List Value} (hs : Sl w sz (.slice a n c) n xs) (h1 : i ≤ h) (h2 : h ≤ n) :
    n ≤ c ∧ Sl w sz (.slice (if c = i then a else a.map (·.add (i * sz))) (h - i) (c - i)) (h - i) ((xs.drop (i * sz)).take ((h - i) * sz)) := by
  have hlen : ((xs.drop (i * sz)).take ((h - i) * sz)).length = (h - i) * sz := by
    rw [List.length_take, List.length_drop, hs.1, ← Nat.sub_mul]
    exact Nat.min_eq_left (Nat.mul_le_mul_right _ (by omega))
  rcases hs.2 with ⟨rfl, a', cap, he, hn⟩ | ⟨g, off, cap, cur, T, he, h3, h4, h5, h6⟩
  · simp only [Value.slice.injEq, true_and] at he
    obtain ⟨rfl, rfl⟩ := he
    refine ⟨Nat.zero_le _, hlen, .inl ⟨by omega, _, _, by rw [show h - i = 0 by omega], fun e => ?_⟩⟩
    split at e
    · omega
    · have := hn (by cases a <;> simp_all)
      omega
  · simp only [Value.slice.injEq, true_and] at he
    obtain ⟨rfl, rfl⟩ := he
    refine ⟨h3, hlen, ?_⟩
    by_cases h0 : h - i = 0
    · refine .inl ⟨h0, _, _, by rw [h0], fun e => ?_⟩
      split at e <;> cases e
    · have hc : ¬ c = i := by omega
      refine .inr ⟨g, off + i * sz, c - i, cur, T, by simp [hc, addr_add], by omega, h4, ?_, ?_⟩
      · have : i * sz + (c - i) * sz = c * sz := by rw [← Nat.add_mul]; congr 1; omega
        omega
      · rw [← h6, List.drop_take, List.take_take, List.drop_drop]
        congr 1
        rw [← Nat.sub_mul]
        exact (Nat.min_eq_left (Nat.mul_le_mul_right _ (by omega))).symm

theorem FZ.sub {n i h c : Nat} {a : Option Addr} {l : EL} (hf : FZ cx (.slice a n c) l) (hn : n = l.len) (h1 : i ≤ h) (h2 : h ≤ n) :
    FZ cx (.slice (if c = i then a else a.map (·.add (i * l.sz))) (h - i) (c - i)) ((l.drop i).take (h - i)) := by
  subst hn
  have hl : ((l.drop i).take (h - i)).len = h - i := by rw [EL.len_take, EL.len_drop]; omega
  have hsz : ((l.drop i).take (h - i)).sz = l.sz := by rw [EL.sz_take, EL.sz_drop]
  refine ⟨?_, by rw [hl]; have := hf.2.1; omega, fun h0 b hb => ?_⟩
  · rw [hl, hsz, EL.enc_take, EL.sz_drop, EL.enc_drop]
    exact (Sl.sub hf.1 h1 h2).2
  · rw [hl] at h0
    refine hf.2.2 (by omega) b ?_
    rw [← hb]
    split
    · cases a <;> rfl
    · cases a with
      | none => rfl
      | some x => simp [Value.ownBlock, Addr.add_block]

theorem PartOf.whole {sz n i h c base : Nat} {E : TypeId} {a : Option Addr} {xs : List Value} (ho : w.ownsRow base E sz (.slice a n c) n xs) (h1 : i ≤ h) (h2 : h ≤ n) :
    PartOf (.slice a n c) sz i (h - i) (.slice (if c = i then a else a.map (·.add (i * sz))) (h - i) (c - i)) := by
  rcases ho.2 with ⟨he, rfl⟩ | ⟨g, cap, cur, he, hb, hg, h3, h4, h5, h6⟩
  · simp only [Value.slice.injEq, true_and] at he
    obtain ⟨rfl, rfl⟩ := he
    exact ⟨_, _, rfl, fun _ => by omega, fun h => by omega⟩
  · simp only [Value.slice.injEq, true_and] at he
    obtain ⟨rfl, rfl⟩ := he
    refine ⟨_, _, rfl, fun e => ?_, fun h0 => ⟨g, n, c, rfl, ?_, by omega, by omega⟩⟩
    · split at e <;> cases e
    · have hc : ¬ c = i := by omega
      simp [hc, addr_add]
theorem PartOf.sub {v1 : Value} {sz n i0 i h c : Nat} {a : Option Addr} (hp : PartOf v1 sz i0 n (.slice a n c)) (h1 : i ≤ h) (h2 : h ≤ n) :
    PartOf v1 sz (i0 + i) (h - i) (.slice (if c = i then a else a.map (·.add (i * sz))) (h - i) (c - i)) := by
  obtain ⟨a', c', he, hn, hpos⟩ := hp
  simp only [Value.slice.injEq, true_and] at he
  obtain ⟨rfl, rfl⟩ := he
  refine ⟨_, _, rfl, fun e => ?_, fun h0 => ?_⟩
  · split at e
    · omega
    · have := hn (by cases a <;> simp_all)
      omega
  · obtain ⟨g, n1, c1, rfl, rfl, h3, h4⟩ := hpos (by omega)
    have hc : ¬ c = i := by omega
    exact ⟨g, n1, c1, rfl, by simp [hc, addr_add, Nat.add_mul], by omega, by omega⟩
theorem PartOf.sl {v1 v : Value} {sz i n n1 base : Nat} {E : TypeId} {xs : List Value} (hp : PartOf v1 sz i n v) (ho : w.ownsRow base E sz v1 n1 xs) (hle : i + n ≤ n1) : Sl w sz v n ((xs.drop (i * sz)).take (n * sz)) := by
  obtain ⟨a, c, rfl, hn, hpos⟩ := hp
  have hlen : ((xs.drop (i * sz)).take (n * sz)).length = n * sz := by
    rw [List.length_take, List.length_drop, ho.1, ← Nat.sub_mul]
    exact Nat.min_eq_left (Nat.mul_le_mul_right _ (by omega))
  refine ⟨hlen, ?_⟩
  by_cases h0 : n = 0
  · exact .inl ⟨h0, a, c, by rw [h0], hn⟩
  · obtain ⟨g, n2, c1, rfl, rfl, h3, h4⟩ := hpos (by omega)
    rcases ho.2 with ⟨he, _⟩ | ⟨g', cap, cur, he, hb, hg, h5, h6, h7, h8⟩
    · simp at he
    · simp only [Value.slice.injEq, Option.some.injEq, Addr.mk.injEq, and_true] at he
      obtain ⟨rfl, rfl, rfl⟩ := he
      refine .inr ⟨g, i * sz, c, cur, (E, (0, 0)), rfl, h3, hg, ?_, ?_⟩
      · have : i * sz + c * sz ≤ c1 * sz := by rw [← Nat.add_mul]; exact Nat.mul_le_mul_right _ (by omega)
        omega
      · rw [← h8, List.drop_take, List.take_take, ← Nat.sub_mul]
        congr 1
        exact (Nat.min_eq_left (Nat.mul_le_mul_right _ (by omega))).symm

/-! ### The list behind an abstract slice -/
theorem rowK_spec {k ver : Nat} {K : TypeId → EL → Prop} (h : rowK hp k ver K) : ∃ E l, hp[k]? = some (.r ver E l) ∧ K E l := by
  obtain ⟨x, h1, h⟩ := getH_iff.1 h
  split at h
  · rename_i ver' E l
    cases hb : Nat.beq ver ver' with
    | true =>
      simp only [hb] at h
      have : ver = ver' := Nat.eq_of_beq_eq_true hb
      subst this
      exact ⟨E, l, h1, h⟩
    | false => simp only [hb] at h
  · exact h.elim

theorem row_own (hI : Inv cx β hp w) {k ver : Nat} {E : TypeId} {l : EL} (h : hp[k]? = some (.r ver E l)) : ∃ v, β[k]? = some (.r v ver) ∧ w.ownsRow cx.w0.heap.size E l.sz v l.len l.enc ∧ l.len ≤ maxL := by
  have hlt : k < β.length := by rw [hI.len]; exact (List.getElem?_eq_some_iff.1 h).1
  have he : β[k]? = some β[k] := List.getElem?_eq_getElem hlt
  have ho := hI.ent k _ _ h he
  cases hx : β[k] with
  | r v ver' =>
    rw [hx] at ho he
    obtain ⟨rfl, h2, h3⟩ := ho
    exact ⟨v, he, h2, h3⟩
  | _ => rw [hx] at ho; exact ho.elim

theorem s_val {k ver : Nat} {v v1 : Value} (h : LC cx β (.s k ver) v) (h1 : β[k]? = some (.r v1 ver)) : v = v1 := by
  obtain ⟨_, v2, ver2, h2, h3, h4⟩ := h
  rw [h1] at h2
  simp only [Option.some.injEq, En.r.injEq] at h2
  obtain ⟨rfl, rfl⟩ := h2
  exact h4 rfl
theorem w_val {k ver sz i n : Nat} {v v1 : Value} (h : LC cx β (.w k ver sz i n) v) (h1 : β[k]? = some (.r v1 ver)) : PartOf v1 sz i n v := by
  obtain ⟨_, v2, ver2, h2, h3, h4⟩ := h
  rw [h1] at h2
  simp only [Option.some.injEq, En.r.injEq] at h2
  obtain ⟨rfl, rfl⟩ := h2
  exact h4 rfl
theorem owns_form {base n sz : Nat} {E : TypeId} {v : Value} {xs : List Value} (h : w.ownsRow base E sz v n xs) : ∃ a c, v = .slice a n c := by
  rcases h.2 with ⟨rfl, rfl⟩ | ⟨g, cap, cur, rfl, _⟩
  · exact ⟨_, _, rfl⟩
  · exact ⟨_, _, rfl⟩

theorem lenOf_spec (hI : Inv cx β hp w) {a : AV} {v : Value} {K : Nat → Prop} (ha : AC cx β a v) (h : lenOfK hp a K) : ∃ n, K n ∧ ∃ ad c, v = .slice ad n c := by
  unfold lenOfK at h
  split at h
  · obtain ⟨a, c, he, _⟩ := ha.2.1.form
    exact ⟨_, h, a, c, he⟩
  · obtain ⟨a, c, he, _⟩ := ha.2.2.1.form
    exact ⟨_, h, a, c, he⟩
  · obtain ⟨E, l, h1, h⟩ := rowK_spec h
    obtain ⟨v1, h2, h3, _⟩ := row_own hI h1
    rw [s_val (cx := cx) ha h2]
    exact ⟨_, h, owns_form h3⟩
  · obtain ⟨E, l, h1, h⟩ := rowK_spec h
    obtain ⟨v1, h2, h3, _⟩ := row_own hI h1
    obtain ⟨a, c, rfl, _⟩ := w_val (cx := cx) ha h2
    exact ⟨_, h, _, _, rfl⟩
  · obtain ⟨_, rfl⟩ := ha
    exact ⟨_, h, _, _, rfl⟩
  · exact h.elim

/-- What a slice that is read holds. -/
theorem read_spec (hI : Inv cx β hp w) {ek : EK} {a : AV} {v : Value} {K : EL → Prop} (ha : AC cx β a v) (h : readK hp ek a K) : ∃ l, K l ∧ Sl w l.sz v l.len l.enc ∧ l.len ≤ maxL := by
  unfold readK at h
  split at h
  · exact ⟨_, h, ha.2.sl hI, ha.2.2.1⟩
  · obtain ⟨E, l, h1, h⟩ := rowK_spec h
    obtain ⟨v1, h2, h3, h4⟩ := row_own hI h1
    rw [s_val (cx := cx) ha h2]
    exact ⟨_, h, sl_of_owns h3, h4⟩
  · obtain ⟨E, l, h1, h⟩ := rowK_spec h
    obtain ⟨v1, h2, h3, h4⟩ := row_own hI h1
    obtain ⟨hb, h⟩ := side_iff.1 h
    obtain ⟨hle, h⟩ := side_iff.1 h
    have hsz := Nat.eq_of_beq_eq_true hb
    have hp := w_val (cx := cx) ha h2
    rw [hsz] at hp
    have hl := PartOf.sl hp h3 hle
    refine ⟨_, h, ?_, ?_⟩
    · rw [EL.sz_take, EL.sz_drop, EL.len_take, EL.len_drop, EL.enc_take, EL.sz_drop, EL.enc_drop, Nat.min_eq_left (by omega)]
      exact hl
    · rw [EL.len_take, EL.len_drop]; omega
  · obtain ⟨_, rfl⟩ := ha
    refine ⟨_, h, ?_⟩
    cases ek <;> exact ⟨⟨rfl, .inl ⟨rfl, none, 0, rfl, fun _ => rfl⟩⟩, Nat.zero_le _⟩
  · exact h.elim

def OptV (a : Act) (x : Option Operand) (d n : Int) : Prop := match x with
  | none => n = d
  | some y => ∃ k, a.eval y = .int k n
theorem opt_spec {fr : Fr} {a : Act} (hf : FR cx β fr a.tmps) {x : Option Operand} {d : Int} {K : Int → Prop} (h : optK fr x d K) : ∃ n, K n ∧ OptV a x d n := by
  cases x with
  | none => exact ⟨_, h, rfl⟩
  | some y =>
    obtain ⟨r, h1, h2⟩ := ev_spec hf h
    split at h1
    · exact ⟨_, h1, _, h2.2⟩
    · exact h1.elim

theorem run_slice {t e : TypeId} {esz n c : Nat} {ad : Option Addr} (ht : P.underlying t = some (.slice e)) (hs : (P.info? e).map (·.size) = some esz) (hc : n ≤ c)
    {a : Act} {lo hi : Option Operand} {i h : Int} (hi0 : OptV a lo 0 i) (hh0 : OptV a hi n h)
    (h1 : 0 ≤ i) (h2 : i ≤ h) (h3 : h ≤ n) (w : World) :
    (Instr.sliceAt t (.slice ad n c) (lo.map a.eval) (hi.map a.eval) none).run P w = .ok (.slice (if c = i.toNat then ad else ad.map (·.add (i.toNat * esz))) (h.toNat - i.toNat) (c - i.toNat)) w := by
  have hh : h ≤ (c : Int) := by omega
  cases hi with
  | none =>
    have hh1 : h = n := hh0
    subst hh1
    cases lo with
    | none =>
      have hi1 : i = 0 := hi0
      subst hi1
      simp [Instr.sliceAt, Instr.slice, Instr.sliceBounds, run_underlying ht, run_sz hs]
    | some y =>
      obtain ⟨k, hk⟩ := hi0
      simp [Instr.sliceAt, Instr.slice, Instr.sliceBounds, run_underlying ht, hk, Instr.sliceBound, asIntOf, h1, h2, run_sz hs]
  | some z =>
    obtain ⟨k', hk'⟩ := hh0
    have h0 : 0 ≤ h := by omega
    obtain ⟨m, rfl⟩ := Int.eq_ofNat_of_zero_le h0
    have hmc : m ≤ c := by omega
    cases lo with
    | none =>
      have hi1 : i = 0 := hi0
      subst hi1
      simp [Instr.sliceAt, Instr.slice, Instr.sliceBounds, run_underlying ht, hk', Instr.sliceBound, asIntOf, hmc, run_sz hs]
    | some y =>
      obtain ⟨k, hk⟩ := hi0
      simp [Instr.sliceAt, Instr.slice, Instr.sliceBounds, run_underlying ht, hk', hk, Instr.sliceBound, asIntOf, hmc, run_sz hs, h1, h2]

theorem slice_len_eq {n c m sz : Nat} {ad : Option Addr} {xs : List Value} (h : Sl w sz (.slice ad n c) m xs) : n = m := by
  obtain ⟨a', c', he, _⟩ := h.form
  simp only [Value.slice.injEq] at he
  exact he.2.1
theorem cut_spec (hI : Inv cx β hp w) {fr : Fr} {a : Act} (hf : FR cx β fr a.tmps) {t e : TypeId} {esz : Nat} (ht : P.underlying t = some (.slice e)) (hs : (P.info? e).map (·.size) = some esz) {x : AV} {v : Value} (hx : AC cx β x v) {lo hi : Option Operand} {K : AV → Prop} (h : cutS esz x hp fr lo hi K) :
    ∃ r, K r ∧ ∃ u, AC cx β r u ∧ ∀ w, (Instr.sliceAt t v (lo.map a.eval) (hi.map a.eval) none).run P w = .ok u w := by
  obtain ⟨n, g1, ad, c, rfl⟩ := lenOf_spec hI hx h
  obtain ⟨i, g2, hi0⟩ := opt_spec hf g1
  obtain ⟨m, g3, hm0⟩ := opt_spec hf g2
  obtain ⟨⟨h1, h2, h3⟩, g4⟩ := side_iff.1 g3
  clear h g1 g2 g3
  split at g4
  · rename_i l
    obtain ⟨hb, g5⟩ := side_iff.1 g4
    have hsz : esz = l.sz := Nat.eq_of_beq_eq_true hb
    have hz := hx.2
    have hn : n = l.len := slice_len_eq hz.1
    have hc : n ≤ c := by
      have := hz.1
      rw [← hn] at this
      exact (Sl.sub this (Nat.le_refl _) (Nat.le_refl _)).1
    have hF := FZ.sub hz hn (i := i.toNat) (h := m.toNat) (by omega) (by omega)
    rw [← hsz] at hF
    exact ⟨_, g5, _, ⟨rfl, hF⟩, run_slice ht hs hc hi0 hm0 h1 h2 h3⟩
  · rename_i k ver
    obtain ⟨E, l, hr, g5⟩ := rowK_spec g4
    obtain ⟨hb, g6⟩ := side_iff.1 g5
    have hsz : esz = l.sz := Nat.eq_of_beq_eq_true hb
    obtain ⟨v1, r2, r3, r4⟩ := row_own hI hr
    have hv := s_val (cx := cx) hx r2
    subst hv
    have hn : n = l.len := slice_len_eq (sl_of_owns r3)
    rw [← hn, ← hsz] at r3
    have hc : n ≤ c := (Sl.sub (sl_of_owns r3) (Nat.le_refl _) (Nat.le_refl _)).1
    exact ⟨_, g6, _, ⟨rfl, _, _, r2, Nat.le_refl _, fun _ => PartOf.whole r3 (by omega) (by omega)⟩, run_slice ht hs hc hi0 hm0 h1 h2 h3⟩
  · rename_i k ver sz i0 n0
    obtain ⟨E, l, hr, g5⟩ := rowK_spec g4
    obtain ⟨hb, g6⟩ := side_iff.1 g5
    have hsz : esz = sz := Nat.eq_of_beq_eq_true hb
    subst hsz
    obtain ⟨v1, r2, r3, r4⟩ := row_own hI hr
    have hP := w_val (cx := cx) hx r2
    have hP' := hP
    obtain ⟨a', c', he, hn', hpos⟩ := hP'
    simp only [Value.slice.injEq] at he
    obtain ⟨rfl, rfl, rfl⟩ := he
    have hc : n ≤ c := by
      by_cases h0 : 0 < n
      · obtain ⟨_, _, _, _, _, h4, _⟩ := hpos h0
        exact h4
      · omega
    exact ⟨_, g6, _, ⟨rfl, _, _, r2, Nat.le_refl _, fun _ => hP.sub (by omega) (by omega)⟩, run_slice ht hs hc hi0 hm0 h1 h2 h3⟩
  · exact g4.elim

/-! ### Elements -/
theorem enc_ints (l : List Int) (i : Nat) (h : i < l.length) : (EL.ints l).enc[i]? = some (.int .i64 (l.getD i 0)) := by
  simp [EL.enc, h, List.getD]
theorem enc_gots (l : List (Int × Int)) : ∀ (i : Nat), i < l.length → (EL.gots l).enc[i * 2]? = some (.int .i64 (l.getD i (0, 0)).1) ∧ (EL.gots l).enc[i * 2 + 1]? = some (.int .i64 (l.getD i (0, 0)).2) := by
  induction l with
  | nil => intro i h; simp at h
  | cons a r ih =>
    intro i h
    cases i with
    | zero => simp [EL.enc]
    | succ i =>
      have := ih i (by simpa using h)
      simp only [EL.enc] at this ⊢
      simp only [List.flatMap_cons, Nat.succ_mul, List.getD_cons_succ]
      constructor
      · rw [show i * 2 + 2 = (i * 2 + 1) + 1 from rfl]; simpa using this.1
      · rw [show i * 2 + 2 + 1 = (i * 2 + 1 + 1) + 1 from rfl]; simpa using this.2

theorem enc_k3 (l : List (Int × Int × Int)) : ∀ (i : Nat), i < l.length → (EL.k3 l).enc[i * 3]? = some (.int .i64 (l.getD i (0, 0, 0)).1) ∧ (EL.k3 l).enc[i * 3 + 1]? = some (.int .i64 (l.getD i (0, 0, 0)).2.1) ∧ (EL.k3 l).enc[i * 3 + 2]? = some (.int .i64 (l.getD i (0, 0, 0)).2.2) := by
  induction l with
  | nil => intro i h; simp at h
  | cons a r ih =>
    intro i h
    cases i with
    | zero => simp [EL.enc]
    | succ i =>
      have := ih i (by simpa using h)
      simp only [EL.enc] at this ⊢
      simp only [List.flatMap_cons, Nat.succ_mul, List.getD_cons_succ]
      refine ⟨?_, ?_, ?_⟩
      · rw [show i * 3 + 3 = (i * 3 + 1 + 1) + 1 from rfl]; simpa using this.1
      · rw [show i * 3 + 3 + 1 = (i * 3 + 1 + 1 + 1) + 1 from rfl]; simpa using this.2.1
      · rw [show i * 3 + 3 + 2 = (i * 3 + 2 + 1 + 1) + 1 from rfl]; simpa using this.2.2

theorem el_load {t : TypeId} {ti : TI} (hT : TIok P t ti) {l : EL} {i off g o : Nat} {K : AV → Prop} (hcell : ∀ (j : Nat) u, l.enc[j]? = some u → w.cell? ⟨g, o + j, none⟩ = some u) (hi : i < l.len) (h : elK l i off ti.agg ti.sz K) :
    ∃ r, K r ∧ ∃ v, AC cx β r v ∧ ∀ w' : World, w'.heap[g]? = w.heap[g]? → (loadVar t ⟨g, o + (i * l.sz + off), none⟩).run P w' = .ok v w' := by
  have cell : ∀ w' : World, w'.heap[g]? = w.heap[g]? → ∀ (j : Nat) u, l.enc[j]? = some u → w'.cell? ⟨g, o + j, none⟩ = some u := fun w' hw j u hu => by
    rw [World.cell?_of_block (w := w) (a := ⟨g, o + j, none⟩) hw]; exact hcell j u hu
  have one : ∀ (j : Nat) u, l.enc[j]? = some u → ti.agg = false → ∀ w' : World, w'.heap[g]? = w.heap[g]? → (loadVar t ⟨g, o + j, none⟩).run P w' = .ok u w' := fun j u hu hg w' hw => by
    have := cell w' hw j u hu
    simp [loadVar, run_ag (hg ▸ hT.agg), load, Sem.run, this]
  cases l with
  | ints l =>
    have h0 := enc_ints l i hi
    cases hg : ti.agg with
    | true => simp only [elK, hg] at h
    | false =>
      simp only [elK, hg] at h
      split at h
      · exact ⟨_, h, _, acI _ _, one _ _ (by simpa [EL.sz] using h0) hg⟩
      · exact h.elim
  | bytes l =>
    have h0 : (EL.bytes l).enc[i]? = some (.int .u8 ((l.getD i 0).toNat : Int)) := by
      have hi' : i < l.length := hi
      simp [EL.enc, hi', List.getD]
    cases hg : ti.agg with
    | true => simp only [elK, hg] at h
    | false =>
      simp only [elK, hg] at h
      split at h
      · exact ⟨_, h, _, acI _ _, one _ _ (by simpa [EL.sz] using h0) hg⟩
      · exact h.elim
  | gots l =>
    have h0 := enc_gots l i hi
    cases hg : ti.agg with
    | true =>
      simp only [elK, hg] at h
      split at h
      · split at h
        · rename_i hsz
          refine ⟨_, h, .agg #[.int .i64 (l.getD i (0, 0)).1, .int .i64 (l.getD i (0, 0)).2], ⟨_, rfl, ⟨rfl, rfl⟩, ⟨rfl, rfl⟩, trivial⟩, fun w' hw => ?_⟩
          have hL := run_loadCells_list (P := P) w' ⟨g, o + (i * 2 + 0), none⟩ [.int .i64 (l.getD i (0, 0)).1, .int .i64 (l.getD i (0, 0)).2] (fun j v hj => by
            rw [addr_add]
            match j with
            | 0 => simp only [List.getElem?_cons_zero, Option.some.injEq] at hj; subst hj; exact cell w' hw (i * 2) _ h0.1
            | 1 => simp only [List.getElem?_cons_succ, List.getElem?_cons_zero, Option.some.injEq] at hj; subst hj; exact cell w' hw (i * 2 + 1) _ h0.2
            | j + 2 => simp at hj)
          have hsz' := hT.size
          rw [hsz] at hsz'
          simp only [List.length_cons, List.length_nil, Nat.zero_add] at hL
          simp [EL.sz, loadVar, run_ag (hg ▸ hT.agg), run_sz hsz'] at hL ⊢
          simp [hL]
        · exact h.elim
      · exact h.elim
    | false =>
      simp only [elK, hg] at h
      split at h
      · exact ⟨_, h, _, acI _ _, one _ _ (by simpa [EL.sz] using h0.1) hg⟩
      · exact ⟨_, h, _, acI _ _, one _ _ (by simpa [EL.sz] using h0.2) hg⟩
      · exact h.elim
  | k3 l =>
    have h0 := enc_k3 l i hi
    cases hg : ti.agg with
    | true =>
      simp only [elK, hg] at h
      split at h
      · split at h
        · rename_i hsz
          refine ⟨_, h, .agg #[.int .i64 (l.getD i (0, 0, 0)).1, .int .i64 (l.getD i (0, 0, 0)).2.1, .int .i64 (l.getD i (0, 0, 0)).2.2], ⟨_, rfl, ⟨rfl, rfl⟩, ⟨rfl, rfl⟩, ⟨rfl, rfl⟩, trivial⟩, fun w' hw => ?_⟩
          have hL := run_loadCells_list (P := P) w' ⟨g, o + (i * 3 + 0), none⟩ [.int .i64 (l.getD i (0, 0, 0)).1, .int .i64 (l.getD i (0, 0, 0)).2.1, .int .i64 (l.getD i (0, 0, 0)).2.2] (fun j v hj => by
            rw [addr_add]
            match j with
            | 0 => simp only [List.getElem?_cons_zero, Option.some.injEq] at hj; subst hj; exact cell w' hw (i * 3) _ h0.1
            | 1 => simp only [List.getElem?_cons_succ, List.getElem?_cons_zero, Option.some.injEq] at hj; subst hj; exact cell w' hw (i * 3 + 1) _ h0.2.1
            | 2 => simp only [List.getElem?_cons_succ, List.getElem?_cons_zero, Option.some.injEq] at hj; subst hj; exact cell w' hw (i * 3 + 2) _ h0.2.2
            | j + 3 => simp at hj)
          have hsz' := hT.size
          rw [hsz] at hsz'
          simp only [List.length_cons, List.length_nil, Nat.zero_add] at hL
          simp [EL.sz, loadVar, run_ag (hg ▸ hT.agg), run_sz hsz'] at hL ⊢
          simp [hL]
        · exact h.elim
      · exact h.elim
    | false =>
      simp only [elK, hg] at h
      split at h
      · exact ⟨_, h, _, acI _ _, one _ _ (by simpa [EL.sz] using h0.1) hg⟩
      · exact ⟨_, h, _, acI _ _, one _ _ (by simpa [EL.sz] using h0.2.1) hg⟩
      · exact ⟨_, h, _, acI _ _, one _ _ (by simpa [EL.sz] using h0.2.2) hg⟩
      · exact h.elim

theorem owns_cells {base n sz g c : Nat} {E : TypeId} {xs : List Value} (h : w.ownsRow base E sz (.slice (some ⟨g, 0, none⟩) n c) n xs) : ∀ (j : Nat) u, xs[j]? = some u → w.cell? ⟨g, 0 + j, none⟩ = some u := by
  intro j u hu
  have := h.cells (g := g) rfl j u hu
  rwa [addr_add] at this

theorem run_index {t e : TypeId} {esz n c : Nat} {ad : Addr} (ht : P.underlying t = some (.slice e)) (hs : (P.info? e).map (·.size) = some esz) {k : IntKind} {i : Int} (h1 : 0 ≤ i) (h2 : i < n) (w : World) :
    (Instr.indexAt t (.slice (some ad) n c) (.int k i)).run P w = .ok (.pointer (some (ad.add (i.toNat * esz)))) w := by
  simp [Instr.indexAt, run_underlying ht, asIntOf, h1, h2, run_sz hs]

end
end Ab
end Go.Proofs.YtkhggobpanfkfaaDoor

/-
  The soft operations, all in one: what the abstract walk says of them is what they answer. Plain lemmas; the conditions are the types' rows (TIok).
-/
namespace Go.Proofs.YtkhggobpanfkfaaDoor
open Go.RowKit
namespace Ab
section
variable {P : Program} {cx : Cx} {β : List En} {hp : Hp} {w : World}

/-- The fields of a struct, as the row has them. -/
theorem struct_row {t : TypeId} {fs : List (Nat × Nat × Bool)} (h : KOk P t (.struct fs)) : ∃ g, P.underlying t = some (.struct g) ∧ g.toList.map (fun f => (f.offset, (P.info? f.type).map (·.size), (P.underlying f.type).map aggD)) = fs.map fun x => (x.1, some x.2.1, some x.2.2) := by
  obtain ⟨h, _⟩ := h
  cases hu : P.underlying t with
  | none => rw [hu] at h; cases h
  | some d =>
    rw [hu] at h
    cases d <;> simp only [Option.bind_some] at h <;> first | (cases h; done) | skip
    exact ⟨_, rfl, Option.some.inj h⟩
theorem struct_field {t : TypeId} {fs : List (Nat × Nat × Bool)} (h : KOk P t (.struct fs)) {i o s : Nat} {ag : Bool} (hi : fs[i]? = some (o, s, ag)) :
    ∃ g f, P.underlying t = some (.struct g) ∧ g[i]? = some f ∧ f.offset = o ∧ (P.info? f.type).map (·.size) = some s ∧ (P.underlying f.type).map aggD = some ag ∧ s ≠ 0 := by
  obtain ⟨g, hg, he⟩ := struct_row h
  have h1 := congrArg (fun l => l[i]?) he
  simp only [List.getElem?_map, hi, Option.map_some] at h1
  obtain ⟨f, hf, e⟩ := Option.map_eq_some_iff.1 h1
  simp only [Prod.mk.injEq] at e
  refine ⟨g, f, hg, by simpa using hf, e.1, e.2.1, e.2.2, ?_⟩
  have := List.all_eq_true.1 h.2 _ (List.mem_of_getElem? hi)
  simpa using this

theorem run_field {t : TypeId} {fs : List (Nat × Nat × Bool)} (h : KOk P t (.struct fs)) {i o s : Nat} {ag : Bool} (hi : fs[i]? = some (o, s, ag)) (g off : Nat) (w : World) :
    (Instr.fieldAt t (.pointer (some ⟨g, off, none⟩)) i).run P w = .ok (.pointer (some ⟨g, off + o, none⟩)) w := by
  obtain ⟨fl, f, h1, h2, h3, h4, h5, h6⟩ := struct_field h hi
  subst h3
  simp [Instr.fieldAt, run_underlying h1, h2, Instr.sureAddr, fieldPlace, run_sz h4, h6, addr_add]

theorem cut_part {t : TypeId} {n : Nat} {g : Bool} (hg : (P.underlying t).map aggD = some g) (hs : (P.info? t).map (·.size) = some n) {cs : List LV} {us : Array Value} {off : Nat} {K : AV → Prop} (hcs : LCs cx β cs us.toList) (h : cutK cs off n g K) :
    ∃ r, K r ∧ ∃ v, AC cx β r v ∧ ∀ w, (part t us off).run P w = .ok v w := by
  obtain ⟨h1, h⟩ := dropK_iff.1 h
  obtain ⟨h2, h⟩ := takeK_iff.1 h
  have hl := (hcs.drop off).take n
  cases g with
  | true =>
    refine ⟨_, h, .agg (us.extract off (off + n)), ⟨_, rfl, ?_⟩, fun w => ?_⟩
    · simpa [Array.toList_extract, List.extract_eq_take_drop] using hl
    · simp [part, run_ag hg, run_sz hs]
  | false =>
    dsimp only at h
    split at h
    · rename_i x hx
      rw [hx] at hl
      cases hu : (us.toList.drop off).take n with
      | nil => rw [hu] at hl; exact hl.elim
      | cons v vs =>
        rw [hu] at hl
        refine ⟨_, h, v, hl.1, fun w => ?_⟩
        have h0 : us[off]? = some v := by
          have := congrArg (fun l => l[0]?) hu
          simp only [List.getElem?_cons_zero, List.getElem?_take, List.getElem?_drop, Nat.add_zero] at this
          split at this
          · simpa using this
          · cases this
        simp [part, run_ag hg, h0]
    · exact h.elim

theorem run_places : ∀ (l : List Field) (fs : List (Nat × Nat × Bool)) (acc : Array (Nat × Nat)), l.map (fun f => (f.offset, (P.info? f.type).map (·.size), (P.underlying f.type).map aggD)) = fs.map (fun x => (x.1, some x.2.1, some x.2.2)) → ∀ w : World,
    (l.foldlM (fun (b : Array (Nat × Nat)) (f : Field) => b.push <$> (do pure (f.offset, ← sizeOf f.type) : Sem (Nat × Nat))) acc).run P w = .ok (acc ++ (fs.map fun x => (x.1, x.2.1)).toArray) w
  | [], [], acc, _, w => by simp
  | f :: l, x :: fs, acc, h, w => by
    simp only [List.map_cons, List.cons.injEq, Prod.mk.injEq] at h
    obtain ⟨⟨h1, h2, h3⟩, h4⟩ := h
    rw [List.foldlM_cons]
    have ih := run_places l fs (acc.push (x.1, x.2.1)) h4
    change Sem.run P (((do pure (f.offset, ← sizeOf f.type) : Sem (Nat × Nat)) >>= fun c => pure (acc.push c)) >>= fun b => l.foldlM _ b) w = _
    simp only [Sem.run_bind, run_sz h2, Result.andThen_ok, Sem.run_pure, h1, ih w]
    congr 1
    simp
  | [], _ :: _, _, h, _ => by simp at h
  | _ :: _, [], _, h, _ => by simp at h

theorem fold_set : ∀ (vs : List Value) (cells : Array Value) (off j : Nat), off + j + vs.length ≤ cells.size →
    ((vs.zipIdx j).foldl (fun cs (x : Value × Nat) => cs.setIfInBounds (off + x.2) x.1) cells).toList = cells.toList.take (off + j) ++ vs ++ cells.toList.drop (off + j + vs.length)
  | [], cells, off, j, _ => by simp
  | v :: vs, cells, off, j, h => by
    simp only [List.length_cons] at h
    simp only [List.zipIdx_cons, List.foldl_cons]
    rw [fold_set vs _ off (j + 1) (by simp; omega)]
    have e := list_seg_step cells.toList (off + j) v vs (by simp; omega)
    simp only [Array.toList_setIfInBounds]
    rw [← Nat.add_assoc]
    simpa [Nat.add_assoc, Nat.add_comm 1] using e

theorem fill_spec {fr : Fr} {a : Act} (hf : FR cx β fr a.tmps) {fs : List (Nat × Nat × Bool)} : ∀ (parts : List (Nat × Operand)) (cs : List LV) (us : Array Value) (K : List LV → Prop), LCs cx β cs us.toList → fillK fr fs parts cs K →
    ∃ cs', K cs' ∧ ∃ us', LCs cx β cs' us'.toList ∧ Instr.fill ((fs.map fun x => (x.1, x.2.1)).toArray[·]?) us (parts.map fun x => (x.1, a.eval x.2)) = some us'
  | [], cs, us, K, hc, h => ⟨cs, h, us, hc, rfl⟩
  | (i, x) :: parts, cs, us, K, hc, h => by
    obtain ⟨o, s, g, h1, h2⟩ := fldK_iff.1 h
    obtain ⟨r, h3, h4⟩ := ev_spec hf h2
    have hcells : ∃ vs, lenK vs s (replK cs o vs fun cs' => fillK fr fs parts cs' K) ∧ LCs cx β vs (a.eval x).cells.toList := by
      unfold cellsK at h3
      split at h3
      · refine ⟨_, h3, ?_⟩
        have h5 : LC cx β _ (a.eval x) := h4
        have h6 : (a.eval x).cells = #[a.eval x] := by
          have := h5.1
          cases hv : a.eval x <;> first | rfl | (rw [hv] at this; cases this)
        rw [h6]
        exact ⟨h5, trivial⟩
      · obtain ⟨us', e, h5⟩ := h4
        exact ⟨_, h3, by rw [e]; exact h5⟩
      · exact h3.elim
    obtain ⟨vs, h5, h6⟩ := hcells
    obtain ⟨h7, h8⟩ := lenK_iff.1 h5
    obtain ⟨h9, h10⟩ := replK_iff.1 h8
    have hl : vs.length = (a.eval x).cells.size := by rw [h6.length]; simp
    have hsz : us.size = cs.length := by rw [hc.length]; simp
    have hset := fold_set (a.eval x).cells.toList us o 0 (by simp; omega)
    have hnew : LCs cx β (cs.take o ++ vs ++ cs.drop (o + vs.length)) ((a.eval x).cells.zipIdx.foldl (fun cs (x : Value × Nat) => cs.setIfInBounds (o + x.2) x.1) us).toList := by
      rw [← Array.foldl_toList, Array.toList_zipIdx, hset]
      simp only [Nat.add_zero, Array.length_toList]
      rw [← hl]
      exact LCs.append (LCs.append (hc.take o) h6) (hc.drop _)
    obtain ⟨cs', h11, us', h12, h13⟩ := fill_spec hf parts _ _ K hnew h10
    refine ⟨cs', h11, us', h12, ?_⟩
    simp only [List.map_cons, Instr.fill]
    have hp : (fs.map fun x => (x.1, x.2.1)).toArray[i]? = some (o, s) := by simp [h1]
    rw [hp]
    simp only
    rw [if_neg (by simp; omega)]
    exact h13

theorem fillA_spec {fr : Fr} {a : Act} (hf : FR cx β fr a.tmps) {esz : Nat} : ∀ (parts : List (Nat × Operand)) (cs : List LV) (us : Array Value) (K : List LV → Prop), LCs cx β cs us.toList → fillAK fr esz parts cs K →
    ∃ cs', K cs' ∧ ∃ us', LCs cx β cs' us'.toList ∧ Instr.fill (fun i => some (i * esz, esz)) us (parts.map fun x => (x.1, a.eval x.2)) = some us'
  | [], cs, us, K, hc, h => ⟨cs, h, us, hc, rfl⟩
  | (i, x) :: parts, cs, us, K, hc, h => by
    obtain ⟨r, h3, h4⟩ := ev_spec hf h
    have hcells : ∃ vs, lenK vs esz (replK cs (i * esz) vs fun cs' => fillAK fr esz parts cs' K) ∧ LCs cx β vs (a.eval x).cells.toList := by
      unfold cellsK at h3
      split at h3
      · refine ⟨_, h3, ?_⟩
        have h5 : LC cx β _ (a.eval x) := h4
        have h6 : (a.eval x).cells = #[a.eval x] := by
          have := h5.1
          cases hv : a.eval x <;> first | rfl | (rw [hv] at this; cases this)
        rw [h6]
        exact ⟨h5, trivial⟩
      · obtain ⟨us', e, h5⟩ := h4
        exact ⟨_, h3, by rw [e]; exact h5⟩
      · exact h3.elim
    obtain ⟨vs, h5, h6⟩ := hcells
    obtain ⟨h7, h8⟩ := lenK_iff.1 h5
    obtain ⟨h9, h10⟩ := replK_iff.1 h8
    have hl : vs.length = (a.eval x).cells.size := by rw [h6.length]; simp
    have hsz : us.size = cs.length := by rw [hc.length]; simp
    have hset := fold_set (a.eval x).cells.toList us (i * esz) 0 (by simp; omega)
    have hnew : LCs cx β (cs.take (i * esz) ++ vs ++ cs.drop (i * esz + vs.length)) ((a.eval x).cells.zipIdx.foldl (fun cs (x : Value × Nat) => cs.setIfInBounds (i * esz + x.2) x.1) us).toList := by
      rw [← Array.foldl_toList, Array.toList_zipIdx, hset]
      simp only [Nat.add_zero, Array.length_toList]
      rw [← hl]
      exact LCs.append (LCs.append (hc.take (i * esz)) h6) (hc.drop _)
    obtain ⟨cs', h11, us', h12, h13⟩ := fillA_spec hf parts _ _ K hnew h10
    refine ⟨cs', h11, us', h12, ?_⟩
    simp only [List.map_cons, Instr.fill]
    rw [if_neg (by simp; omega)]
    exact h13

/-- What a soft operation may lean on. -/
def Sm (cx : Cx) (β : List En) (hp : Hp) (W : Option (Nat × List Nat)) (w w' : World) : Prop := match W with
  | none => w' = w
  | some (n, Wl) => ∀ b, ((∃ k, k < n ∧ k ∉ Wl ∧ ownB hp β k = some b) ∨ (b < cx.w0.heap.size ∧ b ∉ cx.M)) → w'.heap[b]? = w.heap[b]?

theorem may_same {W : Option (Nat × List Nat)} {k b : Nat} (hm : mayAsk W k = true) (ho : ownB hp β k = some b) {w' : World} (hs : Sm cx β hp W w w') : w'.heap[b]? = w.heap[b]? := by
  cases W with
  | none => have : w' = w := hs; rw [this]
  | some W =>
    obtain ⟨n, Wl⟩ := W
    simp only [mayAsk, Bool.and_eq_true, Bool.not_eq_true'] at hm
    refine hs b (.inl ⟨k, by simpa [Nat.blt_eq] using hm.1, fun hc => ?_, ho⟩)
    rw [memN_iff.2 hc] at hm
    cases hm.2
theorem fz_same {W : Option (Nat × List Nat)} {b : Nat} (h1 : b < cx.w0.heap.size) (h2 : b ∉ cx.M) {w' : World} (hs : Sm cx β hp W w w') : w'.heap[b]? = w.heap[b]? := by
  cases W with
  | none => have : w' = w := hs; rw [this]
  | some W => exact hs b (.inr ⟨h1, h2⟩)

theorem vrun {s : Sem Value} {v : Value} {w : World} (h : s.run P w = .ok v w) : (do pure (Next.value (← s)) : Sem Next).run P w = .ok (.value v) w := by
  simp [h]

theorem e_val {k ver sz i off : Nat} {v v1 : Value} (h : LC cx β (.e k ver sz i off) v) (h1 : β[k]? = some (.r v1 ver)) : ∃ g n1 c1, v1 = .slice (some ⟨g, 0, none⟩) n1 c1 ∧ v = .pointer (some ⟨g, i * sz + off, none⟩) := by
  obtain ⟨_, v2, ver2, h2, h3, h4⟩ := h
  rw [h1] at h2
  simp only [Option.some.injEq, En.r.injEq] at h2
  obtain ⟨rfl, rfl⟩ := h2
  exact h4 rfl

theorem sum_spec : ∀ {xs : List (LV ⊕ List LV)} {vs : List Value} {i : Nat} {K : AV → Prop}, TCs cx β xs vs → sumK xs i K → ∃ r, K r ∧ ∃ v, AC cx β r v ∧ vs[i]? = some v
  | [], _, _, _, _, h => h.elim
  | .inl x :: xs, v :: vs, 0, K, hc, h => ⟨_, h, v, hc.1, rfl⟩
  | .inr cs :: xs, v :: vs, 0, K, hc, h => ⟨_, h, v, hc.1, rfl⟩
  | .inl x :: xs, v :: vs, i + 1, K, hc, h => by
    obtain ⟨r, h1, u, h2, h3⟩ := sum_spec hc.2 (i := i) h
    exact ⟨r, h1, u, h2, by simpa using h3⟩
  | .inr x :: xs, v :: vs, i + 1, K, hc, h => by
    obtain ⟨r, h1, u, h2, h3⟩ := sum_spec hc.2 (i := i) h
    exact ⟨r, h1, u, h2, by simpa using h3⟩
  | .inl _ :: _, [], _, _, hc, _ => hc.elim
  | .inr _ :: _, [], _, _, hc, _ => hc.elim

theorem struct_under {t : TypeId} {fs : List (Nat × Nat × Bool)} (h : KOk P t (.struct fs)) : ∃ g, P.underlying t = some (.struct g) := by
  obtain ⟨h1, _⟩ := h
  obtain ⟨d, hd, h2⟩ := Option.bind_eq_some_iff.1 h1
  split at h2
  · exact ⟨_, hd⟩
  · cases h2
theorem vals_spec : ∀ {cs : List LV} {K : List Value → Prop}, valsK cs K → ∃ us, K us ∧ ∀ vs, LCs cx β cs vs → vs = us
  | [], K, h => ⟨[], h, fun vs hv => by cases vs with | nil => rfl | cons _ _ => exact hv.elim⟩
  | .v x :: r, K, h => by
    obtain ⟨us, h1, h2⟩ := vals_spec (cs := r) h
    refine ⟨x :: us, h1, fun vs hv => ?_⟩
    cases vs with
    | nil => exact hv.elim
    | cons v vs =>
      have e : v = x := hv.1.2
      rw [e, h2 vs hv.2]
  | .p _ _ :: _, _, h => h.elim
  | .s _ _ :: _, _, h => h.elim
  | .w _ _ _ _ _ :: _, _, h => h.elim
  | .f _ :: _, _, h => h.elim
  | .fx _ _ :: _, _, h => h.elim
  | .e _ _ _ _ _ :: _, _, h => h.elim
  | .g _ _ _ :: _, _, h => h.elim
  | .o _ _ :: _, _, h => h.elim
  | .m _ :: _, _, h => h.elim
  | .j :: _, _, h => h.elim
theorem under_of {t : TypeId} {ti : TI} (h : TIok P t ti) : ∃ d, P.underlying t = some d := by
  cases hq : P.underlying t with
  | none => have := h.agg; rw [hq] at this; cases this
  | some d => exact ⟨d, rfl⟩
theorem findNow_spec (n : Int) : ∀ (en : List MapEntry) (es : List (Int × Value)) (i : Nat), en.map (fun e => (e.key, e.val)) = es.map (fun x => (Value.int .i64 x.1, x.2)) → ∃ j, Instr.findNow (.int .i64) (.int .i64 n) en i = some ((mapG es n).map fun v => (j, v))
  | [], [], i, _ => ⟨0, rfl⟩
  | e :: en, (k, v) :: es, i, h => by
    simp only [List.map_cons, List.cons.injEq, Prod.mk.injEq] at h
    obtain ⟨⟨h1, h2⟩, h3⟩ := h
    obtain ⟨j, hj⟩ := findNow_spec n en es (i + 1) h3
    by_cases hk : k = n
    · subst hk
      exact ⟨i, by simp [Instr.findNow, Instr.sameNow, h1, h2, mapG]⟩
    · have hk2 : (n == k) = false := by simpa using fun e : n = k => hk e.symm
      exact ⟨j, by simp [Instr.findNow, Instr.sameNow, h1, mapG, hk, hk2, hj]⟩
  | [], _ :: _, _, h => by simp at h
  | _ :: _, [], _, h => by simp at h
theorem map_under {t : TypeId} (h : KOk P t .map) : ∃ k e, P.underlying t = some (.map k e) ∧ P.underlying k = some (.int .i64) := by
  obtain ⟨d, hd, h2⟩ := Option.bind_eq_some_iff.1 h
  split at h2
  · rename_i k e
    obtain ⟨d2, hd2, h3⟩ := Option.map_eq_some_iff.1 h2
    unfold isI64 at h3
    split at h3
    · exact ⟨k, e, hd, hd2⟩
    · cases h3
  · cases h2
theorem run_key {k : TypeId} (hk : P.underlying k = some (.int .i64)) (n : Int) (e : Bool) (w : World) : (Instr.checkKey e 10000 k (.int .i64 n)).run P w = .ok () w := by
  unfold Instr.checkKey
  simp [run_underlying hk]
theorem run_find {k : TypeId} (hk : P.underlying k = some (.int .i64)) {n : Int} {en : Array MapEntry} {es : List (Int × Value)} (he : en.toList.map (fun e => (e.key, e.val)) = es.map fun x => (Value.int .i64 x.1, x.2)) (w : World) : ∃ j, (Instr.findKey k (.int .i64 n) en.toList).run P w = .ok ((mapG es n).map fun v => (j, v)) w := by
  obtain ⟨j, hj⟩ := findNow_spec n en.toList es 0 he
  refine ⟨j, ?_⟩
  unfold Instr.findKey
  rw [Sem.run_bind, run_underlying hk, Result.andThen_ok, hj]
  rfl
theorem run_look {t : TypeId} (h : KOk P t .map) {w : World} {b : Nat} {o : Obj} {es : List (Int × Value)} (hb : w.heap[b]? = some o) (ho : mapO es o) {n : Int} {v : Value} (hg : mapG es n = some v) : (Instr.lookup t (.map (some b)) (.int .i64 n) false).run P w = .ok v w := by
  obtain ⟨en, cl, rfl, he⟩ := ho
  obtain ⟨k, e, h1, h2⟩ := map_under h
  obtain ⟨j, hj⟩ := run_find h2 (n := n) he w
  rw [hg] at hj
  simp [Instr.lookup, run_underlying h1, MapKept.run_getObj_map hb, run_key h2, hj]
theorem run_ins {t : TypeId} (h : KOk P t .map) {w : World} {b : Nat} {o : Obj} {es : List (Int × Value)} (hb : w.heap[b]? = some o) (ho : mapO es o) {n : Int} {v : Value} (hg : mapG es n = none) : ∃ o', mapO (es ++ [(n, v)]) o' ∧ (Instr.mapUpdate t (.map (some b)) (.int .i64 n) v).run P w = .ok () { w with heap := w.heap.setIfInBounds b o' } := by
  obtain ⟨en, cl, rfl, he⟩ := ho
  obtain ⟨k, e, h1, h2⟩ := map_under h
  obtain ⟨j, hj⟩ := run_find h2 (n := n) he w
  rw [hg] at hj
  refine ⟨.map (en.push { key := .int .i64 n, val := v, born := cl }) (cl + 1), ⟨_, _, rfl, by simp [he]⟩, ?_⟩
  simp [Instr.mapUpdate, run_underlying h1, MapKept.run_getObj_map hb, run_key h2, hj, MapKept.run_setObj_map _ hb]
theorem soft_spec {T : Tab} (hT : TabOk P T) {W : Option (Nat × List Nat)} {fr : Fr} {a : Act} {o : Oper} {K : AV → Prop} (hI : Inv cx β hp w) (hf : FR cx β fr a.tmps) (h : softP T W fr hp o.op K) :
    ∃ r, K r ∧ ∃ v, AC cx β r v ∧ ∀ w', Sm cx β hp W w w' → (execOp a.eval o).run P w' = .ok (.value v) w' := by
  obtain ⟨dst, op, ty, pos, after, guard⟩ := o
  cases op <;> first | exact h.elim | skip
  case move x =>
    obtain ⟨r, h1, h2⟩ := ev_spec hf h
    exact ⟨r, h1, _, h2, fun w' _ => rfl⟩
  case assign x =>
    obtain ⟨r, h1, h2⟩ := ev_spec hf h
    exact ⟨r, h1, _, h2, fun w' _ => rfl⟩
  case pick c x y =>
    obtain ⟨r, h1, h2⟩ := ev_spec hf h
    split at h1
    · rename_i t
      obtain ⟨_, hc⟩ := h2
      rw [br_ite] at h1
      cases t with
      | true =>
        obtain ⟨r, h3, h4⟩ := ev_spec hf h1
        exact ⟨r, h3, _, h4, fun w' _ => by simp [execOp, hc, asBool]⟩
      | false =>
        obtain ⟨r, h3, h4⟩ := ev_spec hf h1
        exact ⟨r, h3, _, h4, fun w' _ => by simp [execOp, hc, asBool]⟩
    · exact h1.elim
  case binOp op t x y yt =>
    obtain ⟨ra, h1, h2⟩ := ev_spec hf h
    obtain ⟨rb, h3, h4⟩ := ev_spec hf h1
    obtain ⟨r, h5, v, h6, h7⟩ := bin_spec hT h3 h2 h4 x y
    exact ⟨r, h5, v, h6, fun w' _ => vrun (h7 w')⟩
  case unOp op t x =>
    obtain ⟨ra, h1, h2⟩ := ev_spec hf h
    cases op <;> first | exact h1.elim | skip
    case neg =>
      dsimp only at h1
      split at h1
      · obtain ⟨_, he⟩ := h2
        obtain ⟨h3, h4⟩ := side_iff.1 h1
        exact ⟨_, h4, _, acI _ _, fun w' _ => vrun (by rw [he]; simp only [Op.unary, Op.intArith, rng_wrap h3]; rfl)⟩
      · exact h1.elim
    case not =>
      dsimp only at h1
      split at h1
      · obtain ⟨_, he⟩ := h2
        exact ⟨_, h1, _, acB _, fun w' _ => by simp [execOp, he, Op.unary]⟩
      · exact h1.elim
  case convert s d x =>
    obtain ⟨ra, h0, h2⟩ := ev_spec hf h
    obtain ⟨si, hs0, h1⟩ := tyK_iff.1 h0
    split at h1
    · obtain ⟨_, he⟩ := h2
      obtain ⟨ti, h3, h4⟩ := tyK_iff.1 h1
      split at h4
      · rename_i k hk
        obtain ⟨h5, h6⟩ := side_iff.1 h4
        have hu := (hT d ti h3).kind
        rw [hk] at hu
        have hu' : P.underlying d = some (.int k) := hu
        refine ⟨_, h6, _, acI _ _, fun w' _ => vrun ?_⟩
        rw [he]
        have hs : ∃ ds, P.underlying s = some ds := by cases hq : P.underlying s with | none => have := (hT s _ hs0).agg; rw [hq] at this; cases this | some ds => exact ⟨ds, rfl⟩
        obtain ⟨ds, hds⟩ := hs
        unfold convert
        rw [Sem.run_bind, run_underlying hds, Result.andThen_ok, Sem.run_bind, run_underlying hu', Result.andThen_ok]
        cases ds <;> simp [Conv.intToInt, rng_wrap h5]
      · exact h4.elim
    · exact h1.elim
  case extract x i =>
    obtain ⟨ra, h1, h2⟩ := ev_spec hf h
    split at h1
    · rename_i xs
      obtain ⟨vs, he, hc⟩ := h2
      obtain ⟨r, h3, v, h4, h5⟩ := sum_spec hc h1
      refine ⟨r, h3, v, h4, fun w' _ => vrun ?_⟩
      have h6 : vs[i]? = some v := by simpa using h5
      rw [he]
      simp [Instr.extract, h6]
    · exact h1.elim
  case lookup t x i ok =>
    cases ok with
    | true => exact h.elim
    | false =>
      obtain ⟨ra, h1, h2⟩ := ev_spec hf h
      obtain ⟨rb, h3, h4⟩ := ev_spec hf h1
      split at h3
      · rename_i k
        split at h3
        · rename_i n
          obtain ⟨ti, h5, h6⟩ := tyK_iff.1 h3
          have hk' := (hT t ti h5).kind
          split at h6
          · rename_i hk
            rw [hk] at hk'
            obtain ⟨hm, h7⟩ := side_iff.1 h6
            obtain ⟨hb0, h8, h9⟩ := getH_iff.1 h7
            split at h9
            · rename_i Φ
              obtain ⟨es, v, g1, g2, g3, g4⟩ := h9
              obtain ⟨_, b, hb, he⟩ := h2
              obtain ⟨_, hi⟩ := h4
              have ho := hI.ent k _ _ h8 hb
              obtain ⟨_, ob, hob, hΦ⟩ := ho
              refine ⟨_, g4, v, ⟨g3, rfl⟩, fun w' hs => vrun ?_⟩
              have hw := may_same hm (show ownB hp β k = some b by rw [ownB_of h8 hb]; rfl) hs
              rw [he, hi]
              exact run_look hk' (hw.trans hob) (g1 _ hΦ) g2
            · exact h9.elim
          · exact h6.elim
        · exact h3.elim
      · exact h3.elim
  case nilCheck x =>
    obtain ⟨ra, h1, h2⟩ := ev_spec hf h
    split at h1
    · have h3 := h2.2
      obtain ⟨n, _, he⟩ := h3
      exact ⟨_, h1, _, h2, fun w' _ => by simp [execOp, he]⟩
    · exact h1.elim
  case makeInterface t x =>
    obtain ⟨ra, h0, h2⟩ := ev_spec hf h
    obtain ⟨ti, ht, h1⟩ := tyK_iff.1 h0
    have hti := (hT t ti ht).kind
    split at h1
    · rename_i k
      split at h1
      · rename_i e hk
        rw [hk] at hti
        have hu : P.underlying t = some (.pointer e) := hti
        obtain ⟨_, n, hn, he⟩ := h2
        exact ⟨_, h1, _, ⟨rfl, n, hn, rfl⟩, fun w' _ => vrun (by rw [he]; simp [Instr.makeInterface, run_underlying hu])⟩
      · exact h1.elim
    · rename_i cs
      split at h1
      · rename_i fs hk
        obtain ⟨vs, he, hc⟩ := h2
        obtain ⟨us, h3, h4⟩ := vals_spec (cx := cx) (β := β) h1
        have hvs : vs = us.toArray := Array.toList_inj.1 (by rw [h4 _ hc])
        have hk' := hti
        rw [hk] at hk'
        obtain ⟨g', hu⟩ := struct_under hk'
        exact ⟨_, h3, _, ⟨rfl, rfl⟩, fun w' _ => vrun (by rw [he, hvs]; simp [Instr.makeInterface, run_underlying hu])⟩
      · exact h1.elim
    · exact h1.elim
  case typeAssert x xt t ok =>
    cases ok
    case true => exact h.elim
    obtain ⟨ra, h0, h2⟩ := ev_spec hf h
    obtain ⟨ti, ht, h1⟩ := tyK_iff.1 h0
    have hti := (hT t ti ht).kind
    split at h1
    · rename_i t' us
      split at h1
      · rename_i fs hk
        obtain ⟨h3, h4⟩ := side_iff.1 h1
        obtain ⟨h5, h6⟩ := side_iff.1 h4
        have e : t' = t := Nat.eq_of_beq_eq_true h3
        subst e
        rw [hk] at hti
        obtain ⟨g', hu⟩ := struct_under hti
        obtain ⟨_, he⟩ := h2
        refine ⟨_, h6, .agg us, ⟨us, rfl, LCs.consts fun v hv => List.all_eq_true.1 h5 v hv⟩, fun w' _ => vrun ?_⟩
        rw [he]
        simp [Instr.typeAssert, run_underlying hu]
      · exact h1.elim
    · exact h1.elim
  case build t parts =>
    obtain ⟨ti, h1, h2⟩ := tyK_iff.1 h
    have hti := hT t ti h1
    split at h2
    · rename_i fs hk
      have hk' := hti.kind
      rw [hk] at hk'
      obtain ⟨g, hg, hfl⟩ := struct_row hk'
      obtain ⟨z, hz, hrz⟩ := hti.run_zero
      have hz0 : LCs cx β ti.zl z.cells.toList := by rw [hz]; exact hti.zeros
      obtain ⟨cs', h3, us', h4, h5⟩ := fill_spec hf parts.toList _ z.cells _ hz0 h2
      refine ⟨_, h3, .agg us', ⟨us', rfl, h4⟩, fun w' _ => vrun ?_⟩
      have hpl := run_places (P := P) g.toList fs #[] hfl w'
      unfold Instr.build
      rw [Sem.run_bind, hrz, Result.andThen_ok, Sem.run_bind, run_underlying hg, Result.andThen_ok]
      dsimp only
      rw [Sem.run_bind, Array.mapM_eq_foldlM, ← Array.foldlM_toList, hpl, Result.andThen_ok]
      simp only [Array.empty_append, Array.toList_map, h5]
      rfl
    · rename_i m e esz eg hk
      have hk' := hti.kind
      rw [hk] at hk'
      obtain ⟨hu, hes, _⟩ := hk'
      obtain ⟨z, hz, hrz⟩ := hti.run_zero
      have hz0 : LCs cx β ti.zl z.cells.toList := by rw [hz]; exact hti.zeros
      obtain ⟨cs', h3, us', h4, h5⟩ := fillA_spec hf parts.toList _ z.cells _ hz0 h2
      refine ⟨_, h3, .agg us', ⟨us', rfl, h4⟩, fun w' _ => vrun ?_⟩
      unfold Instr.build
      rw [Sem.run_bind, hrz, Result.andThen_ok, Sem.run_bind, run_underlying hu, Result.andThen_ok]
      dsimp only
      rw [Sem.run_bind, run_sz hes, Result.andThen_ok]
      simp only [Array.toList_map, h5]
      rfl
    · exact h2.elim
  case field t x f =>
    obtain ⟨ra, h1, h2⟩ := ev_spec hf h
    split at h1
    · obtain ⟨ti, h3, h4⟩ := tyK_iff.1 h1
      split at h4
      · rename_i fs hk
        have hk' := (hT t ti h3).kind
        rw [hk] at hk'
        obtain ⟨o, s, g, h5, h6⟩ := fldK_iff.1 h4
        obtain ⟨fl, fd, e1, e2, e3, e4, e5, _⟩ := struct_field hk' h5
        obtain ⟨us, he, hc⟩ := h2
        obtain ⟨r, h7, v, h8, h9⟩ := cut_part e5 e4 hc h6
        refine ⟨r, h7, v, h8, fun w' _ => vrun ?_⟩
        rw [he]
        unfold Instr.field
        rw [Sem.run_bind, run_underlying e1, Result.andThen_ok]
        simp [e2, e3, asAgg, h9]
      · exact h4.elim
    · exact h1.elim
  case fieldAddr t x f =>
    obtain ⟨ra, h1, h2⟩ := ev_spec hf h
    obtain ⟨ti, h3, h4⟩ := tyK_iff.1 h1
    split at h4
    · rename_i fs hk
      have hk' := (hT t ti h3).kind
      rw [hk] at hk'
      obtain ⟨o, s, g, h5, h6⟩ := fldK_iff.1 h4
      split at h6
      · obtain ⟨_, n, hn, he⟩ := h2
        exact ⟨_, h6, _, ⟨rfl, n, hn, rfl⟩, fun w' _ => vrun (by rw [he]; exact run_field hk' h5 _ _ w')⟩
      · rename_i k ver sz i off
        obtain ⟨E, l, hr, h7⟩ := rowK_spec h6
        obtain ⟨v1, r2, r3, r4⟩ := row_own hI hr
        obtain ⟨g1, n1, c1, hv, he⟩ := e_val (cx := cx) h2 r2
        exact ⟨_, h7, _, ⟨rfl, v1, ver, r2, Nat.le_refl _, fun _ => ⟨g1, n1, c1, hv, rfl⟩⟩, fun w' _ => vrun (by rw [he]; have := run_field hk' h5 g1 (i * sz + off) w'; simpa [Nat.add_assoc] using this)⟩
      · rename_i l i off
        obtain ⟨_, v1, g1, o1, n, c, hz, hv, he⟩ := h2
        exact ⟨_, h6, _, ⟨rfl, v1, g1, o1, n, c, hz, hv, rfl⟩, fun w' _ => vrun (by rw [he]; have := run_field hk' h5 g1 (o1 + (i * l.sz + off)) w'; simpa [Nat.add_assoc] using this)⟩
      · exact h6.elim
    · exact h4.elim
  case slice t x lo hi mx =>
    cases mx with
    | some m => exact h.elim
    | none =>
      obtain ⟨ra, h1, h2⟩ := ev_spec hf h
      obtain ⟨ti, h3, h4⟩ := tyK_iff.1 h1
      split at h4
      · rename_i e esz ek hk
        have hk' := (hT t ti h3).kind
        rw [hk] at hk'
        obtain ⟨k1, k2, k3, k4⟩ := hk'
        have hs : (P.info? e).map (·.size) = some esz := by
          obtain ⟨f, hf1, e1⟩ := Option.map_eq_some_iff.1 k2
          simp only [Prod.mk.injEq] at e1
          rw [hf1, Option.map_some, e1.2]
        obtain ⟨r, h5, v, h6, h7⟩ := cut_spec (P := P) hI hf k1 hs h2 h4
        exact ⟨r, h5, v, h6, fun w' _ => vrun (h7 w')⟩
      · exact h4.elim
  case indexAddr t x i =>
    obtain ⟨ra, h1, h2⟩ := ev_spec hf h
    obtain ⟨rb, h3, h4⟩ := ev_spec hf h1
    split at h3
    · rename_i k0 n
      obtain ⟨_, hi⟩ := h4
      obtain ⟨ti, h5, h6⟩ := tyK_iff.1 h3
      have hk' := (hT t ti h5).kind
      split at h6
      · rename_i e esz ek hk
        rw [hk] at hk'
        obtain ⟨k1, k2, k3, k4⟩ := hk'
        have hs : (P.info? e).map (·.size) = some esz := by
          obtain ⟨f, hf1, e1⟩ := Option.map_eq_some_iff.1 k2
          simp only [Prod.mk.injEq] at e1
          rw [hf1, Option.map_some, e1.2]
        obtain ⟨m, h7, ad, c, he⟩ := lenOf_spec hI h2 h6
        obtain ⟨⟨n0, n1⟩, h8⟩ := side_iff.1 h7
        clear h6 h7 h3
        split at h8
        · rename_i l
          obtain ⟨hb, h9⟩ := side_iff.1 h8
          have hsz : esz = l.sz := Nat.eq_of_beq_eq_true hb
          have hz : FZ cx (a.eval x) l := h2.2
          rw [he] at hz
          have hm : m = l.len := slice_len_eq hz.1
          have had : ∃ g o, ad = some ⟨g, o, none⟩ := by
            rcases hz.1.2 with ⟨e0, _⟩ | ⟨g', off', cap', cur, T', e0, _⟩
            · omega
            · simp only [Value.slice.injEq] at e0; exact ⟨g', off', e0.1⟩
          obtain ⟨g, o, rfl⟩ := had
          refine ⟨_, h9, _, ⟨rfl, _, g, o, m, c, hz, rfl, rfl⟩, fun w' _ => vrun ?_⟩
          rw [he, hi, run_index k1 hs n0 n1, addr_add, hsz]
          rfl
        · rename_i u l
          obtain ⟨hb, h9⟩ := side_iff.1 h8
          have hsz : esz = l.sz := Nat.eq_of_beq_eq_true hb
          have hz : FZ cx (a.eval x) l := h2.2.2
          rw [he] at hz
          have hm : m = l.len := slice_len_eq hz.1
          have had : ∃ g o, ad = some ⟨g, o, none⟩ := by
            rcases hz.1.2 with ⟨e0, _⟩ | ⟨g', off', cap', cur, T', e0, _⟩
            · omega
            · simp only [Value.slice.injEq] at e0; exact ⟨g', off', e0.1⟩
          obtain ⟨g, o, rfl⟩ := had
          refine ⟨_, h9, _, ⟨rfl, _, g, o, m, c, hz, rfl, rfl⟩, fun w' _ => vrun ?_⟩
          rw [he, hi, run_index k1 hs n0 n1, addr_add, hsz]
          rfl
        · rename_i k ver
          obtain ⟨E, l, hr, h9⟩ := rowK_spec h8
          obtain ⟨hb, h10⟩ := side_iff.1 h9
          obtain ⟨v1, r2, r3, r4⟩ := row_own hI hr
          have hv := s_val (cx := cx) h2 r2
          rw [he] at hv
          subst hv
          have hm : m = l.len := slice_len_eq (sl_of_owns r3)
          have had : ∃ g, ad = some ⟨g, 0, none⟩ := by
            rcases r3.2 with ⟨e0, _⟩ | ⟨g', cap', cur, e0, _⟩
            · simp only [Value.slice.injEq] at e0; omega
            · simp only [Value.slice.injEq] at e0; exact ⟨g', e0.1⟩
          obtain ⟨g, rfl⟩ := had
          refine ⟨_, h10, .pointer (some ⟨g, n.toNat * esz + 0, none⟩), ⟨rfl, _, _, r2, Nat.le_refl _, fun _ => ⟨g, m, c, rfl, rfl⟩⟩, fun w' _ => vrun ?_⟩
          rw [he, hi, run_index k1 hs n0 n1, addr_add]
          simp
        · rename_i k ver sz i0 n2
          obtain ⟨E, l, hr, h9⟩ := rowK_spec h8
          obtain ⟨hb, h10⟩ := side_iff.1 h9
          have hsz : esz = sz := Nat.eq_of_beq_eq_true hb
          subst hsz
          obtain ⟨v1, r2, r3, r4⟩ := row_own hI hr
          have hP := w_val (cx := cx) h2 r2
          rw [he] at hP
          obtain ⟨a', c', e0, hn', hpos⟩ := hP
          simp only [Value.slice.injEq] at e0
          obtain ⟨rfl, rfl, rfl⟩ := e0
          obtain ⟨g, n3, c3, hv1, rfl, _⟩ := hpos (by omega)
          refine ⟨_, h10, .pointer (some ⟨g, (i0 + n.toNat) * esz + 0, none⟩), ⟨rfl, _, _, r2, Nat.le_refl _, fun _ => ⟨g, n3, c3, hv1, rfl⟩⟩, fun w' _ => vrun ?_⟩
          rw [he, hi, run_index k1 hs n0 n1, addr_add, ← Nat.add_mul]
          simp
        · exact h8.elim
      · rename_i m e esz eagg hk
        rw [hk] at hk'
        obtain ⟨k1, k2, k3⟩ := hk'
        obtain ⟨⟨n0, n1⟩, h8⟩ := side_iff.1 h6
        split at h8
        · obtain ⟨_, n2, hn, he⟩ := h2
          refine ⟨_, h8, _, ⟨rfl, n2, hn, rfl⟩, fun w' _ => vrun ?_⟩
          rw [he, hi]
          simp [Instr.indexAt, run_underlying k1, asIntOf, Instr.sureAddr, n0, n1, run_sz k2, addr_add]
        · exact h8.elim
      · exact h6.elim
    · exact h3.elim
  case index t x i =>
    obtain ⟨ra, h1, h2⟩ := ev_spec hf h
    obtain ⟨rb, h3, h4⟩ := ev_spec hf h1
    split at h3
    · rename_i k0 n
      obtain ⟨_, hi⟩ := h4
      obtain ⟨ti, h5, h6⟩ := tyK_iff.1 h3
      have hk' := (hT t ti h5).kind
      split at h6
      · rename_i m e esz eagg hk
        rw [hk] at hk'
        obtain ⟨k1, k2, k3⟩ := hk'
        obtain ⟨⟨n0, n1⟩, h8⟩ := side_iff.1 h6
        split at h8
        · obtain ⟨us, he, hc⟩ := h2
          obtain ⟨r, h9, v, h10, h11⟩ := cut_part k3 k2 hc h8
          refine ⟨r, h9, v, h10, fun w' _ => vrun ?_⟩
          rw [he, hi]
          unfold Instr.index
          simp [asIntOf, run_underlying k1, n0, n1, run_sz k2, h11]
        · exact h8.elim
      · exact h6.elim
    · exact h3.elim
  case load t x =>
    obtain ⟨ra, h1, h2⟩ := ev_spec hf h
    obtain ⟨ti, h3, h4⟩ := tyK_iff.1 h1
    have hti := hT t ti h3
    split at h4
    · rename_i k off
      obtain ⟨hm, h5⟩ := side_iff.1 h4
      obtain ⟨x1, h6, h7⟩ := getH_iff.1 h5
      split at h7
      · rename_i cs T1
        obtain ⟨_, n, hn, he⟩ := h2
        have ho := hI.ent k _ _ h6 hn
        obtain ⟨_, us, hb, hc⟩ := ho
        obtain ⟨r, h8, v, h9, h10⟩ := cut_load hti hb hc h7
        refine ⟨r, h8, v, h9, fun w' hs => vrun ?_⟩
        rw [he]
        have hw := may_same hm (show ownB hp β k = some n by rw [ownB_of h6 hn]; rfl) hs
        simpa [Instr.loadAt, Instr.sureAddr] using h10 w' hw
      · exact h7.elim
    · rename_i k ver sz i off
      obtain ⟨hm, h5⟩ := side_iff.1 h4
      obtain ⟨E, l, h6, h7⟩ := rowK_spec h5
      obtain ⟨hbz, h7'⟩ := side_iff.1 h7
      have hsz : sz = l.sz := Nat.eq_of_beq_eq_true hbz
      obtain ⟨hlt, h8⟩ := side_iff.1 h7'
      obtain ⟨v1, r2, r3, r4⟩ := row_own hI h6
      obtain ⟨g1, n1, c1, hv, he⟩ := e_val (cx := cx) h2 r2
      subst hv
      have hn : n1 = l.len := slice_len_eq (sl_of_owns r3)
      subst hn
      obtain ⟨r, h9, v, h10, h11⟩ := el_load (w := w) hti (owns_cells r3) hlt h8
      refine ⟨r, h9, v, h10, fun w' hs => vrun ?_⟩
      have hw := may_same hm (show ownB hp β k = some g1 by rw [ownB_of h6 r2]; rfl) hs
      rw [he, hsz]
      have := h11 w' hw
      rw [Nat.zero_add] at this
      simpa [Instr.loadAt, Instr.sureAddr] using this
    · rename_i l i off
      obtain ⟨hlt, h8⟩ := side_iff.1 h4
      obtain ⟨_, v1, g1, o1, n, c, hz, hv, he⟩ := h2
      subst hv
      have hn : n = l.len := slice_len_eq hz.1
      have hcell := Sl.cells (hn ▸ hz.sl hI) (by omega)
      simp only [addr_add] at hcell
      obtain ⟨r, h9, v, h10, h11⟩ := el_load (w := w) hti hcell hlt h8
      refine ⟨r, h9, v, h10, fun w' hs => vrun ?_⟩
      have h0 := hz.1
      have hb : g1 < cx.w0.heap.size := by
        rcases hz.1.2 with ⟨e0, _⟩ | ⟨g', off', cap', cur, T', e0, _, e1, _⟩
        · omega
        · simp only [Value.slice.injEq, Option.some.injEq, Addr.mk.injEq] at e0
          obtain ⟨⟨rfl, _⟩, _⟩ := e0
          exact (Array.getElem?_eq_some_iff.1 e1).1
      have hw := fz_same (b := g1) hb (hz.2.2 (by omega) g1 rfl) hs
      rw [he]
      simpa [Instr.loadAt, Instr.sureAddr] using h11 w' hw
    · exact h4.elim
  case call c =>
    obtain ⟨callee, args, ats⟩ := c
    cases callee <;> first | exact h.elim | skip
    rename_i bb
    cases bb <;> first | exact h.elim | skip
    · obtain ⟨rs, h1, h2⟩ := evs_spec hf h
      split at h1
      · rename_i x
        split at h1
        · rename_i t hat
          obtain ⟨ti, h3, h4⟩ := tyK_iff.1 h1
          have hk' := (hT t ti h3).kind
          have hargs : ∃ y, args.toList.map a.eval = [y] ∧ AC cx β x y := by
            cases hl : args.toList.map a.eval with
            | nil => rw [hl] at h2; exact h2.elim
            | cons y ys =>
              rw [hl] at h2
              cases ys with
              | nil => exact ⟨y, rfl, h2.1⟩
              | cons _ _ => exact h2.2.elim
          obtain ⟨y, hy, hxy⟩ := hargs
          have hy' : args.map a.eval = #[y] := by
            apply Array.toList_inj.1
            simpa using hy
          have hat' : ats = #[t] := Array.toList_inj.1 hat
          have fin : ∀ (n : Nat), (∀ w, (Builtin.len_ #[t] ty #[y]).run P w = .ok (.int .i64 n) w) → K (I .i64 n) → ∃ r, K r ∧ ∃ v, AC cx β r v ∧ ∀ w', Sm cx β hp W w w' → (execOp a.eval { dst := dst, op := .call { callee := .builtin .len, args := args, argTypes := ats }, type := ty, pos := pos, after := after, guard := guard }).run P w' = .ok (.value v) w' := by
            intro n hrun hK
            refine ⟨_, hK, _, acI _ _, fun w' _ => ?_⟩
            simp [execOp, resolve, hy', invoke, builtin, hat', hrun]
          split at h4
          · rename_i e esz ek hk
            rw [hk] at hk'
            obtain ⟨k1, _⟩ := hk'
            obtain ⟨n, h5, ad, c, rfl⟩ := lenOf_spec hI hxy h4
            exact fin n (fun w => by simp [Builtin.len_, run_underlying k1, goInt]) h5
          · rename_i e hk
            rw [hk] at hk'
            have k1 : P.underlying t = some (.slice e) := hk'
            obtain ⟨n, h5, ad, c, rfl⟩ := lenOf_spec hI hxy h4
            exact fin n (fun w => by simp [Builtin.len_, run_underlying k1, goInt]) h5
          · rename_i hk
            rw [hk] at hk'
            have k1 : P.underlying t = some .string := hk'
            split at h4
            · obtain ⟨_, rfl⟩ := hxy
              exact fin _ (fun w => by simp [Builtin.len_, run_underlying k1, goInt]) h4
            · exact h4.elim
          · exact h4.elim
        · exact h1.elim
      · exact h1.elim
    · obtain ⟨rs, h1, h2⟩ := evs_spec hf h
      split at h1
      · rename_i k x k' y
        have hargs : args.toList.map a.eval = [.int k x, .int k' y] := by
          cases hl : args.toList.map a.eval with
          | nil => rw [hl] at h2; exact h2.elim
          | cons u us =>
            rw [hl] at h2
            cases us with
            | nil => exact h2.2.elim
            | cons v vs =>
              obtain ⟨⟨_, e1⟩, ⟨_, e2⟩, h3⟩ := h2
              cases vs with
              | nil => rw [e1, e2]
              | cons _ _ => exact h3.elim
        have hy' : args.map a.eval = #[.int k x, .int k' y] := by
          apply Array.toList_inj.1
          simpa using hargs
        refine ⟨_, h1, _, acI _ _, fun w' _ => ?_⟩
        simp [execOp, resolve, hy', invoke, builtin, Builtin.max_, Builtin.max2, maxI]
      · exact h1.elim
    · obtain ⟨rs, h1, h2⟩ := evs_spec hf h
      split at h1
      · rename_i k x k' y
        have hargs : args.toList.map a.eval = [.int k x, .int k' y] := by
          cases hl : args.toList.map a.eval with
          | nil => rw [hl] at h2; exact h2.elim
          | cons u us =>
            rw [hl] at h2
            cases us with
            | nil => exact h2.2.elim
            | cons v vs =>
              obtain ⟨⟨_, e1⟩, ⟨_, e2⟩, h3⟩ := h2
              cases vs with
              | nil => rw [e1, e2]
              | cons _ _ => exact h3.elim
        have hy' : args.map a.eval = #[.int k x, .int k' y] := by
          apply Array.toList_inj.1
          simpa using hargs
        refine ⟨_, h1, _, acI _ _, fun w' _ => ?_⟩
        simp [execOp, resolve, hy', invoke, builtin, Builtin.min_, Builtin.min2, minI]
      · exact h1.elim

end
end Ab
end Go.Proofs.YtkhggobpanfkfaaDoor

/-
  The operations that make or write memory, and calls by contract. Plain lemmas; the conditions are the types' rows (TIok) and the contracts (CSok).
-/
namespace Go.Proofs.YtkhggobpanfkfaaDoor
open Go.RowKit
namespace Ab

/-- What an operation leaves. -/
structure Out (cx : Cx) (β : List En) (hp : Hp) (w : World) (S : Nat → Prop) (β' : List En) (hp' : Hp) (w' : World) : Prop where
  inv : Inv cx β' hp' w'
  ext : Ext β β'
  om : ∀ k b, ownB hp' β' k = some b → ownB hp β k = some b ∨ w.heap.size ≤ b
  size : w.heap.size ≤ w'.heap.size
  len : hp.length ≤ hp'.length
  own : ∀ k, k < hp.length → ¬ S k → ownB hp' β' k = ownB hp β k
  tch : ∀ b, b < w.heap.size → (∀ k, S k → ownB hp β k ≠ some b) → w'.heap[b]? = w.heap[b]?

/-- Which blocks may be written in a region that draws. -/
def SW : Option (Nat × List Nat) → Nat → Prop
  | none, _ => True
  | some (n, Wl), k => k ∈ Wl ∨ n ≤ k
theorem mayPut_iff {W : Option (Nat × List Nat)} {k : Nat} : mayPut W k = true ↔ SW W k := by
  cases W with
  | none => simp [mayPut, SW]
  | some W => obtain ⟨n, Wl⟩ := W; simp [mayPut, SW, memN_iff]

section
variable {P : Program} {cx : Cx} {β : List En} {hp : Hp} {w : World} {S : Nat → Prop}

theorem Out.refl (hI : Inv cx β hp w) : Out cx β hp w S β hp w := ⟨hI, Ext.refl _, fun _ _ h => .inl h, Nat.le_refl _, Nat.le_refl _, fun _ _ _ => rfl, fun _ _ _ => rfl⟩
theorem Out.stay (hI : Inv cx β hp w) {w' : World} (hb : Below w.heap.size w w') : Out cx β hp w S β hp w' :=
  ⟨hI.stay hb, Ext.refl _, fun _ _ h => .inl h, hb.size, Nat.le_refl _, fun _ _ _ => rfl, fun b h _ => hb.block b h⟩
theorem Out.mono {S' : Nat → Prop} {β' : List En} {hp' : Hp} {w' : World} (h : Out cx β hp w S β' hp' w') (hs : ∀ k, S k → S' k) : Out cx β hp w S' β' hp' w' :=
  ⟨h.inv, h.ext, h.om, h.size, h.len, fun k hk hn => h.own k hk fun e => hn (hs k e), fun b hb hn => h.tch b hb fun k hk => hn k (hs k hk)⟩

theorem ownB_none {k : Nat} (h : hp[k]? = none) : ownB hp β k = none := by unfold ownB; rw [h]
theorem ownB_d {k : Nat} (h : hp[k]? = some .d) : ownB hp β k = none := by unfold ownB; rw [h]; cases β[k]? <;> rfl

/-- One entry is written, or comes anew. -/
theorem Out.upd (hI : Inv cx β hp w) {k0 : Nat} {h' : HB} {e' : En} {hp' : Hp} {β' : List En} {w' : World} (hS : S k0) (ht : Tch (fun b => ownB hp β k0 = some b) w w')
    (hk : ∀ k, k ≠ k0 → hp'[k]? = hp[k]? ∧ β'[k]? = β[k]?) (hh : hp'[k0]? = some h') (he : β'[k0]? = some e') (hlen : β'.length = hp'.length) (hle : hp.length ≤ hp'.length) (hx : Ext β β') (hok : HOk cx β' w' h' e')
    (hown : ∀ b, ownE h' e' = some b → ownB hp β k0 = some b ∨ w.heap.size ≤ b) : Out cx β hp w S β' hp' w' := by
  have same : ∀ k, k ≠ k0 → ownB hp' β' k = ownB hp β k := fun k h => by unfold ownB; rw [(hk k h).1, (hk k h).2]
  refine ⟨hI.upd ht hk hh he hlen hx hok hown, hx, fun k b hb => ?_, ht.size, hle, fun k _ hn => same k fun e => hn (e ▸ hS), fun b hb hn => ht.block b hb (hn k0 hS)⟩
  by_cases h : k = k0
  · subst h
    rw [ownB_of hh he] at hb
    exact hown b hb
  · rw [same k h] at hb
    exact .inl hb

/-- A block or a list comes anew. -/
theorem new_spec {rsv : Option Nat} {x : HB} {K : Nat → Hp → Prop} (hI : Inv cx β hp w) (h : newH rsv hp x K) (e : En) (hS : ∀ k, (rsv = some k ∨ hp.length ≤ k) → S k) {w' : World} (hb : Below w.heap.size w w')
    (hown : ∀ b, ownE x e = some b → w.heap.size ≤ b) (hok : ∀ β', Ext β β' → HOk cx β' w' x e) : ∃ k hp' β', K k hp' ∧ β'[k]? = some e ∧ Out cx β hp w S β' hp' w' := by
  cases rsv with
  | none =>
    have h1 := endH_iff.1 h
    have hx : Ext β (β ++ [e]) := by
      intro k e0 he
      have hlt : k < β.length := (List.getElem?_eq_some_iff.1 he).1
      have hsame : (β ++ [e])[k]? = some e0 := by rw [List.getElem?_append_left hlt]; exact he
      cases e0 with
      | b n => exact hsame
      | r v ver => exact ⟨v, ver, hsame, Nat.le_refl _, fun _ => rfl⟩
      | x => trivial
    refine ⟨_, _, β ++ [e], h1, by rw [Nat.zero_add, ← hI.len]; simp, ?_⟩
    refine Out.upd (k0 := hp.length) (h' := x) (e' := e) hI (hS _ (.inr (Nat.le_refl _))) (Tch.of_below hb) (fun k hk => ?_) (by simp) (by rw [← hI.len]; simp) (by simp [hI.len]) (by simp) hx (hok _ hx) (fun b hb => .inr (hown b hb))
    have hl := hI.len
    by_cases hlt : k < hp.length
    · exact ⟨List.getElem?_append_left hlt, List.getElem?_append_left (by omega)⟩
    · rw [List.getElem?_eq_none (by simp; omega), List.getElem?_eq_none (by omega), List.getElem?_eq_none (by simp; omega), List.getElem?_eq_none (by omega)]
      exact ⟨rfl, rfl⟩
  | some k =>
    obtain ⟨y, h1, h2⟩ := getH_iff.1 h
    split at h2
    · obtain ⟨h3, h4⟩ := setH_iff.1 h2
      have hl := hI.len
      have hkb : k < β.length := by omega
      have hx : Ext β (β.set k e) := by
        intro i e0 he
        by_cases hik : i = k
        · subst hik
          have ho := hI.ent i _ _ h1 he
          cases e0 <;> first | exact ho.elim | trivial
        · have hsame : (β.set k e)[i]? = some e0 := by rw [List.getElem?_set_ne (Ne.symm hik)]; exact he
          cases e0 with
          | b n => exact hsame
          | r v ver => exact ⟨v, ver, hsame, Nat.le_refl _, fun _ => rfl⟩
          | x => trivial
      refine ⟨k, _, β.set k e, h4, by simp [hkb], ?_⟩
      exact Out.upd (k0 := k) (h' := x) (e' := e) hI (hS _ (.inl rfl)) (Tch.of_below hb) (fun i hi => ⟨List.getElem?_set_ne (Ne.symm hi), List.getElem?_set_ne (Ne.symm hi)⟩) (by simp [h3]) (by simp [hkb]) (by simp [hl]) (by simp) hx (hok _ hx) (fun b hb => .inr (hown b hb))
    · exact h2.elim

theorem put_spec {fr : Fr} {d : Option Tmp} {r : AV} {K : Fr → Prop} {a : Act} {v : Value} (h : putF fr d r K) (hf : FR cx β fr a.tmps) (hr : AC cx β r v) : ∃ fr', K fr' ∧ FR cx β fr' (a.put d v).tmps ∧ (a.put d v).defers = a.defers := by
  cases d with
  | none => exact ⟨fr, h, hf, rfl⟩
  | some d =>
    obtain ⟨h1, h2⟩ := setF_iff.1 h
    refine ⟨_, h2, ⟨by simp [Act.put, hf.1], fun i x hi => ?_⟩, rfl⟩
    by_cases hid : i = d
    · subst hid
      rw [List.getElem?_set_self (by omega)] at hi
      obtain rfl := Option.some.inj hi
      have : i < a.tmps.size := by rw [← hf.1]; exact h1
      simpa [Act.put, Array.getD, this] using hr
    · rw [List.getElem?_set_ne (Ne.symm hid)] at hi
      have := hf.2 i x hi
      have e : (a.put (some d) v).tmps.getD i undef = a.tmps.getD i undef := by
        simp only [Act.put, Array.getD_eq_getD_getElem?, Array.getElem?_setIfInBounds_ne (Ne.symm hid)]
      rw [e]
      exact this

/-- What holds behind an operation. -/
def Post (cx : Cx) (β : List En) (hp : Hp) (w : World) (S : Nat → Prop) (a : Act) (K : Fr → Hp → Prop) : Act → World → Prop := fun a' w' => ∃ fr' hp' β', K fr' hp' ∧ FR cx β' fr' a'.tmps ∧ a'.defers = a.defers ∧ Out cx β hp w S β' hp' w'

theorem cells_spec {a : AV} {v : Value} {K : List LV → Prop} (h : cellsK a K) (ha : AC cx β a v) : ∃ vs, K vs ∧ LCs cx β vs v.cells.toList := by
  unfold cellsK at h
  split at h
  · refine ⟨_, h, ?_⟩
    have h5 : LC cx β _ v := ha
    have h6 : v.cells = #[v] := by
      have := h5.1
      cases hv : v <;> first | rfl | (rw [hv] at this; cases this)
    rw [h6]
    exact ⟨h5, trivial⟩
  · obtain ⟨us', e, h5⟩ := ha
    exact ⟨_, h, by rw [e]; exact h5⟩
  · exact h.elim

theorem parts_spec {fr : Fr} {a : Act} (hf : FR cx β fr a.tmps) {sz : Nat} : ∀ (i n : Nat) (parts : List (Nat × Operand)) (K : List LV → Prop), partsK fr sz i n parts K →
    ∃ cs, K cs ∧ ∃ us : List Value, LCs cx β cs us ∧ us.length = n * sz ∧ ∀ (m : Nat) (cells : Array Value), m = i + n → cells.size = m * sz → ∃ cells' : Array Value, Instr.fill (fun i => some (i * sz, sz)) cells (parts.map fun x => (x.1, a.eval x.2)) = some cells' ∧ cells'.toList = cells.toList.take (i * sz) ++ us
  | i, 0, [], K, h => ⟨[], h, [], trivial, by simp, fun m cells hm hc => ⟨cells, rfl, by simp; rw [List.take_of_length_le (by simp; rw [hc, hm]; simp)]⟩⟩
  | i, n + 1, (i', x) :: r, K, h => by
    obtain ⟨h1, h2⟩ := side_iff.1 h
    have hi : i = i' := Nat.eq_of_beq_eq_true h1
    subst hi
    obtain ⟨ra, h3, h4⟩ := ev_spec hf h2
    obtain ⟨vs, h5, h6⟩ := cells_spec h3 h4
    obtain ⟨h7, h8⟩ := lenK_iff.1 h5
    obtain ⟨cs, h9, us, h10, h11, h12⟩ := parts_spec hf (i + 1) n r _ h8
    have hover : ∀ (vs cs : List LV) (K : List LV → Prop), partsK.overJ vs cs K → K (vs ++ cs) := by
      intro vs
      induction vs with
      | nil => intro cs K h; exact h
      | cons v vs ih => intro cs K h; exact ih cs _ h
    have hl : (a.eval x).cells.size = sz := by rw [← h7, h6.length]; simp
    refine ⟨vs ++ cs, hover _ _ _ h9, (a.eval x).cells.toList ++ us, LCs.append h6 h10, by simp [hl, h11, Nat.succ_mul]; omega, fun m cells hm hc => ?_⟩
    have hle : (i + 1) * sz ≤ m * sz := Nat.mul_le_mul_right _ (by omega)
    rw [Nat.succ_mul] at hle
    have hset := fold_set (a.eval x).cells.toList cells (i * sz) 0 (by simp; omega)
    obtain ⟨cells', h13, h14⟩ := h12 m ((a.eval x).cells.zipIdx.foldl (fun cs (x : Value × Nat) => cs.setIfInBounds (i * sz + x.2) x.1) cells) (by omega) (by
      have := congrArg List.length hset
      rw [← Array.foldl_toList, Array.toList_zipIdx, ← Array.length_toList, this]
      simp
      omega)
    refine ⟨cells', ?_, ?_⟩
    · simp only [List.map_cons, Instr.fill]
      rw [if_neg (by simp; omega)]
      exact h13
    · rw [h14, ← Array.foldl_toList, Array.toList_zipIdx, hset]
      simp only [Nat.add_zero, Array.length_toList, hl]
      rw [List.take_append_of_le_length (by simp; rw [hl, Nat.succ_mul]; omega), List.take_of_length_le (by simp; rw [hl, Nat.succ_mul]; omega)]
      simp
  | _, 0, _ :: _, _, h => by simp [partsK] at h
  | _, _ + 1, [], _, h => by simp [partsK] at h

theorem toEL_spec {ek : EK} {cs : List LV} {us : List Value} {K : EL → Prop} (h : toELK ek cs K) (hc : LCs cx β cs us) : ∃ l, K l ∧ l.enc = us ∧ l.sz = ek.sz := by
  have go : ∀ (cs : List LV) (us : List Value) (K : EL → Prop), toELK.go cs K → LCs cx β cs us → ∃ l, K (.ints l) ∧ (EL.ints l).enc = us := by
    intro cs
    induction cs with
    | nil =>
      intro us K h hc
      cases us with
      | nil => exact ⟨[], h, rfl⟩
      | cons _ _ => exact hc.elim
    | cons c r ih =>
      intro us K h hc
      unfold toELK.go at h
      split at h
      · rename_i e; cases e
      · rename_i n r' e
        obtain ⟨rfl, rfl⟩ := List.cons.inj e
        cases us with
        | nil => exact hc.elim
        | cons u us =>
          obtain ⟨l, h1, h2⟩ := ih us _ h hc.2
          obtain ⟨⟨_, rfl⟩, _⟩ := hc
          exact ⟨n :: l, h1, by simp only [EL.enc, List.map_cons] at h2 ⊢; rw [h2]⟩
      · exact h.elim
  have go2 : ∀ (m : Nat) (cs : List LV) (us : List Value) (K : EL → Prop), cs.length ≤ m → toELK.go2 cs K → LCs cx β cs us → ∃ l, K (.gots l) ∧ (EL.gots l).enc = us := by
    intro m
    induction m with
    | zero =>
      intro cs us K hm h hc
      cases cs with
      | nil =>
        cases us with
        | nil => exact ⟨[], h, rfl⟩
        | cons _ _ => exact hc.elim
      | cons _ _ => simp at hm
    | succ m ih =>
      intro cs us K hm h hc
      unfold toELK.go2 at h
      split at h
      · cases us with
        | nil => exact ⟨[], h, rfl⟩
        | cons _ _ => exact hc.elim
      · rename_i n1 n2 r'
        cases us with
        | nil => exact hc.elim
        | cons u us => cases us with
          | nil => exact hc.2.elim
          | cons u2 us =>
            obtain ⟨l, h1, h2⟩ := ih r' us _ (by simp at hm; omega) h hc.2.2
            obtain ⟨⟨_, rfl⟩, ⟨_, rfl⟩, _⟩ := hc
            exact ⟨(n1, n2) :: l, h1, by simp only [EL.enc, List.flatMap_cons] at h2 ⊢; rw [h2]; rfl⟩
      · exact h.elim
  have go3 : ∀ (m : Nat) (cs : List LV) (us : List Value) (K : EL → Prop), cs.length ≤ m → toELK.go3 cs K → LCs cx β cs us → ∃ l, K (.k3 l) ∧ (EL.k3 l).enc = us := by
    intro m
    induction m with
    | zero =>
      intro cs us K hm h hc
      cases cs with
      | nil =>
        cases us with
        | nil => exact ⟨[], h, rfl⟩
        | cons _ _ => exact hc.elim
      | cons _ _ => simp at hm
    | succ m ih =>
      intro cs us K hm h hc
      unfold toELK.go3 at h
      split at h
      · cases us with
        | nil => exact ⟨[], h, rfl⟩
        | cons _ _ => exact hc.elim
      · rename_i n1 n2 n3 r'
        cases us with
        | nil => exact hc.elim
        | cons u us => cases us with
          | nil => exact hc.2.elim
          | cons u2 us => cases us with
            | nil => exact hc.2.2.elim
            | cons u3 us =>
              obtain ⟨l, h1, h2⟩ := ih r' us _ (by simp at hm; omega) h hc.2.2.2
              obtain ⟨⟨_, rfl⟩, ⟨_, rfl⟩, ⟨_, rfl⟩, _⟩ := hc
              exact ⟨(n1, n2, n3) :: l, h1, by simp only [EL.enc, List.flatMap_cons] at h2 ⊢; rw [h2]; rfl⟩
      · exact h.elim
  cases ek with
  | k3 => obtain ⟨l, h1, h2⟩ := go3 _ cs us K (Nat.le_refl _) h hc; exact ⟨_, h1, h2, rfl⟩
  | ints => obtain ⟨l, h1, h2⟩ := go cs us K h hc; exact ⟨_, h1, h2, rfl⟩
  | bytes =>
    cases cs with
    | nil =>
      cases us with
      | nil => exact ⟨_, h, rfl, rfl⟩
      | cons _ _ => exact hc.elim
    | cons _ _ => exact h.elim
  | gots => obtain ⟨l, h1, h2⟩ := go2 _ cs us K (Nat.le_refl _) h hc; exact ⟨_, h1, h2, rfl⟩

def ST : Option (List Nat) → Nat → Prop
  | none, _ => True
  | some l, k => k ∈ l
/-- A contract that holds. -/
structure CSok (P : Program) (f : FuncId) (c : CS) : Prop where
  fn : (P.funcs[f]?).map (fun fn => (fn.name == "runtime.NumGoroutine", fn.body.isNone)) = some (false, false)
  snd : ∀ as1 hp K, c.S as1 hp K → ∀ cx β (w : World) (vs : Array Value), Inv cx β hp w → (Gw cx.w0 ∧ Gm cx.M) → ACs cx β as1 vs.toList →
    Calls P f vs w fun e w' => ∃ v r hp' β', e = .returned v ∧ K r hp' ∧ AC cx β' r v ∧ Out cx β hp w (ST (c.tch as1)) β' hp' w'
def EnvOk (P : Program) (G : Env) : Prop := ∀ f c, (f, c) ∈ G → CSok P f c
/-- The contracts hold, and what they ask of the package variables is met, if there are any. -/
def EnvC (P : Program) (G : Env) (cx : Cx) : Prop := EnvOk P G ∧ (G = [] ∨ (Gw cx.w0 ∧ Gm cx.M))
theorem EnvC.gl {P : Program} {G : Env} {cx : Cx} (h : EnvC P G cx) {f : FuncId} {c : CS} (hc : (f, c) ∈ G) : Gw cx.w0 ∧ Gm cx.M := by
  rcases h.2 with h | h
  · rw [h] at hc
    cases hc
  · exact h

theorem run_callFunc {f : FuncId} (h : (P.funcs[f]?).map (fun fn => (fn.name == "runtime.NumGoroutine", fn.body.isNone)) = some (false, false)) (vs : Array Value) (w : World) : (callFunc f vs).run P w = .ok (.enter f vs) w := by
  obtain ⟨fn, hf, e⟩ := Option.map_eq_some_iff.1 h
  simp only [Prod.mk.injEq] at e
  obtain ⟨e1, e2⟩ := e
  unfold callFunc
  change Sem.run P (match P.funcs[f]? with | none => _ | some fn => _) w = _
  rw [hf]
  dsimp only
  rw [e1]
  simp only [Bool.false_eq_true, if_false]
  rw [e2]
  rfl

theorem allIn_spec {W : Option (Nat × List Nat)} : ∀ {l : List Nat}, allIn W l = true → ∀ k ∈ l, SW W k
  | [], _, k, hk => by cases hk
  | a :: l, h, k, hk => by
    simp only [allIn, Bool.and_eq_true] at h
    rcases List.mem_cons.1 hk with rfl | hk
    · exact mayPut_iff.1 h.1
    · exact allIn_spec h.2 k hk

theorem mayTch_spec {W : Option (Nat × List Nat)} {l : Option (List Nat)} (h : mayTch W l = true) (k : Nat) (hk : ST l k) : SW W k := by
  cases l with
  | some l => cases W <;> exact allIn_spec h k hk
  | none => cases W with
    | none => trivial
    | some W => cases h
theorem app_spec {l m : EL} {K : EL → Prop} (h : appEL l m K) : ∃ l', K l' ∧ l'.enc = l.enc ++ m.enc ∧ l'.len = l.len + m.len ∧ l'.sz = l.sz ∧ m.sz = l.sz := by
  cases l <;> cases m <;> first | exact h.elim | exact ⟨_, h, by simp [EL.enc], by simp [EL.len], rfl, rfl⟩

end
end Ab
end Go.Proofs.YtkhggobpanfkfaaDoor
