/-
  An abstract walk: a function's code is carried out over abstract values, blocks of the call's own and lists in memory; what is left is plain. Definitions alone; no condition.
-/
import Derived.Test.YtacjfkodndkaeaaData
namespace Go.Proofs.Ytacjfkodndkaeaa
open Go.RowKit
namespace Ab

/-- Lists vs0 they lie in memory: their elements are numbers, or pairs of numbers. -/
inductive EL where
  | ints (l : List Int)
  | gots (l : List (Int × Int))
  | bytes (l : List UInt8)
  | k3 (l : List (Int × Int × Int))

def EL.len : EL → Nat
  | .ints l => l.length
  | .gots l => l.length
  | .bytes l => l.length
  | .k3 l => l.length
def EL.sz : EL → Nat
  | .ints _ => 1
  | .gots _ => 2
  | .bytes _ => 1
  | .k3 _ => 3
def EL.enc : EL → List Value
  | .ints l => l.map (Value.int .i64)
  | .gots l => l.flatMap fun g => [.int .i64 g.1, .int .i64 g.2]
  | .bytes l => l.map fun b => Value.int .u8 b.toNat
  | .k3 l => l.flatMap fun g => [.int .i64 g.1, .int .i64 g.2.1, .int .i64 g.2.2]
def EL.take : EL → Nat → EL
  | .ints l, n => .ints (l.take n)
  | .gots l, n => .gots (l.take n)
  | .bytes l, n => .bytes (l.take n)
  | .k3 l, n => .k3 (l.take n)
def EL.drop : EL → Nat → EL
  | .ints l, n => .ints (l.drop n)
  | .gots l, n => .gots (l.drop n)
  | .bytes l, n => .bytes (l.drop n)
  | .k3 l, n => .k3 (l.drop n)
/-- Which kind of list. -/
inductive EK where
  | ints
  | gots
  | bytes
  | k3
def EK.nil : EK → EL
  | .ints => .ints []
  | .gots => .gots []
  | .bytes => .bytes []
  | .k3 => .k3 []

def EK.repl : EK → Nat → EL
  | .ints, n => .ints (List.replicate n 0)
  | .gots, n => .gots (List.replicate n (0, 0))
  | .bytes, n => .bytes (List.replicate n 0)
  | .k3, n => .k3 (List.replicate n (0, 0, 0))

/-- One cell. -/
inductive LV where
  | v (x : Value)
  /-- the address of a cell of a block of the call's own -/
  | p (k off : Nat)
  /-- the whole of a list of the call's own -/
  | s (k ver : Nat)
  /-- a part of a list of the call's own -/
  | w (k ver sz i n : Nat)
  /-- a list that came in -/
  | f (l : EL)
  /-- a list that came in, by its very value -/
  | fx (v : Value) (l : EL)
  /-- the address of a cell of an element of a list of the call's own -/
  | e (k ver sz i off : Nat)
  /-- the address of a cell of an element of a list that came in -/
  | g (l : EL) (i off : Nat)
  /-- a channel of the call's own (none); an interface that holds the address of a block of the call's own -/
  | o (T : Option TypeId) (k : Nat)
  | j

inductive AV where
  | l (x : LV)
  | a (cs : List LV)
  | t (xs : List (LV ⊕ List LV))
  | j

/-- A block of the call's own; a list of the call's own; nothing known. -/
inductive HB where
  | b (cs : List LV) (T : TypeId)
  | r (ver : Nat) (E : TypeId) (l : EL)
  | d
  /-- something else that lies in one block -/
  | x (Φ : Obj → Prop)

abbrev Fr := List AV
abbrev Hp := List HB

inductive TK where
  | leaf
  | bool
  | int (k : IntKind)
  | struct (fs : List (Nat × Nat × Bool))
  | arr (n : Nat) (e : TypeId) (esz : Nat) (eagg : Bool)
  | slice (e : TypeId) (esz : Nat) (ek : EK)
  | osl (e : TypeId)
  | str
  | ptr (e : TypeId)
  | chan

structure TI where
  sz : Nat
  agg : Bool
  zero : List Value
  zl : List LV
  bytes : Nat
  kind : TK
  /-- two of them are compared cell by cell: numbers of a kind, or bools -/
  eqs : Option (List (Option IntKind))
  /-- the methods of a pointer's type: name, function, is the pointer the receiver? -/
  ms : List (String × FuncId × Bool)

abbrev Tab := List (TypeId × TI)

def tyK : Tab → TypeId → (TI → Prop) → Prop
  | [], _, _ => False
  | (t', i) :: r, t, K => match Nat.beq t' t with
    | true => K i
    | false => tyK r t K

def getF : Fr → Nat → (AV → Prop) → Prop
  | [], _, _ => False
  | a :: _, 0, K => K a
  | _ :: r, n + 1, K => getF r n K
def setF : Fr → Nat → AV → (Fr → Prop) → Prop
  | [], _, _, _ => False
  | _ :: r, 0, x, K => K (x :: r)
  | a :: r, n + 1, x, K => setF r n x fun r' => K (a :: r')
def putF (fr : Fr) (d : Option Tmp) (x : AV) (K : Fr → Prop) : Prop := match d with
  | none => K fr
  | some d => setF fr d x K
def getH : Hp → Nat → (HB → Prop) → Prop
  | [], _, _ => False
  | a :: _, 0, K => K a
  | _ :: r, n + 1, K => getH r n K
def setH : Hp → Nat → HB → (Hp → Prop) → Prop
  | [], _, _, _ => False
  | _ :: r, 0, x, K => K (x :: r)
  | a :: r, n + 1, x, K => setH r n x fun r' => K (a :: r')
def endH : Hp → Nat → HB → (Nat → Hp → Prop) → Prop
  | [], k, x, K => K k [x]
  | a :: r, k, x, K => endH r (k + 1) x fun n r' => K n (a :: r')
def dropK : List LV → Nat → (List LV → Prop) → Prop
  | cs, 0, K => K cs
  | [], _ + 1, _ => False
  | _ :: cs, n + 1, K => dropK cs n K
def takeK : List LV → Nat → (List LV → Prop) → Prop
  | _, 0, K => K []
  | [], _ + 1, _ => False
  | c :: cs, n + 1, K => takeK cs n fun r => K (c :: r)
def overK : List LV → List LV → (List LV → Prop) → Prop
  | cs, [], K => K cs
  | [], _ :: _, _ => False
  | _ :: cs, v :: vs, K => overK cs vs fun r => K (v :: r)
def replK : List LV → Nat → List LV → (List LV → Prop) → Prop
  | cs, 0, vs, K => overK cs vs K
  | [], _ + 1, _, _ => False
  | c :: cs, n + 1, vs, K => replK cs n vs fun r => K (c :: r)
def cutK (cs : List LV) (off sz : Nat) (agg : Bool) (K : AV → Prop) : Prop :=
  dropK cs off fun r => takeK r sz fun q => match agg with
    | true => K (.a q)
    | false => match q with
      | [x] => K (.l x)
      | _ => False

/-- What is owed beside the way. -/
inductive Side (p q : Prop) : Prop where
  | mk (hp : p) (hq : q)
def lenK : List LV → Nat → Prop → Prop
  | [], 0, p => p
  | _ :: r, n + 1, p => lenK r n p
  | _, _, _ => False
/-- Either way. -/
inductive Br (t : Bool) (p q : Prop) : Prop where
  | mk (ht : t = true → p) (hf : t = false → q)
/-- A region is behind. -/
inductive End (p : Prop) : Prop where
  | mk (h : p)
/-- Either of two orders. -/
inductive Fork (p q : Prop) : Prop where
  | mk (hp : p) (hq : q)
theorem brT {p q : Prop} (h : p) : Br true p q := .mk (fun _ => h) (fun e => Bool.noConfusion e)
theorem brT' {t : Bool} {p q : Prop} (e : t = true) (h : p) : Br t p q := e ▸ brT h
theorem brF {p q : Prop} (h : q) : Br false p q := .mk (fun e => Bool.noConfusion e) (fun _ => h)
theorem brF' {t : Bool} {p q : Prop} (e : t = false) (h : q) : Br t p q := e ▸ brF h

def constK (v : Value) (K : AV → Prop) : Prop := match v with
  | .bool b => K (.l (.v (.bool b)))
  | .int k n => K (.l (.v (.int k n)))
  | .string s => K (.l (.v (.string s)))
  | .slice none 0 0 => K (.l (.v (.slice none 0 0)))
  | .pointer none => K (.l (.v (.pointer none)))
  | .nilIface => K (.l (.v .nilIface))
  | .nilFunc => K (.l (.v .nilFunc))
  | _ => False
def evK (fr : Fr) (x : Operand) (K : AV → Prop) : Prop := match x with
  | .tmp t => getF fr t K
  | .const v => constK v K
  | .func f => K (.l (.v (.func (.func f) #[] #[])))
  | .global g => K (.l (.v (.pointer (some ⟨g, 0, none⟩))))
def evsK (fr : Fr) : List Operand → (List AV → Prop) → Prop
  | [], K => K []
  | x :: r, K => evK fr x fun a => evsK fr r fun vs0 => K (a :: vs0)

def rng : IntKind → Int → Prop
  | .i64, n => -9223372036854775808 ≤ n ∧ n ≤ 9223372036854775807
  | .u8, n => 0 ≤ n ∧ n ≤ 255
  | _, _ => False
theorem rngI {n : Int} (h : -9223372036854775808 ≤ n ∧ n ≤ 9223372036854775807) : rng .i64 n := h
theorem rngB {n : Int} (h : 0 ≤ n ∧ n ≤ 255) : rng .u8 n := h
abbrev I (k : IntKind) (n : Int) : AV := .l (.v (.int k n))
abbrev B (b : Bool) : AV := .l (.v (.bool b))

def intK (op : BinOp) (k : IntKind) (x y : Int) (K : AV → Prop) : Prop := match op with
  | .add => Side (rng k (x + y)) <| K (I k (x + y))
  | .sub => Side (rng k (x - y)) <| K (I k (x - y))
  | .mul => Side (rng k (x * y)) <| K (I k (x * y))
  | .quo => Br (decide (x < 0)) (Side (0 < y ∧ rng k (0 - (0 - x) / y)) <| K (I k (0 - (0 - x) / y))) (Side (0 ≤ x ∧ 0 < y ∧ rng k (x / y)) <| K (I k (x / y)))
  | .rem => Side (0 ≤ x ∧ 0 < y) <| K (I k (x % y))
  | .and => K (I k (k.wrap (BitVec.ofInt k.bits x &&& BitVec.ofInt k.bits y).toNat))
  | .or => K (I k (k.wrap (BitVec.ofInt k.bits x ||| BitVec.ofInt k.bits y).toNat))
  | .xor => K (I k (k.wrap (BitVec.ofInt k.bits x ^^^ BitVec.ofInt k.bits y).toNat))
  | .andNot => K (I k (k.wrap (BitVec.ofInt k.bits x &&& ~~~(BitVec.ofInt k.bits y)).toNat))
  | .eql => K (B (decide (x = y)))
  | .neq => K (B (!decide (x = y)))
  | .lss => K (B (decide (x < y)))
  | .leq => K (B (decide (x ≤ y)))
  | .gtr => K (B (decide (y < x)))
  | .geq => K (B (decide (y ≤ x)))
  | _ => False
def shK (op : BinOp) (k : IntKind) (x y : Int) (K : AV → Prop) : Prop := match op with
  | .shl => Side (0 ≤ y) <| K (I k (k.wrap (x * 2 ^ (min y.toNat k.bits))))
  | .shr => Side (0 ≤ y) <| K (I k (x.fdiv (2 ^ (min y.toNat k.bits))))
  | _ => False
def isSh : BinOp → Bool
  | .shl | .shr => true
  | _ => false
/-- Are two rows of cells equal, cell by cell? -/
def eq1 (k : Option IntKind) (x y : LV) (K : Bool → Prop) : Prop := match k with
  | some _ => (match x with
    | .v (.int k1 a) => (match y with
      | .v (.int k2 b) => Side (k1 = k2) <| K (decide (a = b))
      | _ => False)
    | _ => False)
  | none => (match x with
    | .v (.bool a) => (match y with
      | .v (.bool b) => K (a == b)
      | _ => False)
    | _ => False)
def eqLs : List (Option IntKind) → List LV → List LV → (Bool → Prop) → Prop
  | [], [], [], K => K true
  | k :: ks, x :: xs, y :: ys, K => eq1 k x y fun b => eqLs ks xs ys fun c => K (b && c)
  | _, _, _, _ => False
def binK (T : Tab) (op : BinOp) (t : TypeId) (a b : AV) (K : AV → Prop) : Prop := match a with
  | .l (.v (.int k x)) => (match b with
    | .l (.v (.int k' y)) => (match isSh op with
      | true => shK op k x y K
      | false => Side (k = k') <| intK op k x y K)
    | _ => False)
  | .l (.v (.bool x)) => (match b with
    | .l (.v (.bool y)) => tyK T t fun ti => (match ti.kind with
      | .bool => (match op with
        | .eql => K (B (x == y))
        | .neq => K (B (!(x == y)))
        | _ => False)
      | _ => False)
    | _ => False)
  | .a xs => (match b with
    | .a ys => tyK T t fun ti => (match ti.eqs with
      | some ks => (match op with
        | .eql => eqLs ks xs ys fun c => K (B c)
        | .neq => eqLs ks xs ys fun c => K (B (!c))
        | _ => False)
      | none => False)
    | _ => False)
  | .l (.v (.string x)) => (match b with
    | .l (.v (.string y)) => (match op with
      | .eql => K (B (x.toList == y.toList))
      | .neq => K (B (!(x.toList == y.toList)))
      | _ => False)
    | _ => False)
  | .l (.v (.pointer p)) => (match b with
    | .l (.v (.pointer none)) => tyK T t fun ti => (match ti.kind with
      | .ptr _ => (match op with
        | .eql => K (B p.isNone)
        | .neq => K (B (!p.isNone))
        | _ => False)
      | _ => False)
    | _ => False)
  | .l (.p _ _) => (match b with
    | .l (.v (.pointer none)) => tyK T t fun ti => (match ti.kind with
      | .ptr _ => (match op with
        | .eql => K (B false)
        | .neq => K (B true)
        | _ => False)
      | _ => False)
    | _ => False)
  | _ => False

/-- The cells of an element, by address. -/
def elK (l : EL) (i off : Nat) (agg : Bool) (sz : Nat) (K : AV → Prop) : Prop := match l with
  | .ints l => (match agg with
    | true => False
    | false => (match off with
      | 0 => K (I .i64 (l.getD i 0))
      | _ => False))
  | .bytes l => (match agg with
    | true => False
    | false => (match off with
      | 0 => K (I .u8 ((l.getD i 0).toNat : Int))
      | _ => False))
  | .gots l => (match agg with
    | true => (match off with
      | 0 => (match sz with
        | 2 => K (.a [.v (.int .i64 (l.getD i (0, 0)).1), .v (.int .i64 (l.getD i (0, 0)).2)])
        | _ => False)
      | _ => False)
    | false => (match off with
      | 0 => K (I .i64 (l.getD i (0, 0)).1)
      | 1 => K (I .i64 (l.getD i (0, 0)).2)
      | _ => False))
  | .k3 l => (match agg with
    | true => (match off with
      | 0 => (match sz with
        | 3 => K (.a [.v (.int .i64 (l.getD i (0, 0, 0)).1), .v (.int .i64 (l.getD i (0, 0, 0)).2.1), .v (.int .i64 (l.getD i (0, 0, 0)).2.2)])
        | _ => False)
      | _ => False)
    | false => (match off with
      | 0 => K (I .i64 (l.getD i (0, 0, 0)).1)
      | 1 => K (I .i64 (l.getD i (0, 0, 0)).2.1)
      | 2 => K (I .i64 (l.getD i (0, 0, 0)).2.2)
      | _ => False))

/-- A list of the call's own, at this version. -/
def rowK (hp : Hp) (k ver : Nat) (K : TypeId → EL → Prop) : Prop := getH hp k fun h => match h with
  | .r ver' E l => (match Nat.beq ver ver' with
    | true => K E l
    | false => False)
  | _ => False

def memN : List Nat → Nat → Bool
  | [], _ => false
  | a :: r, k => match Nat.beq a k with
    | true => true
    | false => memN r k
/-- What a load may ask in a region that draws: blocks that were there before, not those that are written. -/
def mayAsk : Option (Nat × List Nat) → Nat → Bool
  | none, _ => true
  | some (n, W), k => Nat.blt k n && !memN W k
def mayPut : Option (Nat × List Nat) → Nat → Bool
  | none, _ => true
  | some (n, W), k => memN W k || Nat.ble n k

def fldK : List (Nat × Nat × Bool) → Nat → (Nat → Nat → Bool → Prop) → Prop
  | [], _, _ => False
  | (o, s, g) :: _, 0, K => K o s g
  | _ :: r, n + 1, K => fldK r n K

def sumK : List (LV ⊕ List LV) → Nat → (AV → Prop) → Prop
  | [], _, _ => False
  | .inl x :: _, 0, K => K (.l x)
  | .inr cs :: _, 0, K => K (.a cs)
  | _ :: r, n + 1, K => sumK r n K

def cellsK (a : AV) (K : List LV → Prop) : Prop := match a with
  | .l x => K [x]
  | .a cs => K cs
  | _ => False

/-- The parts of a literal. -/
def fillK (fr : Fr) (fs : List (Nat × Nat × Bool)) : List (Nat × Operand) → List LV → (List LV → Prop) → Prop
  | [], cs, K => K cs
  | (i, x) :: r, cs, K => fldK fs i fun off sz _ => evK fr x fun a => cellsK a fun vs => lenK vs sz (replK cs off vs fun cs' => fillK fr fs r cs' K)

def fillAK (fr : Fr) (esz : Nat) : List (Nat × Operand) → List LV → (List LV → Prop) → Prop
  | [], cs, K => K cs
  | (i, x) :: r, cs, K => evK fr x fun a => cellsK a fun vs => lenK vs esz (replK cs (i * esz) vs fun cs' => fillAK fr esz r cs' K)

/-- What a slice that is only read holds. -/
def readK (hp : Hp) (ek : EK) (a : AV) (K : EL → Prop) : Prop := match a with
  | .l (.f l) => K l
  | .l (.s k ver) => rowK hp k ver fun _ l => K l
  | .l (.w k ver sz i n) => rowK hp k ver fun _ l => Side (Nat.beq sz l.sz = true) <| Side (i + n ≤ l.len) <| K ((l.drop i).take n)
  | .l (.v (.slice none 0 0)) => K ek.nil
  | _ => False
def lenOfK (hp : Hp) (a : AV) (K : Nat → Prop) : Prop := match a with
  | .l (.f l) => K l.len
  | .l (.fx _ l) => K l.len
  | .l (.s k ver) => rowK hp k ver fun _ l => K l.len
  | .l (.w k ver _ _ n) => rowK hp k ver fun _ _ => K n
  | .l (.v (.slice _ n _)) => K n
  | _ => False

def optK (fr : Fr) (x : Option Operand) (d : Int) (K : Int → Prop) : Prop := match x with
  | none => K d
  | some x => evK fr x fun a => match a with
    | .l (.v (.int _ n)) => K n
    | _ => False

def cutS (esz : Nat) (a : AV) (hp : Hp) (fr : Fr) (lo hi : Option Operand) (K : AV → Prop) : Prop :=
  lenOfK hp a fun n => optK fr lo 0 fun i => optK fr hi n fun h => Side (0 ≤ i ∧ i ≤ h ∧ h ≤ n) <| match a with
    | .l (.f l) => Side (Nat.beq esz l.sz = true) <| K (.l (.f ((l.drop i.toNat).take (h.toNat - i.toNat))))
    | .l (.s k ver) => rowK hp k ver fun _ l => Side (Nat.beq esz l.sz = true) <| K (.l (.w k ver esz i.toNat (h.toNat - i.toNat)))
    | .l (.w k ver sz i0 _) => rowK hp k ver fun _ _ => Side (Nat.beq esz sz = true) <| K (.l (.w k ver sz (i0 + i.toNat) (h.toNat - i.toNat)))
    | _ => False

def minI (x y : Int) : Int := if y < x then y else x
def maxI (x y : Int) : Int := if x < y then y else x

/-- Cells whose values are known. -/
def valsK : List LV → (List Value → Prop) → Prop
  | [], K => K []
  | .v x :: r, K => valsK r fun us => K (x :: us)
  | _, _ => False
/-- The method of a name. -/
def methK : List (String × FuncId × Bool) → String → (FuncId → Bool → Prop) → Prop
  | [], _, _ => False
  | (n, f, p) :: r, m, K => match n == m with
    | true => K f p
    | false => methK r m K
/-- Operations that answer the same in every world that keeps what was asked. -/
def softP (T : Tab) (W : Option (Nat × List Nat)) (fr : Fr) (hp : Hp) (op : Op) (K : AV → Prop) : Prop := match op with
  | .move x => evK fr x K
  | .assign x => evK fr x K
  | .pick c a b => evK fr c fun cv => match cv with
    | .l (.v (.bool t)) => Br t (evK fr a K) (evK fr b K)
    | _ => False
  | .binOp op t x y _ => evK fr x fun a => evK fr y fun b => binK T op t a b K
  | .unOp op _ x => evK fr x fun a => (match op with
    | .not => (match a with
      | .l (.v (.bool b)) => K (B (!b))
      | _ => False)
    | .neg => (match a with
      | .l (.v (.int k n)) => Side (rng k (0 - n)) <| K (I k (0 - n))
      | _ => False)
    | _ => False)
  | .extract x i => evK fr x fun a => (match a with
    | .t xs => sumK xs i K
    | _ => False)
  | .build t parts => tyK T t fun ti => (match ti.kind with
    | .struct fs => fillK fr fs parts.toList ti.zl fun cs => K (.a cs)
    | .arr _ _ esz _ => fillAK fr esz parts.toList ti.zl fun cs => K (.a cs)
    | _ => False)
  | .field t x f => evK fr x fun a => (match a with
    | .a cs => tyK T t fun ti => (match ti.kind with
      | .struct fs => fldK fs f fun off sz agg => cutK cs off sz agg K
      | _ => False)
    | _ => False)
  | .fieldAddr t x f => evK fr x fun a => tyK T t fun ti => (match ti.kind with
    | .struct fs => fldK fs f fun fo _ _ => (match a with
      | .l (.p k off) => K (.l (.p k (off + fo)))
      | .l (.e k ver sz i off) => rowK hp k ver fun _ _ => K (.l (.e k ver sz i (off + fo)))
      | .l (.g l i off) => K (.l (.g l i (off + fo)))
      | _ => False)
    | _ => False)
  | .indexAddr t x i => evK fr x fun a => evK fr i fun b => (match b with
    | .l (.v (.int _ n)) => tyK T t fun ti => (match ti.kind with
      | .slice _ esz _ => lenOfK hp a fun m => Side (0 ≤ n ∧ n < m) <| (match a with
        | .l (.f l) => Side (Nat.beq esz l.sz = true) <| K (.l (.g l n.toNat 0))
        | .l (.fx _ l) => Side (Nat.beq esz l.sz = true) <| K (.l (.g l n.toNat 0))
        | .l (.s k ver) => rowK hp k ver fun _ l => Side (Nat.beq esz l.sz = true) <| K (.l (.e k ver esz n.toNat 0))
        | .l (.w k ver sz i0 _) => rowK hp k ver fun _ _ => Side (Nat.beq esz sz = true) <| K (.l (.e k ver sz (i0 + n.toNat) 0))
        | _ => False)
      | .arr m _ esz _ => Side (0 ≤ n ∧ n < m) <| (match a with
        | .l (.p k off) => K (.l (.p k (off + n.toNat * esz)))
        | _ => False)
      | _ => False)
    | _ => False)
  | .index t x i => evK fr x fun a => evK fr i fun b => (match b with
    | .l (.v (.int _ n)) => tyK T t fun ti => (match ti.kind with
      | .arr m _ esz eagg => Side (0 ≤ n ∧ n < m) <| (match a with
        | .a cs => cutK cs (n.toNat * esz) esz eagg K
        | _ => False)
      | _ => False)
    | _ => False)
  | .load t x => evK fr x fun a => tyK T t fun ti => (match a with
    | .l (.p k off) => Side (mayAsk W k = true) <| getH hp k fun h => (match h with
      | .b cs _ => cutK cs off ti.sz ti.agg K
      | _ => False)
    | .l (.e k ver sz i off) => Side (mayAsk W k = true) <| rowK hp k ver fun _ l => Side (Nat.beq sz l.sz = true) <| Side (i < l.len) <| elK l i off ti.agg ti.sz K
    | .l (.g l i off) => Side (i < l.len) <| elK l i off ti.agg ti.sz K
    | _ => False)
  | .slice t x lo hi mx => (match mx with
    | none => evK fr x fun a => tyK T t fun ti => (match ti.kind with
      | .slice _ esz _ => cutS esz a hp fr lo hi K
      | _ => False)
    | some _ => False)
  | .nilCheck x => evK fr x fun a => (match a with
    | .l (.p k off) => K (.l (.p k off))
    | _ => False)
  | .makeInterface t x => evK fr x fun a => tyK T t fun ti => (match a with
    | .l (.p k 0) => (match ti.kind with
      | .ptr _ => K (.l (.o (some t) k))
      | _ => False)
    | .a cs => (match ti.kind with
      | .struct _ => valsK cs fun us => K (.l (.v (.iface t (.agg us.toArray))))
      | _ => False)
    | _ => False)
  | .typeAssert x _ t ok => (match ok with
    | true => False
    | false => evK fr x fun a => tyK T t fun ti => (match a with
      | .l (.v (.iface t' (.agg us))) => (match ti.kind with
        | .struct _ => Side (Nat.beq t' t = true) <| Side (us.toList.all (·.oneCell') = true) <| K (.a (us.toList.map .v))
        | _ => False)
      | _ => False))
  | .convert s d x => evK fr x fun a => tyK T s fun _ => (match a with
    | .l (.v (.int _ n)) => tyK T d fun ti => (match ti.kind with
      | .int k => Side (rng k n) <| K (I k n)
      | _ => False)
    | _ => False)
  | .call c => (match c.callee with
    | .builtin .len => evsK fr c.args.toList fun vs0 => (match vs0 with
      | [a] => (match c.argTypes.toList with
        | [t] => tyK T t fun ti => (match ti.kind with
          | .slice _ _ _ => lenOfK hp a fun n => K (I .i64 n)
          | .osl _ => lenOfK hp a fun n => K (I .i64 n)
          | .str => (match a with
            | .l (.v (.string s)) => K (I .i64 s.size)
            | _ => False)
          | _ => False)
        | _ => False)
      | _ => False)
    | .builtin .min => evsK fr c.args.toList fun vs0 => (match vs0 with
      | [.l (.v (.int k x)), .l (.v (.int _ y))] => K (I k (minI x y))
      | _ => False)
    | .builtin .max => evsK fr c.args.toList fun vs0 => (match vs0 with
      | [.l (.v (.int k x)), .l (.v (.int _ y))] => K (I k (maxI x y))
      | _ => False)
    | _ => False)
  | _ => False

/-- What a call does, by its contract. -/
structure CS where
  S : List AV → Hp → (AV → Hp → Prop) → Prop
  /-- which of the caller's blocks it may write: none: any -/
  tch : List AV → Option (List Nat)
abbrev Env := List (Nat × CS)
def csK : Env → Nat → (CS → Prop) → Prop
  | [], _, _ => False
  | (f', c) :: r, f, K => match Nat.beq f' f with
    | true => K c
    | false => csK r f K

def newH (rsv : Option Nat) (hp : Hp) (x : HB) (K : Nat → Hp → Prop) : Prop := match rsv with
  | none => endH hp 0 x K
  | some k => getH hp k fun h => match h with
    | .d => setH hp k x fun hp' => K k hp'
    | _ => False

def toELK (ek : EK) (cs : List LV) (K : EL → Prop) : Prop := match ek with
  | .ints => go cs K
  | .gots => go2 cs K
  | .bytes => (match cs with
    | [] => K (.bytes [])
    | _ => False)
  | .k3 => go3 cs K
where
  go : List LV → (EL → Prop) → Prop
    | [], K => K (.ints [])
    | .v (.int .i64 n) :: r, K => go r fun e => match e with
      | .ints l => K (.ints (n :: l))
      | _ => False
    | _, _ => False
  go2 : List LV → (EL → Prop) → Prop
    | [], K => K (.gots [])
    | .v (.int .i64 n) :: .v (.int .i64 m) :: r, K => go2 r fun e => match e with
      | .gots l => K (.gots ((n, m) :: l))
      | _ => False
    | _, _ => False
  go3 : List LV → (EL → Prop) → Prop
    | [], K => K (.k3 [])
    | .v (.int .i64 n) :: .v (.int .i64 m) :: .v (.int .i64 o) :: r, K => go3 r fun e => match e with
      | .k3 l => K (.k3 ((n, m, o) :: l))
      | _ => False
    | _, _ => False

/-- The parts of a slice literal, one behind the other. -/
def partsK (fr : Fr) (sz : Nat) : Nat → Nat → List (Nat × Operand) → (List LV → Prop) → Prop
  | _, 0, [], K => K []
  | i, n + 1, (i', x) :: r, K => Side (Nat.beq i i' = true) <| evK fr x fun a => cellsK a fun vs => lenK vs sz (partsK fr sz (i + 1) n r fun cs => overJ vs cs K)
  | _, _, _, _ => False
where
  overJ : List LV → List LV → (List LV → Prop) → Prop
    | [], cs, K => K cs
    | v :: vs, cs, K => overJ vs cs fun r => K (v :: r)

def appEL (l m : EL) (K : EL → Prop) : Prop := match l with
  | .ints x => (match m with
    | .ints y => K (.ints (x ++ y))
    | _ => False)
  | .gots x => (match m with
    | .gots y => K (.gots (x ++ y))
    | _ => False)
  | .bytes x => (match m with
    | .bytes y => K (.bytes (x ++ y))
    | _ => False)
  | .k3 x => (match m with
    | .k3 y => K (.k3 (x ++ y))
    | _ => False)
/-- Cells of an element are written. -/
def setEL (l : EL) (i off : Nat) (vs : List LV) (K : EL → Prop) : Prop := match l with
  | .ints l => (match off with
    | 0 => (match vs with
      | [.v (.int .i64 x)] => K (.ints (l.set i x))
      | _ => False)
    | _ => False)
  | .gots l => (match off with
    | 0 => (match vs with
      | [.v (.int .i64 x)] => K (.gots (l.set i (x, (l.getD i (0, 0)).2)))
      | [.v (.int .i64 x), .v (.int .i64 y)] => K (.gots (l.set i (x, y)))
      | _ => False)
    | 1 => (match vs with
      | [.v (.int .i64 y)] => K (.gots (l.set i ((l.getD i (0, 0)).1, y)))
      | _ => False)
    | _ => False)
  | .bytes _ => False
  | .k3 l => (match off with
    | 0 => (match vs with
      | [.v (.int .i64 x), .v (.int .i64 y), .v (.int .i64 z)] => K (.k3 (l.set i (x, y, z)))
      | _ => False)
    | _ => False)
def maxL : Nat := 1099511627776
def allIn : Option (Nat × List Nat) → List Nat → Bool
  | _, [] => true
  | W, k :: r => mayPut W k && allIn W r
def mayTch : Option (Nat × List Nat) → Option (List Nat) → Bool
  | W, some l => allIn W l
  | none, none => true
  | some _, none => false

/-- A channel with room for one number. -/
def chanO (l : List Int) (closed : Bool) (o : Obj) : Prop := ∃ s r, o = .chan 1 (l.map (Value.int .i64)).toArray closed s r false
/-- One operation. -/
def effP (T : Tab) (G : Env) (W : Option (Nat × List Nat)) (rsv : Option Nat) (fr : Fr) (hp : Hp) (o : Oper) (K : Fr → Hp → Prop) : Prop := match o.op with
  | .alloc t => tyK T t fun ti => newH rsv hp (.b ti.zl t) fun k hp' => putF fr o.dst (.l (.p k 0)) fun fr' => K fr' hp'
  | .box t x => evK fr x fun a => cellsK a fun cs => newH rsv hp (.b cs t) fun k hp' => putF fr o.dst (.l (.p k 0)) fun fr' => K fr' hp'
  | .store t x y => evK fr x fun a => evK fr y fun b => cellsK b fun vs => tyK T t fun ti => lenK vs ti.sz (match a with
    | .l (.p k off) => Side (mayPut W k = true) <| getH hp k fun h => (match h with
      | .b cs T' => replK cs off vs fun cs' => setH hp k (.b cs' T') fun hp' => putF fr o.dst .j fun fr' => K fr' hp'
      | _ => False)
    | .l (.e k ver sz i off) => Side (mayPut W k = true) <| rowK hp k ver fun E l => Side (Nat.beq sz l.sz = true) <| Side (i < l.len) <| setEL l i off vs fun l' => setH hp k (.r ver E l') fun hp' => putF fr o.dst .j fun fr' => K fr' hp'
    | _ => False)
  | .buildSlice t n parts => tyK T t fun ti => (match ti.kind with
    | .slice e esz ek => Side (Nat.ble (n * esz) 16777216 = true) <| partsK fr esz 0 n parts.toList fun cs => toELK ek cs fun l => newH rsv hp (.r 0 e l) fun k hp' => putF fr o.dst (.l (.s k 0)) fun fr' => K fr' hp'
    | _ => False)
  | .makeSlice t n c => tyK T t fun ti => (match ti.kind with
    | .slice e _ ek => (match n with
      | .const (.int .i64 0) => evK fr c fun a => (match a with
        | .l (.v (.int .i64 m)) => Side (0 ≤ m ∧ m ≤ 1099511627776) <| newH rsv hp (.r 0 e ek.nil) fun k hp' => putF fr o.dst (.l (.s k 0)) fun fr' => K fr' hp'
        | _ => False)
      | .tmp y => evK fr (.tmp y) fun a => (match a with
        | .l (.v (.int .i64 m)) => evK fr c fun a2 => (match a2 with
          | .l (.v (.int .i64 m2)) => Side (0 ≤ m ∧ m ≤ 1099511627776) <| Side (m = m2) <| newH rsv hp (.r 0 e (ek.repl m.toNat)) fun k hp' => putF fr o.dst (.l (.s k 0)) fun fr' => K fr' hp'
          | _ => False)
        | _ => False)
      | _ => False)
    | _ => False)
  | .makeChan t n => tyK T t fun ti => (match ti.kind with
    | .chan => (match n with
      | .const (.int .i64 1) => newH rsv hp (.x (chanO [] false)) fun k hp' => putF fr o.dst (.l (.o none k)) fun fr' => K fr' hp'
      | _ => False)
    | _ => False)
  | .call c => (match c.callee with
    | .builtin .append => (match c.args.toList with
      | [x, y] => (match c.argTypes.toList with
        | [t, t2] => tyK T t fun ti => (match ti.kind with
          | .slice e esz ek => Side (Nat.beq t t2 = true) <| evK fr x fun a => evK fr y fun b => readK hp ek b fun m => Side (Nat.beq esz m.sz = true) <| (match a with
            | .l (.s k ver) => Side (mayPut W k = true) <| rowK hp k ver fun E l => Side (Nat.beq E e = true) <| Side (l.len + m.len ≤ maxL) <| appEL l m fun l' => setH hp k (.r (ver + 1) e l') fun hp' => putF fr o.dst (.l (.s k (ver + 1))) fun fr' => K fr' hp'
            | .l (.v (.slice none 0 0)) => endH hp 0 (.r 0 e m) fun k hp' => putF fr o.dst (.l (.s k 0)) fun fr' => K fr' hp'
            | _ => False)
          | _ => False)
        | _ => False)
      | _ => False)
    | .invoke r name => evK fr r fun a => (match a with
      | .l (.o (some t) k) => tyK T t fun ti => methK ti.ms name fun f p => csK G f fun c' => evsK fr c.args.toList fun vs0 => (match p with
        | true => Side (mayTch W (c'.tch (.l (.p k 0) :: vs0)) = true) <| c'.S (.l (.p k 0) :: vs0) hp fun r hp' => putF fr o.dst r fun fr' => K fr' hp'
        | false => (match ti.kind with
          | .ptr e => tyK T e fun ei => Side (mayAsk W k = true) <| getH hp k fun h => (match h with
            | .b cs _ => cutK cs 0 ei.sz ei.agg fun x => Side (mayTch W (c'.tch (x :: vs0)) = true) <| c'.S (x :: vs0) hp fun r hp' => putF fr o.dst r fun fr' => K fr' hp'
            | _ => False)
          | _ => False))
      | _ => False)
    | .value (.func f) => csK G f fun c' => evsK fr c.args.toList fun vs0 => Side (mayTch W (c'.tch vs0) = true) <| c'.S vs0 hp fun r hp' => putF fr o.dst r fun fr' => K fr' hp'
    | _ => softP T none fr hp o.op fun r => putF fr o.dst r fun fr' => K fr' hp)
  | _ => softP T none fr hp o.op fun r => putF fr o.dst r fun fr' => K fr' hp

def getO : List Oper → Nat → (Oper → Prop) → Prop
  | [], _, _ => False
  | a :: _, 0, K => K a
  | _ :: r, n + 1, K => getO r n K
/-- Is the operation wanted? -/
def wantK (all : List Oper) (fr : Fr) (o : Oper) (p q : Prop) : Prop := match o.guard with
  | none => p
  | some (i, b) => getO all i fun oi => (match oi.dst with
    | some d => getF fr d fun a => (match a with
      | .l (.v (.bool t)) => (match b with
        | true => Br t p q
        | false => Br t q p)
      | .t xs => (match xs with
        | [] => q
        | _ => False)
      | _ => False)
    | none => False)

def opsK (T : Tab) (G : Env) (all : List Oper) : List Oper → Fr → Hp → (Fr → Hp → Prop) → Prop
  | [], fr, hp, K => K fr hp
  | o :: r, fr, hp, K => wantK all fr o (effP T G none none fr hp o fun fr' hp' => opsK T G all r fr' hp' K) (putF fr o.dst (.t []) fun fr' => opsK T G all r fr' hp K)

def isNew : Op → Bool
  | .alloc _ | .box _ _ | .buildSlice .. | .makeSlice .. | .makeChan .. => true
  | _ => false
/-- How many operations before i make a block. -/
def newsB : List Oper → Nat → Nat
  | _, 0 => 0
  | [], _ + 1 => 0
  | o :: r, n + 1 => match isNew o.op with
    | true => newsB r n + 1
    | false => newsB r n

/-- A number, counted out. -/
def natK : Nat → (Nat → Prop) → Prop
  | 0, K => K 0
  | n + 1, K => natK n fun m => K (m + 1)
def natsK : List Nat → (List Nat → Prop) → Prop
  | [], K => K []
  | a :: r, K => natK a fun a' => natsK r fun r' => K (a' :: r')
/-- One operation of a region that draws: kind 0: it answers the same later; 1: what may be asked stays; 2: nobody asks behind it. -/
def stepT (T : Tab) (G : Env) (all : List Oper) (W : Nat × List Nat) (base : Nat) (i k : Nat) (fr : Fr) (hp : Hp) (K : Fr → Hp → Prop) : Prop := getO all i fun o => (match k with
  | 0 => wantK all fr o (softP T (some W) fr hp o.op fun r => putF fr o.dst r fun fr' => K fr' hp) (putF fr o.dst (.t []) fun fr' => K fr' hp)
  | 1 => wantK all fr o (natK (base + newsB all i) fun k => effP T G (some W) (some k) fr hp o K) (putF fr o.dst (.t []) fun fr' => K fr' hp)
  | _ => wantK all fr o (natK (base + newsB all i) fun k => effP T G none (some k) fr hp o K) (putF fr o.dst (.t []) fun fr' => K fr' hp))
def lateK (T : Tab) (G : Env) (all : List Oper) (W : Nat × List Nat) (base : Nat) : Tr → Fr → Hp → (Fr → Hp → Prop) → Prop
  | .nil, fr, hp, K => End (K fr hp)
  | .op i k t, fr, hp, K => (match k with
    | 0 => False
    | 1 => False
    | _ => stepT T G all W base i 2 fr hp fun fr' hp' => lateK T G all W base t fr' hp' K)
  | .fork .., _, _, _ => False
def treeK (T : Tab) (G : Env) (all : List Oper) (W : Nat × List Nat) (base : Nat) : Tr → Fr → Hp → (Fr → Hp → Prop) → Prop
  | .nil, fr, hp, K => End (K fr hp)
  | .op i k t, fr, hp, K => (match k with
    | 0 => stepT T G all W base i 0 fr hp fun fr' hp' => treeK T G all W base t fr' hp' K
    | 1 => stepT T G all W base i 1 fr hp fun fr' hp' => treeK T G all W base t fr' hp' K
    | _ => stepT T G all W base i 2 fr hp fun fr' hp' => lateK T G all W base t fr' hp' K)
  | .fork i _ t j _ u, fr, hp, K =>
    Fork (∀ K', (stepT T G all W base i 1 fr hp fun fr' hp' => treeK T G all W base t fr' hp' K') → stepT T G all W base j 1 fr hp fun fr' hp' => treeK T G all W base u fr' hp' K')
      (stepT T G all W base i 1 fr hp fun fr' hp' => treeK T G all W base t fr' hp' K)

def isApp (o : Oper) : Bool := match o.op with
  | .call c => (match c.callee with
    | .builtin .append => true
    | _ => false)
  | _ => false
def anyApp : List Oper → Bool
  | [] => false
  | o :: r => match isApp o with
    | true => true
    | false => anyApp r
def isWr (o : Oper) : Bool := match o.op with
  | .call c => (match c.callee with
    | .builtin .append => true
    | .builtin .copy => true
    | .builtin _ => false
    | _ => true)
  | .store .. => true
  | _ => false
def anyWr : List Oper → Bool
  | [] => false
  | o :: r => match isWr o with
    | true => true
    | false => anyWr r
/-- What a region that draws may write. -/
def wrOf (ops : List Oper) (W0 : List Nat) (rows : List Nat) : List Nat := match anyWr ops with
  | false => []
  | true => (match anyApp ops with
    | true => W0 ++ rows
    | false => W0)
/-- The blocks that stores write which are no late ones. -/
def tgtOf (fr : Fr) (o : Oper) : List Nat := match o.op with
  | .store _ x _ => (match x with
    | .tmp d => (match fr[d]? with
      | some (.l (.p k _)) => [k]
      | _ => [])
    | _ => [])
  | _ => []
def tgtAt (fr : Fr) (ops : List Oper) (i k : Nat) : List Nat := match k with
  | 1 => (match ops[i]? with
    | some o => tgtOf fr o
    | none => [])
  | _ => []
def stW (fr : Fr) (ops : List Oper) : Tr → List Nat
  | .nil => []
  | .op i k t => tgtAt fr ops i k ++ stW fr ops t
  | .fork i k t j l u => tgtAt fr ops i k ++ (stW fr ops t ++ (tgtAt fr ops j l ++ stW fr ops u))
def rowsOf : Nat → Hp → List Nat
  | _, [] => []
  | k, .r .. :: r => k :: rowsOf (k + 1) r
  | k, _ :: r => rowsOf (k + 1) r
def rsvK : Nat → Hp → (Hp → Prop) → Prop
  | 0, hp, K => K hp
  | n + 1, hp, K => endH hp 0 .d fun _ hp' => rsvK n hp' K
/-- How a piece of code is left. -/
inductive Xt where
  | n
  | x (id : Nat)
  | r

abbrev Go1 := Fr → Hp → (Xt → Fr → Hp → Prop) → Prop

def iterK (X : Go1) : Nat → Go1
  | 0, _, _, _ => False
  | n + 1, fr, hp, K => X fr hp fun e fr' hp' => match e with
    | .n => iterK X n fr' hp' K
    | .x id => K (.x id) fr' hp'
    | .r => K .r fr' hp'

/-- The leaf t says no more than the leaf s, when the blocks of t are those that ρ names. -/
def covL (ρ : List Nat) (ht hs : Hp) (t s : LV) : Prop := match t with
  | .j => True
  | .p k off => (match s with
    | .p k' off' => ρ[k]? = some k' ∧ off = off' ∧ getH ht k fun h => (match h with
      | .b _ _ => True
      | _ => False)
    | _ => False)
  | .s k ver => (match s with
    | .s k' ver' => ρ[k]? = some k' ∧ rowK ht k ver (fun _ _ => rowK hs k' ver' fun _ _ => True)
    | _ => False)
  | .w k ver sz i n => (match s with
    | .w k' ver' sz' i' n' => (ρ[k]? = some k' ∧ sz = sz' ∧ i = i' ∧ n = n') ∧ rowK ht k ver (fun _ _ => rowK hs k' ver' fun _ _ => True)
    | _ => False)
  | .e .. => False
  | .g .. => False
  | .o T k => (match s with
    | .o T' k' => T = T' ∧ ρ[k]? = some k' ∧ getH ht k fun h => (match h with
      | .b _ _ => True
      | _ => False)
    | _ => False)
  | .v x => .v x = s
  | .f l => .f l = s
  | .fx v l => .fx v l = s
def covLs (ρ : List Nat) (ht hs : Hp) : List LV → List LV → Prop → Prop
  | [], [], p => p
  | t :: ts, s :: ss, p => (match t with
    | .j => covLs ρ ht hs ts ss p
    | t => Side (covL ρ ht hs t s) <| covLs ρ ht hs ts ss p)
  | _, _, _ => False
def covF (ρ : List Nat) (ht hs : Hp) : Fr → Fr → Prop → Prop
  | [], [], p => p
  | t :: ts, s :: ss, p => (match t with
    | .j => covF ρ ht hs ts ss p
    | .l x => (match s with
      | .l y => covLs ρ ht hs [x] [y] (covF ρ ht hs ts ss p)
      | _ => False)
    | .a xs => (match s with
      | .a ys => covLs ρ ht hs xs ys (covF ρ ht hs ts ss p)
      | _ => False)
    | .t _ => False)
  | _, _, _ => False
/-- The blocks; those below N are the caller's: they stay where they are. -/
def covHs (N : Nat) (ρ : List Nat) (ht hs : Hp) : Nat → List HB → List Nat → Prop → Prop
  | _, [], [], p => p
  | i, t :: ts, k :: ks, p => getH hs k fun s => (match t with
    | .d => Side (Nat.ble N i = true) <| covHs N ρ ht hs (i + 1) ts ks p
    | .b cs T => (match s with
      | .b cs' T' => Side ((Nat.ble N i || Nat.beq i k) = true) <| Side (Nat.beq T T' = true) <| covLs ρ ht hs cs cs' (covHs N ρ ht hs (i + 1) ts ks p)
      | _ => False)
    | .r ver E l => (match s with
      | .r ver' E' l' => Side ((Nat.ble N i || (Nat.beq i k && Nat.beq ver ver')) = true) <| Side (Nat.beq E E' = true) <| Side (l = l') <| covHs N ρ ht hs (i + 1) ts ks p
      | _ => False)
    | .x _ => False)
  | _, _, _, _ => False
def lenH : Hp → Nat
  | [] => 0
  | _ :: r => lenH r + 1

def nodupB : List Nat → Bool
  | [] => true
  | a :: r => !memN r a && nodupB r
def cov (N : Nat) (ρ : List Nat) (ft : Fr) (ht : Hp) (fs : Fr) (hs : Hp) : Prop := Side ((nodupB ρ && Nat.ble N ρ.length && Nat.beq (lenH ht) ρ.length) = true) <| covHs N ρ ht hs 0 ht ρ (covF ρ ht hs ft fs True)

def updF : List (Nat × AV) → Fr → (Fr → Prop) → Prop
  | [], fr, K => K fr
  | (k, x) :: r, fr, K => setF fr k x fun fr' => updF r fr' K
def updH : List (Nat × HB) → Hp → (Hp → Prop) → Prop
  | [], hp, K => K hp
  | (k, x) :: r, hp, K => setH hp k x fun hp' => updH r hp' K
def killF : List Nat → Fr → (Fr → Prop) → Prop
  | [], fr, K => K fr
  | k :: r, fr, K => setF fr k .j fun fr' => killF r fr' K
def dropT : Fr → (Fr → Prop) → Prop
  | [], K => K []
  | a :: r, K => dropT r fun r' => (match a with
    | .l x => K (.l x :: r')
    | .a cs => K (.a cs :: r')
    | .t _ => K (.j :: r')
    | .j => K (.j :: r'))
/-- The state at a loop's head: what the loop writes is forgotten, what is named is known. -/
def headK (ws : List Nat) (fr : Fr) (hp : Hp) (u : List (Nat × AV)) (v : List (Nat × HB)) (K : Fr → Hp → Prop) : Prop :=
  dropT fr fun fr0 => killF ws fr0 fun fr1 => updF u fr1 fun fr2 => updH v hp fun hp2 => K fr2 hp2

inductive LoopG (N : Nat) (X : Go1) (ws : List Nat) (fr : Fr) (hp : Hp) (K : Xt → Fr → Hp → Prop) : Prop where
  | it (n : Nat) (h : iterK X n fr hp K)
  | inv (σ : Type) (u : σ → List (Nat × AV)) (v : σ → List (Nat × HB)) (μ : σ → Nat) (x0 : σ) (ρ : List Nat) (h0 : headK ws fr hp (u x0) (v x0) fun ft ht => cov N ρ ft ht fr hp)
    (h : ∀ x, headK ws fr hp (u x) (v x) fun ft ht => X ft ht fun e fr' hp' => match e with
      | .n => ∃ x' ρ, μ x' < μ x ∧ headK ws fr hp (u x') (v x') fun ft' ht' => cov N ρ ft' ht' fr' hp'
      | .x id => K (.x id) fr' hp'
      | .r => K .r fr' hp')
  | invP (m : Nat) (σ : Type) (u : σ → List (Nat × AV)) (v : σ → List (Nat × HB)) (μ : σ → Nat) (x0 : σ) (ρ : List Nat) (h0 : rsvK m hp fun hp1 => headK ws fr hp1 (u x0) (v x0) fun ft ht => cov N ρ ft ht fr hp1)
    (h : ∀ x, rsvK m hp fun hp1 => headK ws fr hp1 (u x) (v x) fun ft ht => X ft ht fun e fr' hp' => match e with
      | .n => ∃ x' ρ, μ x' < μ x ∧ rsvK m hp fun hp1 => headK ws fr hp1 (u x') (v x') fun ft' ht' => cov N ρ ft' ht' fr' hp'
      | .x id => K (.x id) fr' hp'
      | .r => K .r fr' hp')

/-- The order is one that the region allows, and serves for all. -/
def regOk (t : Tr) (ops : Array Oper) : Bool := Nat.beq t.len ops.size && Region.noSelect ops && lateOk .any ops t.flat && canonOk .any ops (Array.replicate ops.size false) t

/-- The slots that a piece of code writes. -/
def dsts : List Oper → List Nat
  | [] => []
  | o :: r => match o.dst with
    | some d => d :: dsts r
    | none => dsts r
def wrs : Code → List Nat
  | .region _ ops _ => dsts ops.toList
  | .seq a b => wrs a ++ wrs b
  | .cond _ a b => wrs a ++ wrs b
  | .block _ c => wrs c
  | .loop c => wrs c
  | _ => []

def exec (T : Tab) (G : Env) (N : Nat) (W0 : List Nat) (TR : Nat → Tr) : Code → Go1
  | .skip => fun fr hp K => K .n fr hp
  | .region id ops draw => fun fr hp K => (match draw with
    | false => opsK T G ops.toList ops.toList fr hp fun fr' hp' => K .n fr' hp'
    | true => Side (regOk (TR id) ops = true) <| rsvK (newsB ops.toList ops.size) hp fun hp' => natK (lenH hp) fun base => natsK (wrOf ops.toList W0 (rowsOf 0 hp) ++ stW fr ops.toList (TR id)) fun W => treeK T G ops.toList (base, W) base (TR id) fr hp' fun fr' hp' => K .n fr' hp')
  | .seq a b => fun fr hp K => exec T G N W0 TR a fr hp fun e fr' hp' => (match e with
    | .n => exec T G N W0 TR b fr' hp' K
    | .x id => K (.x id) fr' hp'
    | .r => K .r fr' hp')
  | .cond c a b => fun fr hp K => evK fr c fun v => (match v with
    | .l (.v (.bool t)) => Br t (exec T G N W0 TR a fr hp K) (exec T G N W0 TR b fr hp K)
    | _ => False)
  | .block id c => fun fr hp K => exec T G N W0 TR c fr hp fun e fr' hp' => (match e with
    | .n => K .n fr' hp'
    | .x id' => (match Nat.beq id' id with
      | true => K .n fr' hp'
      | false => K (.x id') fr' hp')
    | .r => K .r fr' hp')
  | .loop c => fun fr hp K => LoopG N (exec T G N W0 TR c) (wrs c) fr hp K
  | .exit id => fun fr hp K => K (.x id) fr hp
  | .ret => fun fr hp K => K .r fr hp
  | _ => fun _ _ _ => False

/-- The results, out of the frame. -/
def resK (T : Tab) (fr : Fr) (hp : Hp) : ResultVar → (AV → Prop) → Prop
  | .tmp t, K => getF fr t K
  | .cell t ty, K => softP T none fr hp (.load ty (.tmp t)) K
def resOf (a : AV) (K : (LV ⊕ List LV) → Prop) : Prop := match a with
  | .l x => K (.inl x)
  | .a cs => K (.inr cs)
  | _ => False
def ressK (T : Tab) (fr : Fr) (hp : Hp) : List ResultVar → (List (LV ⊕ List LV) → Prop) → Prop
  | [], K => K []
  | r :: rs, K => resK T fr hp r fun a => resOf a fun x => ressK T fr hp rs fun xs => K (x :: xs)
def outK (T : Tab) (fr : Fr) (hp : Hp) (rs : List ResultVar) (K : AV → Prop) : Prop := match rs with
  | [r] => resK T fr hp r K
  | rs => ressK T fr hp rs fun xs => K (.t xs)

def padF : Nat → Fr → Fr
  | 0, vs0 => vs0
  | n + 1, [] => .j :: padF n []
  | n + 1, a :: vs0 => a :: padF n vs0

/-- A whole function, from its arguments. -/
def callP (T : Tab) (G : Env) (N : Nat) (W0 : List Nat) (TR : Nat → Tr) (fn : Func) (vs0 : List AV) (hp : Hp) (K : AV → Hp → Prop) : Prop := match fn.body with
  | none => False
  | some c => exec T G N W0 TR c (padF fn.ntmps vs0) hp fun e fr' hp' => (match e with
    | .n => outK T fr' hp' fn.results.toList fun r => K r hp'
    | .r => outK T fr' hp' fn.results.toList fun r => K r hp'
    | .x _ => False)

end Ab
end Go.Proofs.Ytacjfkodndkaeaa
