/-
  Contracts of functions over plain data, made by the abstract walk and used by it. Plain lemmas; the conditions are the types' rows (TIok) and the contracts (CSok).
-/
import Derived.Test.YtacjfkodndkaeaaAbsD
namespace Go.Proofs.Ytacjfkodndkaeaa
open Go.RowKit
namespace Ab

/-- The shape of a leaf. -/
inductive Sh where
  | int
  | bool
  | ints
  | gots
  | bytes
@[reducible] def Sh.T : Sh → Type
  | .int => Int
  | .bool => Bool
  | .ints => List Int
  | .gots => List (Int × Int)
  | .bytes => List UInt8
@[reducible] def HL : List Sh → Type
  | [] => Unit
  | s :: r => s.T × HL r
@[reducible] def DA : List (Sh ⊕ List Sh) → Type
  | [] => Unit
  | .inl s :: r => s.T × DA r
  | .inr ss :: r => HL ss × DA r

def frzL : (s : Sh) → s.T → LV
  | .int, n => .v (.int .i64 n)
  | .bool, b => .v (.bool b)
  | .ints, l => .f (.ints l)
  | .gots, l => .f (.gots l)
  | .bytes, l => .f (.bytes l)
def frzs : (ss : List Sh) → HL ss → List LV
  | [], _ => []
  | s :: r, x => frzL s x.1 :: frzs r x.2
def frzA : (sig : List (Sh ⊕ List Sh)) → DA sig → List AV
  | [], _ => []
  | .inl s :: r, x => .l (frzL s x.1) :: frzA r x.2
  | .inr ss :: r, x => .a (frzs ss x.1) :: frzA r x.2

def frzLK : (s : Sh) → s.T → (LV → Prop) → Prop
  | .int, n, K => K (.v (.int .i64 n))
  | .bool, b, K => K (.v (.bool b))
  | .ints, l, K => K (.f (.ints l))
  | .gots, l, K => K (.f (.gots l))
  | .bytes, l, K => K (.f (.bytes l))
def frzsK : (ss : List Sh) → HL ss → (List LV → Prop) → Prop
  | [], _, K => K []
  | s :: r, (a, b), K => frzLK s a fun x => frzsK r b fun xs => K (x :: xs)
def frzAK : (sig : List (Sh ⊕ List Sh)) → DA sig → (List AV → Prop) → Prop
  | [], _, K => K []
  | .inl s :: r, (a, b), K => frzLK s a fun x => frzAK r b fun xs => K (.l x :: xs)
  | .inr ss :: r, (a, b), K => frzsK ss a fun x => frzAK r b fun xs => K (.a x :: xs)
theorem frzLK_iff {s : Sh} {x : s.T} {K : LV → Prop} : frzLK s x K ↔ K (frzL s x) := by cases s <;> exact Iff.rfl
theorem frzsK_iff : ∀ {ss : List Sh} {x : HL ss} {K : List LV → Prop}, frzsK ss x K ↔ K (frzs ss x)
  | [], _, _ => Iff.rfl
  | s :: r, (a, b), K => by simp only [frzsK, frzLK_iff, frzsK_iff (ss := r), frzs]
theorem frzAK_iff : ∀ {sig : List (Sh ⊕ List Sh)} {x : DA sig} {K : List AV → Prop}, frzAK sig x K ↔ K (frzA sig x)
  | [], _, _ => Iff.rfl
  | .inl s :: r, (a, b), K => by simp only [frzAK, frzLK_iff, frzAK_iff (sig := r), frzA]
  | .inr s :: r, (a, b), K => by simp only [frzAK, frzsK_iff, frzAK_iff (sig := r), frzA]

def bdL : (s : Sh) → s.T → Prop
  | .ints, l => l.length ≤ maxL
  | .gots, l => l.length ≤ maxL
  | .bytes, l => l.length ≤ maxL
  | _, _ => True
def bds : (ss : List Sh) → HL ss → Prop
  | [], _ => True
  | s :: r, x => bdL s x.1 ∧ bds r x.2
def bdA : (sig : List (Sh ⊕ List Sh)) → DA sig → Prop
  | [], _ => True
  | .inl s :: r, x => bdL s x.1 ∧ bdA r x.2
  | .inr ss :: r, x => bds ss x.1 ∧ bdA r x.2

def rdE (w : World) (l : EL) (v : Value) : Prop := Sl w l.sz v l.len l.enc ∧ l.len ≤ maxL
def rdL (w : World) : (s : Sh) → s.T → Value → Prop
  | .int, n, v => v = .int .i64 n
  | .bool, b, v => v = .bool b
  | .ints, l, v => rdE w (.ints l) v
  | .gots, l, v => rdE w (.gots l) v
  | .bytes, l, v => rdE w (.bytes l) v
def rds (w : World) : (ss : List Sh) → HL ss → List Value → Prop
  | [], _, [] => True
  | s :: r, x, v :: vs => rdL w s x.1 v ∧ rds w r x.2 vs
  | _, _, _ => False
def rdA (w : World) : (sig : List (Sh ⊕ List Sh)) → DA sig → List Value → Prop
  | [], _, [] => True
  | .inl s :: r, x, v :: vs => rdL w s x.1 v ∧ rdA w r x.2 vs
  | .inr ss :: r, x, v :: vs => (∃ us, v = .agg us ∧ rds w ss x.1 us.toList) ∧ rdA w r x.2 vs
  | _, _, _ => False

/-- A leaf of what a call returns: a value; a list of its own. -/
inductive DL where
  | v (x : Value)
  | s (E : TypeId) (l : EL)
inductive DV where
  | l (x : DL)
  | a (cs : List DL)
  | t (xs : List (DL ⊕ List DL))

def frL (w : World) (base : Nat) (d : DL) (v : Value) (bs : List Nat) : Prop := match d with
  | .v x => v = x ∧ x.oneCell' = true ∧ bs = []
  | .s E l => w.ownsRow base E l.sz v l.len l.enc ∧ l.len ≤ maxL ∧ bs = v.ownBlock.toList
def frLs (w : World) (base : Nat) : List DL → List Value → List Nat → Prop
  | [], [], bs => bs = []
  | d :: ds, v :: vs, bs => ∃ b1 b2, bs = b1 ++ b2 ∧ frL w base d v b1 ∧ frLs w base ds vs b2
  | _, _, _ => False
def frTs (w : World) (base : Nat) : List (DL ⊕ List DL) → List Value → List Nat → Prop
  | [], [], bs => bs = []
  | .inl d :: ds, v :: vs, bs => ∃ b1 b2, bs = b1 ++ b2 ∧ frL w base d v b1 ∧ frTs w base ds vs b2
  | .inr cs :: ds, v :: vs, bs => ∃ b1 b2, bs = b1 ++ b2 ∧ (∃ us, v = .agg us ∧ frLs w base cs us.toList b1) ∧ frTs w base ds vs b2
  | _, _, _ => False
def frV (w : World) (base : Nat) (d : DV) (v : Value) (bs : List Nat) : Prop := match d with
  | .l x => frL w base x v bs
  | .a cs => ∃ us, v = .agg us ∧ frLs w base cs us.toList bs
  | .t xs => ∃ us, v = .tuple us ∧ frTs w base xs us.toList bs

/-- The contract of a function over plain data. -/
def Con (P : Program) (f : FuncId) (sig : List (Sh ⊕ List Sh)) (S : DA sig → (DV → Prop) → Prop) : Prop := ∀ (x : DA sig) (K : DV → Prop), S x K → ∀ (w : World) (vs : Array Value), rdA w sig x vs.toList →
  Calls P f vs w fun e w' => ∃ d v, e = .returned v ∧ K d ∧ Below w.heap.size w w' ∧ ∃ bs, frV w' w.heap.size d v bs ∧ bs.Nodup

/-! ### A contract, used -/
def decE (hp : Hp) (ek : EK) (x : LV) (K : EL → Prop) : Prop := readK hp ek (.l x) K
def decL (hp : Hp) : (s : Sh) → LV → (s.T → Prop) → Prop
  | .int, x, K => (match x with
    | .v (.int .i64 n) => K n
    | _ => False)
  | .bool, x, K => (match x with
    | .v (.bool b) => K b
    | _ => False)
  | .ints, x, K => decE hp .ints x fun e => (match e with
    | .ints l => K l
    | _ => False)
  | .gots, x, K => decE hp .gots x fun e => (match e with
    | .gots l => K l
    | _ => False)
  | .bytes, x, K => decE hp .bytes x fun e => (match e with
    | .bytes l => K l
    | _ => False)
def decs (hp : Hp) : (ss : List Sh) → List LV → (HL ss → Prop) → Prop
  | [], [], K => K ()
  | s :: r, x :: xs, K => decL hp s x fun a => decs hp r xs fun b => K (a, b)
  | _, _, _ => False
def decA (hp : Hp) : (sig : List (Sh ⊕ List Sh)) → List AV → (DA sig → Prop) → Prop
  | [], [], K => K ()
  | .inl s :: r, .l x :: xs, K => decL hp s x fun a => decA hp r xs fun b => K (a, b)
  | .inr ss :: r, .a cs :: xs, K => decs hp ss cs fun a => decA hp r xs fun b => K (a, b)
  | _, _, _ => False

def impL (hp : Hp) (d : DL) (K : LV → Hp → Prop) : Prop := match d with
  | .v x => K (.v x) hp
  | .s E l => endH hp 0 (.r 0 E l) fun k hp' => K (.s k 0) hp'
def impLs : Hp → List DL → (List LV → Hp → Prop) → Prop
  | hp, [], K => K [] hp
  | hp, d :: ds, K => impL hp d fun x hp' => impLs hp' ds fun xs hp2 => K (x :: xs) hp2
def impTs : Hp → List (DL ⊕ List DL) → (List (LV ⊕ List LV) → Hp → Prop) → Prop
  | hp, [], K => K [] hp
  | hp, .inl d :: ds, K => impL hp d fun x hp' => impTs hp' ds fun xs hp2 => K (.inl x :: xs) hp2
  | hp, .inr cs :: ds, K => impLs hp cs fun x hp' => impTs hp' ds fun xs hp2 => K (.inr x :: xs) hp2
def impV (hp : Hp) (d : DV) (K : AV → Hp → Prop) : Prop := match d with
  | .l x => impL hp x fun y hp' => K (.l y) hp'
  | .a cs => impLs hp cs fun ys hp' => K (.a ys) hp'
  | .t xs => impTs hp xs fun ys hp' => K (.t ys) hp'

def csOf (sig : List (Sh ⊕ List Sh)) (S : DA sig → (DV → Prop) → Prop) : CS := { S := fun xs hp K => decA hp sig xs fun x => S x fun d => impV hp d K, tch := fun _ => some [] }

/-! ### A contract, made -/
def vEq (y z : Value) (p : Prop) : Prop := match y with
  | .int k a => (match z with
    | .int k' b => Side (k = k') <| Side (a = b) p
    | _ => False)
  | .bool a => (match z with
    | .bool b => Side (a = b) p
    | _ => False)
  | _ => Side (y = z) p
def matL (hp : Hp) (x : LV) (d : DL) (ks : List Nat) (K : List Nat → Prop) : Prop := match d with
  | .v z => (match x with
    | .v y => vEq y z (K ks)
    | _ => False)
  | .s E l => (match x with
    | .s k ver => rowK hp k ver fun E' l' => Side (memN ks k = false) <| Side (Nat.beq E' E = true) <| Side (l' = l) <| K (k :: ks)
    | .v (.slice none 0 0) => Side (l.len = 0) <| K ks
    | _ => False)
def matLs (hp : Hp) : List LV → List DL → List Nat → (List Nat → Prop) → Prop
  | [], [], ks, K => K ks
  | x :: xs, d :: ds, ks, K => matL hp x d ks fun ks' => matLs hp xs ds ks' K
  | _, _, _, _ => False
def matTs (hp : Hp) : List (LV ⊕ List LV) → List (DL ⊕ List DL) → List Nat → (List Nat → Prop) → Prop
  | [], [], ks, K => K ks
  | .inl x :: xs, .inl d :: ds, ks, K => matL hp x d ks fun ks' => matTs hp xs ds ks' K
  | .inr x :: xs, .inr d :: ds, ks, K => matLs hp x d ks fun ks' => matTs hp xs ds ks' K
  | _, _, _, _ => False
def matV (hp : Hp) (r : AV) (d : DV) : Prop := match d with
  | .l y => (match r with
    | .l x => matL hp x y [] fun _ => True
    | _ => False)
  | .a ds => (match r with
    | .a xs => matLs hp xs ds [] fun _ => True
    | _ => False)
  | .t ds => (match r with
    | .t xs => matTs hp xs ds [] fun _ => True
    | _ => False)

section
variable {P : Program} {cx : Cx} {β : List En} {hp : Hp} {w : World}

theorem frz_bd_L {s : Sh} {x : s.T} {v : Value} (h : rdL w s x v) : bdL s x ∧ LC ⟨w, []⟩ β (frzL s x) v := by
  cases s with
  | int => have e : v = .int .i64 x := h; subst e; exact ⟨trivial, rfl, rfl⟩
  | bool => have e : v = .bool x := h; subst e; exact ⟨trivial, rfl, rfl⟩
  | ints =>
    obtain ⟨h1, h2⟩ := h
    obtain ⟨a, c, rfl, _⟩ := h1.form
    exact ⟨h2, rfl, h1, h2, fun _ _ _ hm => by cases hm⟩
  | gots =>
    obtain ⟨h1, h2⟩ := h
    obtain ⟨a, c, rfl, _⟩ := h1.form
    exact ⟨h2, rfl, h1, h2, fun _ _ _ hm => by cases hm⟩
  | bytes =>
    obtain ⟨h1, h2⟩ := h
    obtain ⟨a, c, rfl, _⟩ := h1.form
    exact ⟨h2, rfl, h1, h2, fun _ _ _ hm => by cases hm⟩
theorem frz_bds : ∀ {ss : List Sh} {x : HL ss} {vs : List Value}, rds w ss x vs → bds ss x ∧ LCs ⟨w, []⟩ β (frzs ss x) vs
  | [], _, [], _ => ⟨trivial, trivial⟩
  | s :: r, x, v :: vs, h => by
    have h1 := frz_bd_L (β := β) h.1
    have h2 := frz_bds (ss := r) h.2
    exact ⟨⟨h1.1, h2.1⟩, h1.2, h2.2⟩
  | [], _, _ :: _, h => h.elim
  | _ :: _, _, [], h => h.elim
theorem frz_bdA : ∀ {sig : List (Sh ⊕ List Sh)} {x : DA sig} {vs : List Value}, rdA w sig x vs → bdA sig x ∧ ACs ⟨w, []⟩ β (frzA sig x) vs
  | [], _, [], _ => ⟨trivial, trivial⟩
  | .inl s :: r, x, v :: vs, h => by
    have h1 := frz_bd_L (β := β) h.1
    have h2 := frz_bdA (sig := r) h.2
    exact ⟨⟨h1.1, h2.1⟩, h1.2, h2.2⟩
  | .inr s :: r, x, v :: vs, h => by
    obtain ⟨us, e, hu⟩ := h.1
    have h1 := frz_bds (β := β) hu
    have h2 := frz_bdA (sig := r) h.2
    exact ⟨⟨h1.1, h2.1⟩, ⟨us, e, h1.2⟩, h2.2⟩
  | [], _, _ :: _, h => h.elim
  | .inl _ :: _, _, [], h => h.elim
  | .inr _ :: _, _, [], h => h.elim
theorem frzA_len : ∀ {sig : List (Sh ⊕ List Sh)} {x : DA sig}, (frzA sig x).length = sig.length
  | [], _ => rfl
  | .inl _ :: r, x => by simp [frzA, frzA_len (sig := r)]
  | .inr _ :: r, x => by simp [frzA, frzA_len (sig := r)]

/-- The lists that a value holds, by their entries: what it stands for. -/
def blks (hp : Hp) (β : List En) : List Nat → List Nat
  | [] => []
  | k :: ks => blks hp β ks ++ (ownB hp β k).toList

theorem vEq_spec {y z : Value} {p : Prop} (h : vEq y z p) : y = z ∧ p := by
  unfold vEq at h
  split at h
  · split at h
    · obtain ⟨h1, h2⟩ := side_iff.1 h
      obtain ⟨h3, h4⟩ := side_iff.1 h2
      subst h1 h3
      exact ⟨rfl, h4⟩
    · exact h.elim
  · split at h
    · obtain ⟨h1, h2⟩ := side_iff.1 h
      subst h1
      exact ⟨rfl, h2⟩
    · exact h.elim
  · exact side_iff.1 h

theorem mat_L (hI : Inv cx β hp w) {x : LV} {d : DL} {v : Value} {ks : List Nat} {K : List Nat → Prop} (hx : LC cx β x v) (h : matL hp x d ks K) : ∃ ks', K ks' ∧ ∃ bs, frL w cx.w0.heap.size d v bs ∧ (bs.Nodup ∧ ∀ b ∈ bs, ∃ k, k ∉ ks ∧ k ∈ ks' ∧ ownB hp β k = some b) ∧ ∀ k ∈ ks, k ∈ ks' := by
  unfold matL at h
  split at h
  · split at h
    · obtain ⟨rfl, h1⟩ := vEq_spec h
      obtain ⟨h2, rfl⟩ := hx
      exact ⟨ks, h1, [], ⟨rfl, h2, rfl⟩, ⟨by simp, fun b hb => by cases hb⟩, fun k hk => hk⟩
    · exact h.elim
  · split at h
    · rename_i k ver
      obtain ⟨E', l', h1, h2⟩ := rowK_spec h
      obtain ⟨h3, h4⟩ := side_iff.1 h2
      obtain ⟨h5, h6⟩ := side_iff.1 h4
      obtain ⟨h7, h8⟩ := side_iff.1 h6
      have hE := Nat.eq_of_beq_eq_true h5
      subst hE h7
      obtain ⟨v1, r2, r3, r4⟩ := row_own hI h1
      have := s_val (cx := cx) hx r2
      subst this
      have hk : k ∉ ks := fun e => by rw [memN_iff.2 e] at h3; cases h3
      refine ⟨_, h8, v.ownBlock.toList, ⟨r3, r4, rfl⟩, ⟨?_, fun b hb => ⟨k, hk, by simp, ?_⟩⟩, fun k' hk' => by simp [hk']⟩
      · cases v.ownBlock <;> simp
      · rw [ownB_of h1 r2]
        simpa [ownE] using hb
    · obtain ⟨h1, h2⟩ := side_iff.1 h
      obtain ⟨_, rfl⟩ := hx
      rename_i E l _ _
      refine ⟨ks, h2, [], ⟨?_, by omega, rfl⟩, ⟨by simp, fun b hb => by cases hb⟩, fun k hk => hk⟩
      have he : l.enc = [] := List.eq_nil_of_length_eq_zero (by rw [l.enc_len, h1]; simp)
      rw [h1, he]
      exact World.ownsRow_nil _ _ _ _
    · exact h.elim

/-- The blocks of one part do not meet those of another. -/
theorem nodup_app (hI : Inv cx β hp w) {ks ks1 ks2 : List Nat} {b1 b2 : List Nat} (h1 : b1.Nodup ∧ ∀ b ∈ b1, ∃ k, k ∉ ks ∧ k ∈ ks1 ∧ ownB hp β k = some b) (h2 : b2.Nodup ∧ ∀ b ∈ b2, ∃ k, k ∉ ks1 ∧ k ∈ ks2 ∧ ownB hp β k = some b) (m1 : ∀ k ∈ ks, k ∈ ks1) (m2 : ∀ k ∈ ks1, k ∈ ks2) :
    (b1 ++ b2).Nodup ∧ ∀ b ∈ b1 ++ b2, ∃ k, k ∉ ks ∧ k ∈ ks2 ∧ ownB hp β k = some b := by
  refine ⟨List.nodup_append.2 ⟨h1.1, h2.1, fun x hx y hy e => ?_⟩, fun b hb => ?_⟩
  · subst e
    obtain ⟨k, _, k1, k2⟩ := h1.2 x hx
    obtain ⟨k', k3, _, k4⟩ := h2.2 x hy
    have := hI.dis k k' x k2 k4
    subst this
    exact k3 k1
  · rcases List.mem_append.1 hb with hb | hb
    · obtain ⟨k, k1, k2, k3⟩ := h1.2 b hb
      exact ⟨k, k1, m2 k k2, k3⟩
    · obtain ⟨k, k1, k2, k3⟩ := h2.2 b hb
      exact ⟨k, fun e => k1 (m1 k e), k2, k3⟩

theorem mat_Ls (hI : Inv cx β hp w) : ∀ {xs : List LV} {ds : List DL} {vs : List Value} {ks : List Nat} {K : List Nat → Prop}, LCs cx β xs vs → matLs hp xs ds ks K → ∃ ks', K ks' ∧ ∃ bs, frLs w cx.w0.heap.size ds vs bs ∧ (bs.Nodup ∧ ∀ b ∈ bs, ∃ k, k ∉ ks ∧ k ∈ ks' ∧ ownB hp β k = some b) ∧ ∀ k ∈ ks, k ∈ ks'
  | [], [], [], ks, K, _, h => ⟨ks, h, [], rfl, ⟨by simp, fun b hb => by cases hb⟩, fun k hk => hk⟩
  | x :: xs, d :: ds, v :: vs, ks, K, hx, h => by
    obtain ⟨ks1, h1, b1, h2, h3, h4⟩ := mat_L hI hx.1 h
    obtain ⟨ks2, h5, b2, h6, h7, h8⟩ := mat_Ls hI hx.2 h1
    exact ⟨ks2, h5, b1 ++ b2, ⟨b1, b2, rfl, h2, h6⟩, nodup_app hI h3 h7 h4 h8, fun k hk => h8 k (h4 k hk)⟩
  | [], [], _ :: _, _, _, hx, _ => hx.elim
  | _ :: _, _ :: _, [], _, _, hx, _ => hx.elim
  | [], _ :: _, _, _, _, _, h => h.elim
  | _ :: _, [], _, _, _, _, h => h.elim
theorem mat_Ts (hI : Inv cx β hp w) : ∀ {xs : List (LV ⊕ List LV)} {ds : List (DL ⊕ List DL)} {vs : List Value} {ks : List Nat} {K : List Nat → Prop}, TCs cx β xs vs → matTs hp xs ds ks K → ∃ ks', K ks' ∧ ∃ bs, frTs w cx.w0.heap.size ds vs bs ∧ (bs.Nodup ∧ ∀ b ∈ bs, ∃ k, k ∉ ks ∧ k ∈ ks' ∧ ownB hp β k = some b) ∧ ∀ k ∈ ks, k ∈ ks'
  | [], [], [], ks, K, _, h => ⟨ks, h, [], rfl, ⟨by simp, fun b hb => by cases hb⟩, fun k hk => hk⟩
  | .inl x :: xs, .inl d :: ds, v :: vs, ks, K, hx, h => by
    obtain ⟨ks1, h1, b1, h2, h3, h4⟩ := mat_L hI hx.1 h
    obtain ⟨ks2, h5, b2, h6, h7, h8⟩ := mat_Ts hI hx.2 h1
    exact ⟨ks2, h5, b1 ++ b2, ⟨b1, b2, rfl, h2, h6⟩, nodup_app hI h3 h7 h4 h8, fun k hk => h8 k (h4 k hk)⟩
  | .inr x :: xs, .inr d :: ds, v :: vs, ks, K, hx, h => by
    obtain ⟨us, e, hu⟩ := hx.1
    obtain ⟨ks1, h1, b1, h2, h3, h4⟩ := mat_Ls hI hu h
    obtain ⟨ks2, h5, b2, h6, h7, h8⟩ := mat_Ts hI hx.2 h1
    exact ⟨ks2, h5, b1 ++ b2, ⟨b1, b2, rfl, ⟨us, e, h2⟩, h6⟩, nodup_app hI h3 h7 h4 h8, fun k hk => h8 k (h4 k hk)⟩
  | [], [], _ :: _, _, _, hx, _ => hx.elim
  | .inl _ :: _, .inl _ :: _, [], _, _, hx, _ => hx.elim
  | .inr _ :: _, .inr _ :: _, [], _, _, hx, _ => hx.elim
  | [], _ :: _, _, _, _, _, h => by simp [matTs] at h
  | .inl _ :: _, [], _, _, _, _, h => by simp [matTs] at h
  | .inr _ :: _, [], _, _, _, _, h => by simp [matTs] at h
  | .inl _ :: _, .inr _ :: _, _, _, _, _, h => by simp [matTs] at h
  | .inr _ :: _, .inl _ :: _, _, _, _, _, h => by simp [matTs] at h
theorem mat_V (hI : Inv cx β hp w) {r : AV} {d : DV} {v : Value} (hr : AC cx β r v) (h : matV hp r d) : ∃ bs, frV w cx.w0.heap.size d v bs ∧ bs.Nodup := by
  unfold matV at h
  split at h
  · split at h
    · obtain ⟨_, _, bs, h1, h2, _⟩ := mat_L hI hr h
      exact ⟨bs, h1, h2.1⟩
    · exact h.elim
  · split at h
    · obtain ⟨us, e, hu⟩ := hr
      obtain ⟨_, _, bs, h1, h2, _⟩ := mat_Ls hI hu h
      exact ⟨bs, ⟨us, e, h1⟩, h2.1⟩
    · exact h.elim
  · split at h
    · obtain ⟨us, e, hu⟩ := hr
      obtain ⟨_, _, bs, h1, h2, _⟩ := mat_Ts hI hu h
      exact ⟨bs, ⟨us, e, h1⟩, h2.1⟩
    · exact h.elim

/-- A contract by the walk. -/
theorem con_of {T : Tab} {G : Env} {TR : Nat → Tr} {f : FuncId} {fn : Func} {sig : List (Sh ⊕ List Sh)} {S : DA sig → (DV → Prop) → Prop} (hT : TabOk P T) (hM : P.follows .mixedOrders = true) (hG : EnvOk P G) (hfn : P.funcs[f]? = some fn) (hn : Nat.ble sig.length fn.ntmps = true)
    (h : ∀ (x : DA sig) (K : DV → Prop), S x K → bdA sig x → frzAK sig x fun vs0 => callP T G 0 [] TR fn vs0 [] fun r hp => ∃ d, matV hp r d ∧ K d) : Con P f sig S := by
  intro x K hS w vs hr
  obtain ⟨hb, ha⟩ := frz_bdA (β := []) hr
  have hI : Inv ⟨w, []⟩ [] [] w := ⟨Tch.refl _ _, rfl, fun k t e h => by simp at h, fun i k b h => by simp [ownB] at h⟩
  refine Calls.mono (call_spec (W0 := []) hT hG hM hfn hI ha (by rw [frzA_len]; simpa using hn) (frzAK_iff.1 (h x K hS hb))) ?_
  rintro e w' ⟨v, r, hp', β', rfl, ⟨d, h1, h2⟩, h3, hI', _⟩
  obtain ⟨bs, h4, h5⟩ := mat_V hI' h3 h1
  exact ⟨d, v, rfl, h2, ⟨hI'.kp.os, hI'.kp.tape, hI'.kp.output, hI'.kp.size, fun b hb => hI'.kp.block b hb (by simp)⟩, bs, h4, h5⟩

/-! ### The contract at a call -/
theorem dec_L (hI : Inv cx β hp w) {s : Sh} {x : LV} {v : Value} {K : s.T → Prop} (hx : LC cx β x v) (h : decL hp s x K) : ∃ y, K y ∧ rdL w s y v := by
  cases s <;> simp only [decL] at h
  · split at h
    · exact ⟨_, h, hx.2⟩
    · exact h.elim
  · split at h
    · exact ⟨_, h, hx.2⟩
    · exact h.elim
  all_goals
    obtain ⟨l, h1, h2, h3⟩ := read_spec (a := .l x) hI hx h
    split at h1
    · exact ⟨_, h1, h2, h3⟩
    · exact h1.elim
theorem dec_s (hI : Inv cx β hp w) : ∀ {ss : List Sh} {xs : List LV} {vs : List Value} {K : HL ss → Prop}, LCs cx β xs vs → decs hp ss xs K → ∃ y, K y ∧ rds w ss y vs
  | [], [], [], K, _, h => ⟨(), h, trivial⟩
  | s :: r, x :: xs, v :: vs, K, hx, h => by
    obtain ⟨a, h1, h2⟩ := dec_L hI hx.1 h
    obtain ⟨b, h3, h4⟩ := dec_s hI hx.2 h1
    exact ⟨(a, b), h3, h2, h4⟩
  | [], [], _ :: _, _, hx, _ => hx.elim
  | _ :: _, _ :: _, [], _, hx, _ => hx.elim
  | [], _ :: _, _, _, _, h => h.elim
  | _ :: _, [], _, _, _, h => h.elim
theorem dec_A (hI : Inv cx β hp w) : ∀ {sig : List (Sh ⊕ List Sh)} {xs : List AV} {vs : List Value} {K : DA sig → Prop}, ACs cx β xs vs → decA hp sig xs K → ∃ y, K y ∧ rdA w sig y vs
  | [], [], [], K, _, h => ⟨(), h, trivial⟩
  | .inl s :: r, .l x :: xs, v :: vs, K, hx, h => by
    obtain ⟨a, h1, h2⟩ := dec_L hI hx.1 h
    obtain ⟨b, h3, h4⟩ := dec_A hI hx.2 h1
    exact ⟨(a, b), h3, h2, h4⟩
  | .inr s :: r, .a x :: xs, v :: vs, K, hx, h => by
    obtain ⟨us, e, hu⟩ := hx.1
    obtain ⟨a, h1, h2⟩ := dec_s hI hu h
    obtain ⟨b, h3, h4⟩ := dec_A hI hx.2 h1
    exact ⟨(a, b), h3, ⟨us, e, h2⟩, h4⟩
  | [], [], _ :: _, _, hx, _ => hx.elim
  | [], _ :: _, _, _, _, h => by simp [decA] at h
  | .inl _ :: _, [], _, _, _, h => by simp [decA] at h
  | .inr _ :: _, [], _, _, _, h => by simp [decA] at h
  | .inl _ :: _, .a _ :: _, _, _, _, h => by simp [decA] at h
  | .inl _ :: _, .t _ :: _, _, _, _, h => by simp [decA] at h
  | .inl _ :: _, .j :: _, _, _, _, h => by simp [decA] at h
  | .inr _ :: _, .l _ :: _, _, _, _, h => by simp [decA] at h
  | .inr _ :: _, .t _ :: _, _, _, _, h => by simp [decA] at h
  | .inr _ :: _, .j :: _, _, _, _, h => by simp [decA] at h
  | .inl _ :: _, .l _ :: _, [], _, hx, _ => hx.elim
  | .inr _ :: _, .a _ :: _, [], _, hx, _ => hx.elim

/-- How far the results of a call have been taken in: U are the blocks of the lists that have come. -/
structure Imp (cx : Cx) (B : Nat) (w' : World) (β : List En) (hp : Hp) (U : List Nat) (β' : List En) (hp' : Hp) : Prop where
  inv : Inv cx β' hp' w'
  len : hp.length ≤ hp'.length
  pre : ∀ k, k < hp.length → hp'[k]? = hp[k]? ∧ β'[k]? = β[k]?
  own : ∀ k b, ownB hp' β' k = some b → ownB hp β k = some b ∨ (B ≤ b ∧ b ∈ U)

theorem ext_app (β : List En) (e : En) : Ext β (β ++ [e]) := by
  intro k e0 he
  have hlt : k < β.length := (List.getElem?_eq_some_iff.1 he).1
  have hsame : (β ++ [e])[k]? = some e0 := by rw [List.getElem?_append_left hlt]; exact he
  cases e0 with
  | b n => exact hsame
  | r v ver => exact ⟨v, ver, hsame, Nat.le_refl _, fun _ => rfl⟩
  | x => trivial

theorem own_app {k b : Nat} {x : HB} {e : En} (hl : β.length = hp.length) (h : ownB (hp ++ [x]) (β ++ [e]) k = some b) : ownB hp β k = some b ∨ (k = hp.length ∧ ownE x e = some b) := by
  obtain ⟨t, e1, h1, h2, h3⟩ := ownB_some h
  by_cases hk : k < hp.length
  · rw [List.getElem?_append_left hk] at h1
    rw [List.getElem?_append_left (by omega)] at h2
    exact .inl (by rw [ownB_of h1 h2]; exact h3)
  · have hk2 : k = hp.length := by
      have := (List.getElem?_eq_some_iff.1 h1).1
      simp at this
      omega
    subst hk2
    simp only [List.getElem?_concat_length, Option.some.injEq] at h1
    rw [← hl] at h2
    simp only [List.getElem?_concat_length, Option.some.injEq] at h2
    subst h1 h2
    exact .inr ⟨rfl, h3⟩

theorem Imp.add {B : Nat} {w' : World} {U : List Nat} {β1 : List En} {hp1 : Hp} (hlt : ∀ k b, ownB hp β k = some b → b < B) (h : Imp cx B w' β hp U β1 hp1) (hcx : cx.w0.heap.size ≤ B) {E : TypeId} {l : EL} {v : Value} (ho : w'.ownsRow B E l.sz v l.len l.enc) (hm : l.len ≤ maxL) (hU : ∀ b ∈ v.ownBlock.toList, b ∉ U) :
    Imp cx B w' β hp (U ++ v.ownBlock.toList) (β1 ++ [.r v 0]) (hp1 ++ [.r 0 E l]) := by
  have hl := h.inv.len
  have new : ∀ k b, ownB (hp1 ++ [.r 0 E l]) (β1 ++ [.r v 0]) k = some b → ownB hp1 β1 k = some b ∨ (k = hp1.length ∧ v.ownBlock = some b) := fun k b hb => own_app hl hb
  have clash : ∀ k b, ownB hp1 β1 k = some b → v.ownBlock = some b → False := fun k b h1 h2 => by
    have hb := ho.lt b h2
    rcases h.own k b h1 with h3 | h3
    · have := hlt k b h3; omega
    · exact hU b (by simp [h2]) h3.2
  refine ⟨⟨h.inv.kp, by simp [hl], fun k t e g1 g2 => ?_, fun i j b g1 g2 => ?_⟩, by have := h.len; simp; omega, fun k hk => ?_, fun k b hb => ?_⟩
  · by_cases hk : k < hp1.length
    · rw [List.getElem?_append_left hk] at g1
      rw [List.getElem?_append_left (by omega)] at g2
      exact (h.inv.ent k t e g1 g2).keep (ext_app _ _) fun _ _ => rfl
    · have hk2 : k = hp1.length := by
        have := (List.getElem?_eq_some_iff.1 g1).1
        simp at this
        omega
      subst hk2
      simp only [List.getElem?_concat_length, Option.some.injEq] at g1
      rw [← hl] at g2
      simp only [List.getElem?_concat_length, Option.some.injEq] at g2
      subst g1 g2
      exact ⟨rfl, owns_base ho hcx, hm⟩
  · rcases new i b g1 with h1 | ⟨rfl, h1⟩ <;> rcases new j b g2 with h2 | ⟨rfl, h2⟩
    · exact h.inv.dis i j b h1 h2
    · exact (clash i b h1 h2).elim
    · exact (clash j b h2 h1).elim
    · rfl
  · obtain ⟨h1, h2⟩ := h.pre k hk
    have := h.len
    exact ⟨(List.getElem?_append_left (by omega)).trans h1, (List.getElem?_append_left (by omega)).trans h2⟩
  · rcases new k b hb with h1 | ⟨rfl, h1⟩
    · exact (h.own k b h1).imp id fun h2 => ⟨h2.1, by simp [h2.2]⟩
    · exact .inr ⟨(ho.lt b h1).1, by simp [h1]⟩

theorem imp_L {B : Nat} {w' : World} (hlt : ∀ k b, ownB hp β k = some b → b < B) (hcx : cx.w0.heap.size ≤ B) {U : List Nat} {β1 : List En} {hp1 : Hp} (h : Imp cx B w' β hp U β1 hp1) {d : DL} {v : Value} {bs : List Nat} (hf : frL w' B d v bs) (hU : ∀ b ∈ bs, b ∉ U) {K : LV → Hp → Prop} (hk : impL hp1 d K) :
    ∃ x hp2 β2, K x hp2 ∧ LC cx β2 x v ∧ Imp cx B w' β hp (U ++ bs) β2 hp2 ∧ Ext β1 β2 := by
  cases d with
  | v y =>
    obtain ⟨rfl, h1, rfl⟩ := hf
    exact ⟨_, hp1, β1, hk, ⟨h1, rfl⟩, by simpa using h, Ext.refl _⟩
  | s E l =>
    obtain ⟨h1, h2, rfl⟩ := hf
    have h3 := endH_iff.1 hk
    rw [Nat.zero_add] at h3
    have hone : v.oneCell' = true := by obtain ⟨_, _, rfl⟩ := owns_form h1; rfl
    exact ⟨_, _, β1 ++ [.r v 0], h3, ⟨hone, v, 0, by rw [← h.inv.len]; simp, Nat.le_refl _, fun _ => rfl⟩, h.add hlt hcx h1 h2 hU, ext_app _ _⟩

theorem imp_Ls {B : Nat} {w' : World} (hlt : ∀ k b, ownB hp β k = some b → b < B) (hcx : cx.w0.heap.size ≤ B) : ∀ {ds : List DL} {vs : List Value} {bs U : List Nat} {β1 : List En} {hp1 : Hp} {K : List LV → Hp → Prop}, Imp cx B w' β hp U β1 hp1 → frLs w' B ds vs bs → bs.Nodup → (∀ b ∈ bs, b ∉ U) → impLs hp1 ds K →
    ∃ xs hp2 β2, K xs hp2 ∧ LCs cx β2 xs vs ∧ Imp cx B w' β hp (U ++ bs) β2 hp2 ∧ Ext β1 β2
  | [], [], bs, U, β1, hp1, K, h, hf, _, _, hk => by
    have e : bs = [] := hf
    subst e
    exact ⟨[], hp1, β1, hk, trivial, by simpa using h, Ext.refl _⟩
  | d :: ds, v :: vs, bs, U, β1, hp1, K, h, hf, hn, hU, hk => by
    obtain ⟨b1, b2, rfl, h1, h2⟩ := hf
    obtain ⟨n1, n2, n3⟩ := List.nodup_append.1 hn
    obtain ⟨x, hp2, β2, h3, h4, h5, h6⟩ := imp_L hlt hcx h h1 (fun b hb => hU b (by simp [hb])) hk
    obtain ⟨xs, hp3, β3, h7, h8, h9, h10⟩ := imp_Ls hlt hcx h5 h2 n2 (fun b hb e => by
      rcases List.mem_append.1 e with e | e
      · exact hU b (by simp [hb]) e
      · exact n3 b e b hb rfl) h3
    exact ⟨x :: xs, hp3, β3, h7, ⟨h4.ext h10, h8⟩, by simpa [List.append_assoc] using h9, h6.trans h10⟩
  | [], _ :: _, _, _, _, _, _, _, hf, _, _, _ => hf.elim
  | _ :: _, [], _, _, _, _, _, _, hf, _, _, _ => hf.elim
theorem imp_Ts {B : Nat} {w' : World} (hlt : ∀ k b, ownB hp β k = some b → b < B) (hcx : cx.w0.heap.size ≤ B) : ∀ {ds : List (DL ⊕ List DL)} {vs : List Value} {bs U : List Nat} {β1 : List En} {hp1 : Hp} {K : List (LV ⊕ List LV) → Hp → Prop}, Imp cx B w' β hp U β1 hp1 → frTs w' B ds vs bs → bs.Nodup → (∀ b ∈ bs, b ∉ U) → impTs hp1 ds K →
    ∃ xs hp2 β2, K xs hp2 ∧ TCs cx β2 xs vs ∧ Imp cx B w' β hp (U ++ bs) β2 hp2 ∧ Ext β1 β2
  | [], [], bs, U, β1, hp1, K, h, hf, _, _, hk => by
    have e : bs = [] := hf
    subst e
    exact ⟨[], hp1, β1, hk, trivial, by simpa using h, Ext.refl _⟩
  | .inl d :: ds, v :: vs, bs, U, β1, hp1, K, h, hf, hn, hU, hk => by
    obtain ⟨b1, b2, rfl, h1, h2⟩ := hf
    obtain ⟨n1, n2, n3⟩ := List.nodup_append.1 hn
    obtain ⟨x, hp2, β2, h3, h4, h5, h6⟩ := imp_L hlt hcx h h1 (fun b hb => hU b (by simp [hb])) hk
    obtain ⟨xs, hp3, β3, h7, h8, h9, h10⟩ := imp_Ts hlt hcx h5 h2 n2 (fun b hb e => by
      rcases List.mem_append.1 e with e | e
      · exact hU b (by simp [hb]) e
      · exact n3 b e b hb rfl) h3
    exact ⟨.inl x :: xs, hp3, β3, h7, ⟨h4.ext h10, h8⟩, by simpa [List.append_assoc] using h9, h6.trans h10⟩
  | .inr d :: ds, v :: vs, bs, U, β1, hp1, K, h, hf, hn, hU, hk => by
    obtain ⟨b1, b2, rfl, ⟨us, e, h1⟩, h2⟩ := hf
    obtain ⟨n1, n2, n3⟩ := List.nodup_append.1 hn
    obtain ⟨x, hp2, β2, h3, h4, h5, h6⟩ := imp_Ls hlt hcx h h1 n1 (fun b hb => hU b (by simp [hb])) hk
    obtain ⟨xs, hp3, β3, h7, h8, h9, h10⟩ := imp_Ts hlt hcx h5 h2 n2 (fun b hb e => by
      rcases List.mem_append.1 e with e | e
      · exact hU b (by simp [hb]) e
      · exact n3 b e b hb rfl) h3
    exact ⟨.inr x :: xs, hp3, β3, h7, ⟨⟨us, e, h4.ext h10⟩, h8⟩, by simpa [List.append_assoc] using h9, h6.trans h10⟩
  | [], _ :: _, _, _, _, _, _, _, hf, _, _, _ => hf.elim
  | .inl _ :: _, [], _, _, _, _, _, _, hf, _, _, _ => hf.elim
  | .inr _ :: _, [], _, _, _, _, _, _, hf, _, _, _ => hf.elim

theorem imp_W {B : Nat} {w' : World} (hlt : ∀ k b, ownB hp β k = some b → b < B) (hcx : cx.w0.heap.size ≤ B) (hI' : Inv cx β hp w') {d : DV} {v : Value} {bs : List Nat} (hf : frV w' B d v bs) (hn : bs.Nodup) {K : AV → Hp → Prop} (hk : impV hp d K) :
    ∃ r hp' β' U, K r hp' ∧ AC cx β' r v ∧ Imp cx B w' β hp U β' hp' ∧ Ext β β' := by
  have h0 : Imp cx B w' β hp [] β hp := ⟨hI', Nat.le_refl _, fun _ _ => ⟨rfl, rfl⟩, fun _ _ h => .inl h⟩
  cases d with
  | l x =>
    obtain ⟨y, hp2, β2, h1, h2, h3, h4⟩ := imp_L (K := fun y hp' => K (.l y) hp') hlt hcx h0 hf (fun _ _ h => by cases h) hk
    exact ⟨.l y, hp2, β2, _, h1, h2, h3, h4⟩
  | a cs =>
    obtain ⟨us, e, hf⟩ := hf
    obtain ⟨y, hp2, β2, h1, h2, h3, h4⟩ := imp_Ls (K := fun y hp' => K (.a y) hp') hlt hcx h0 hf hn (fun _ _ h => by cases h) hk
    exact ⟨.a y, hp2, β2, _, h1, ⟨us, e, h2⟩, h3, h4⟩
  | t cs =>
    obtain ⟨us, e, hf⟩ := hf
    obtain ⟨y, hp2, β2, h1, h2, h3, h4⟩ := imp_Ts (K := fun y hp' => K (.t y) hp') hlt hcx h0 hf hn (fun _ _ h => by cases h) hk
    exact ⟨.t y, hp2, β2, _, h1, ⟨us, e, h2⟩, h3, h4⟩

theorem imp_V {w' : World} (hI : Inv cx β hp w) (hb : Below w.heap.size w w') {d : DV} {v : Value} {bs : List Nat} (hf : frV w' w.heap.size d v bs) (hn : bs.Nodup) {K : AV → Hp → Prop} (hk : impV hp d K) {S : Nat → Prop} :
    ∃ r hp' β', K r hp' ∧ AC cx β' r v ∧ Out cx β hp w S β' hp' w' := by
  obtain ⟨r, hp', β', U, h1, h2, h, hx⟩ := imp_W (fun k b h => (hI.lt h).1) hI.kp.size (hI.stay hb) hf hn hk
  refine ⟨r, hp', β', h1, h2, h.inv, hx, fun k b hb => (h.own k b hb).imp id And.left, hb.size, h.len, fun k hk _ => ?_, fun b hb' _ => hb.block b hb'⟩
  unfold ownB
  rw [(h.pre k hk).1, (h.pre k hk).2]

/-- A contract serves the walk. -/
theorem cs_ok {f : FuncId} {sig : List (Sh ⊕ List Sh)} {S : DA sig → (DV → Prop) → Prop} (hfn : (P.funcs[f]?).map (fun fn => (fn.name == "runtime.NumGoroutine", fn.body.isNone)) = some (false, false)) (h : Con P f sig S) : CSok P f (csOf sig S) := by
  refine ⟨hfn, fun xs hp K hS cx β w vs hI ha => ?_⟩
  obtain ⟨x, h1, h2⟩ := dec_A hI ha hS
  refine Calls.mono (h x _ h1 w vs h2) ?_
  rintro e w' ⟨d, v, rfl, h3, hb, bs, h4, h5⟩
  obtain ⟨r, hp', β', h6, h7, h8⟩ := imp_V hI hb h4 h5 h3
  exact ⟨v, r, hp', β', rfl, h6, h7, h8⟩

end
end Ab
end Go.Proofs.Ytacjfkodndkaeaa
