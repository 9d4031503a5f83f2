/-
  What abstract values stand for, and what becomes of it when the memory changes. Plain lemmas; no condition.
-/
import Derived.Test.YtacjfkodndkaeaaAbs
import Derived.Laws.CopyRow
import Derived.Laws.Cells
import Derived.Laws.Rows
namespace Go.Proofs.Ytacjfkodndkaeaa
open Go.RowKit
namespace Ab

/-! ### The walk's words, read -/
theorem side_iff {p q : Prop} : Side p q ↔ p ∧ q := ⟨fun ⟨a, b⟩ => ⟨a, b⟩, fun ⟨a, b⟩ => ⟨a, b⟩⟩
theorem end_iff {p : Prop} : End p ↔ p := ⟨fun ⟨a⟩ => a, fun a => ⟨a⟩⟩
theorem br_iff {t : Bool} {p q : Prop} : Br t p q ↔ (t = true → p) ∧ (t = false → q) := ⟨fun ⟨a, b⟩ => ⟨a, b⟩, fun ⟨a, b⟩ => ⟨a, b⟩⟩
theorem br_ite {t : Bool} {p q : Prop} : Br t p q ↔ if t then p else q := by
  rw [br_iff]; cases t <;> simp

theorem beqF {a b : Nat} (h : ¬ a = b) : Nat.beq a b = false := by
  cases hb : Nat.beq a b with
  | false => rfl
  | true => exact absurd (Nat.eq_of_beq_eq_true hb) h
def tyL : Tab → TypeId → Option TI
  | [], _ => none
  | (t', i) :: r, t => if t' = t then some i else tyL r t
theorem tyK_iff {T : Tab} {t : TypeId} {K : TI → Prop} : tyK T t K ↔ ∃ i, tyL T t = some i ∧ K i := by
  induction T with
  | nil => simp [tyK, tyL]
  | cons x r ih =>
    obtain ⟨t', i⟩ := x
    by_cases h : t' = t
    · subst h; simp [tyK, tyL]
    · have : Nat.beq t' t = false := beqF h
      simp only [tyK, tyL, this, if_neg h, ih]
theorem getF_iff {fr : Fr} {n : Nat} {K : AV → Prop} : getF fr n K ↔ ∃ x, fr[n]? = some x ∧ K x := by
  induction fr generalizing n with
  | nil => simp [getF]
  | cons a r ih => cases n <;> simp [getF, ih]
theorem setF_iff {fr : Fr} {n : Nat} {x : AV} {K : Fr → Prop} : setF fr n x K ↔ n < fr.length ∧ K (fr.set n x) := by
  induction fr generalizing n K with
  | nil => simp [setF]
  | cons a r ih => cases n <;> simp [setF, ih]
theorem getH_iff {hp : Hp} {n : Nat} {K : HB → Prop} : getH hp n K ↔ ∃ x, hp[n]? = some x ∧ K x := by
  induction hp generalizing n with
  | nil => simp [getH]
  | cons a r ih => cases n <;> simp [getH, ih]
theorem setH_iff {hp : Hp} {n : Nat} {x : HB} {K : Hp → Prop} : setH hp n x K ↔ n < hp.length ∧ K (hp.set n x) := by
  induction hp generalizing n K with
  | nil => simp [setH]
  | cons a r ih => cases n <;> simp [setH, ih]
theorem endH_iff {hp : Hp} {k : Nat} {x : HB} {K : Nat → Hp → Prop} : endH hp k x K ↔ K (k + hp.length) (hp ++ [x]) := by
  induction hp generalizing k K with
  | nil => simp [endH]
  | cons a r ih => simp [endH, ih, Nat.add_assoc, Nat.add_comm 1]
theorem dropK_iff {cs : List LV} {n : Nat} {K : List LV → Prop} : dropK cs n K ↔ n ≤ cs.length ∧ K (cs.drop n) := by
  induction cs generalizing n with
  | nil => cases n <;> simp [dropK]
  | cons a r ih => cases n <;> simp [dropK, ih]
theorem takeK_iff {cs : List LV} {n : Nat} {K : List LV → Prop} : takeK cs n K ↔ n ≤ cs.length ∧ K (cs.take n) := by
  induction cs generalizing n K with
  | nil => cases n <;> simp [takeK]
  | cons a r ih => cases n <;> simp [takeK, ih]
theorem overK_iff {cs vs : List LV} {K : List LV → Prop} : overK cs vs K ↔ vs.length ≤ cs.length ∧ K (vs ++ cs.drop vs.length) := by
  induction vs generalizing cs K with
  | nil => cases cs <;> simp [overK]
  | cons v vs ih => cases cs <;> simp [overK, ih]
theorem replK_iff {cs vs : List LV} {n : Nat} {K : List LV → Prop} : replK cs n vs K ↔ n + vs.length ≤ cs.length ∧ K (cs.take n ++ vs ++ cs.drop (n + vs.length)) := by
  induction cs generalizing n K with
  | nil =>
    cases n
    · simp [replK, overK_iff]
    · simp [replK]
  | cons a r ih =>
    cases n
    · simp [replK, overK_iff]
    · simp [replK, ih, Nat.add_right_comm]
theorem lenK_iff {cs : List LV} {n : Nat} {p : Prop} : lenK cs n p ↔ cs.length = n ∧ p := by
  induction cs generalizing n with
  | nil => cases n <;> simp [lenK]
  | cons a r ih => cases n <;> simp [lenK, ih]
theorem fldK_iff {fs : List (Nat × Nat × Bool)} {n : Nat} {K : Nat → Nat → Bool → Prop} : fldK fs n K ↔ ∃ o s g, fs[n]? = some (o, s, g) ∧ K o s g := by
  induction fs generalizing n with
  | nil => simp [fldK]
  | cons a r ih =>
    obtain ⟨o, s, g⟩ := a
    cases n with
    | zero =>
      simp only [fldK, List.getElem?_cons_zero, Option.some.injEq, Prod.mk.injEq]
      exact ⟨fun h => ⟨_, _, _, ⟨rfl, rfl, rfl⟩, h⟩, fun ⟨_, _, _, ⟨rfl, rfl, rfl⟩, h⟩ => h⟩
    | succ n => simp only [fldK, List.getElem?_cons_succ, ih]
theorem natK_iff {n : Nat} {K : Nat → Prop} : natK n K ↔ K n := by
  induction n generalizing K with
  | zero => simp [natK]
  | succ n ih => simp [natK, ih]
theorem natsK_iff {l : List Nat} {K : List Nat → Prop} : natsK l K ↔ K l := by
  induction l generalizing K with
  | nil => simp [natsK]
  | cons a r ih => simp [natsK, natK_iff, ih]
theorem getO_iff {l : List Oper} {n : Nat} {K : Oper → Prop} : getO l n K ↔ ∃ x, l[n]? = some x ∧ K x := by
  induction l generalizing n with
  | nil => simp [getO]
  | cons a r ih => cases n <;> simp [getO, ih]
theorem lenH_eq (hp : Hp) : lenH hp = hp.length := by
  induction hp with
  | nil => rfl
  | cons a r ih => simp [lenH, ih]
theorem rsvK_iff {n : Nat} {hp : Hp} {K : Hp → Prop} : rsvK n hp K ↔ K (hp ++ List.replicate n .d) := by
  induction n generalizing hp with
  | zero => simp [rsvK]
  | succ n ih => simp [rsvK, endH_iff, ih, List.replicate_succ]
theorem csK_spec {G : Env} {f : Nat} {K : CS → Prop} (h : csK G f K) : ∃ c, (f, c) ∈ G ∧ K c := by
  induction G with
  | nil => simp [csK] at h
  | cons a r ih =>
    obtain ⟨f', c⟩ := a
    cases hb : Nat.beq f' f with
    | true =>
      have : f' = f := by simpa using hb
      subst this
      simp only [csK, hb] at h
      exact ⟨c, by simp, h⟩
    | false =>
      simp only [csK, hb] at h
      obtain ⟨c', h1, h2⟩ := ih h
      exact ⟨c', by simp [h1], h2⟩
theorem csK_mono {G : Env} {f : Nat} {K K' : CS → Prop} (h : csK G f K) (hk : ∀ c, (f, c) ∈ G → K c → K' c) : csK G f K' := by
  induction G with
  | nil => simp [csK] at h
  | cons a r ih =>
    obtain ⟨f', c⟩ := a
    cases hb : Nat.beq f' f with
    | true =>
      have : f' = f := by simpa using hb
      subst this
      simp only [csK, hb] at h ⊢
      exact hk c (by simp) h
    | false =>
      simp only [csK, hb] at h ⊢
      exact ih h fun c hc => hk c (by simp [hc])
theorem memN_iff {l : List Nat} {k : Nat} : memN l k = true ↔ k ∈ l := by
  induction l with
  | nil => simp [memN]
  | cons a r ih =>
    cases hb : Nat.beq a k with
    | true => have : a = k := by simpa using hb
              subst this; simp [memN]
    | false => have : ¬ a = k := by intro e; subst e; simp at hb
               simp [memN, hb, ih, Ne.symm this]

/-! ### What they stand for -/

/-- What is fixed while a function runs: the world in which it began; the blocks that it was lent. -/
structure Cx where
  w0 : World
  M : List Nat

/-- Beyond the blocks of S, what was there is there. -/
structure Tch (S : Nat → Prop) (w w' : World) : Prop where
  os : w'.os = w.os
  tape : w'.tape = w.tape
  output : w'.output = w.output
  size : w.heap.size ≤ w'.heap.size
  block : ∀ b, b < w.heap.size → ¬ S b → w'.heap[b]? = w.heap[b]?

theorem Tch.refl (S : Nat → Prop) (w : World) : Tch S w w := ⟨rfl, rfl, rfl, Nat.le_refl _, fun _ _ _ => rfl⟩
theorem Tch.trans {S : Nat → Prop} {a b c : World} (h : Tch S a b) (k : Tch S b c) : Tch S a c :=
  ⟨k.os.trans h.os, k.tape.trans h.tape, k.output.trans h.output, Nat.le_trans h.size k.size, fun i hi hs => (k.block i (Nat.lt_of_lt_of_le hi h.size) hs).trans (h.block i hi hs)⟩
theorem Tch.mono {S S' : Nat → Prop} {w w' : World} (h : Tch S w w') (hs : ∀ b, b < w.heap.size → S b → S' b) : Tch S' w w' :=
  ⟨h.os, h.tape, h.output, h.size, fun b hb hn => h.block b hb fun e => hn (hs b hb e)⟩
theorem Tch.of_below {S : Nat → Prop} {w w' : World} (h : Below w.heap.size w w') : Tch S w w' := ⟨h.os, h.tape, h.output, h.size, fun b hb _ => h.block b hb⟩
theorem Tch.of_grown {w w' : World} {row : Option Nat} (h : w.grownBy w' row) : Tch (fun b => row = some b) w w' :=
  ⟨h.os, h.tape, h.output, h.size, fun b hb hn => h.block b hb fun e => hn e.symm⟩
theorem Tch.drew {S : Nat → Prop} {w w' : World} (h : Tch S w w') : Tch S w w'.drew := ⟨h.os, h.tape, h.output, h.size, h.block⟩
theorem Tch.below {w w' : World} (h : Tch (fun _ => False) w w') : Below w.heap.size w w' := ⟨h.os, h.tape, h.output, h.size, fun b hb => h.block b hb id⟩

/-- A list that came in, in memory that nobody writes. -/
def FZ (cx : Cx) (v : Value) (l : EL) : Prop := Sl cx.w0 l.sz v l.len l.enc ∧ l.len ≤ maxL ∧ (l.len ≠ 0 → ∀ b, v.ownBlock = some b → b ∉ cx.M)

/-- Where a block or a list of the call's own lies. -/
inductive En where
  | b (n : Nat)
  | r (v : Value) (ver : Nat)
  | x

/-- v is the part of v1 from i on, n elements of sz cells. -/
def PartOf (v1 : Value) (sz i n : Nat) (v : Value) : Prop := ∃ a c, v = .slice a n c ∧ (a = none → c = 0) ∧
  (0 < n → ∃ g n1 c1, v1 = .slice (some ⟨g, 0, none⟩) n1 c1 ∧ a = some ⟨g, i * sz, none⟩ ∧ n ≤ c ∧ c + i ≤ c1)

def LC (cx : Cx) (β : List En) (x : LV) (v : Value) : Prop := v.oneCell' = true ∧ match x with
  | .v y => v = y
  | .p k off => ∃ n, β[k]? = some (.b n) ∧ v = .pointer (some ⟨n, off, none⟩)
  | .s k ver => ∃ v1 ver1, β[k]? = some (.r v1 ver1) ∧ ver ≤ ver1 ∧ (ver = ver1 → v = v1)
  | .w k ver sz i n => ∃ v1 ver1, β[k]? = some (.r v1 ver1) ∧ ver ≤ ver1 ∧ (ver = ver1 → PartOf v1 sz i n v)
  | .f l => FZ cx v l
  | .fx u l => v = u ∧ FZ cx v l
  | .e k ver sz i off => ∃ v1 ver1, β[k]? = some (.r v1 ver1) ∧ ver ≤ ver1 ∧ (ver = ver1 → ∃ g n1 c1, v1 = .slice (some ⟨g, 0, none⟩) n1 c1 ∧ v = .pointer (some ⟨g, i * sz + off, none⟩))
  | .o T k => ∃ n, β[k]? = some (.b n) ∧ v = (match T with
    | none => .chan (some n)
    | some t => .iface t (.pointer (some ⟨n, 0, none⟩)))
  | .g l i off => ∃ v1 g o n c, FZ cx v1 l ∧ v1 = .slice (some ⟨g, o, none⟩) n c ∧ v = .pointer (some ⟨g, o + (i * l.sz + off), none⟩)
  | .j => True

def LCs (cx : Cx) (β : List En) : List LV → List Value → Prop
  | [], [] => True
  | x :: xs, v :: vs => LC cx β x v ∧ LCs cx β xs vs
  | _, _ => False
def TCs (cx : Cx) (β : List En) : List (LV ⊕ List LV) → List Value → Prop
  | [], [] => True
  | .inl x :: xs, v :: vs => LC cx β x v ∧ TCs cx β xs vs
  | .inr cs :: xs, v :: vs => (∃ us, v = .agg us ∧ LCs cx β cs us.toList) ∧ TCs cx β xs vs
  | _, _ => False
def AC (cx : Cx) (β : List En) (x : AV) (v : Value) : Prop := match x with
  | .l y => LC cx β y v
  | .a cs => ∃ us, v = .agg us ∧ LCs cx β cs us.toList
  | .t xs => ∃ vs, v = .tuple vs ∧ TCs cx β xs vs.toList
  | .j => True
def ACs (cx : Cx) (β : List En) : List AV → List Value → Prop
  | [], [] => True
  | x :: xs, v :: vs => AC cx β x v ∧ ACs cx β xs vs
  | _, _ => False

def FR (cx : Cx) (β : List En) (fr : Fr) (tmps : Array Value) : Prop := fr.length = tmps.size ∧ ∀ i x, fr[i]? = some x → AC cx β x (tmps.getD i undef)

def HOk (cx : Cx) (β : List En) (w : World) : HB → En → Prop
  | .b cs T, .b n => (cx.w0.heap.size ≤ n ∨ n ∈ cx.M) ∧ ∃ us, w.heap[n]? = some (.cells us T (0, 0)) ∧ LCs cx β cs us.toList
  | .r ver E l, .r v ver' => ver' = ver ∧ w.ownsRow cx.w0.heap.size E l.sz v l.len l.enc ∧ l.len ≤ maxL
  | .d, .x => True
  | .x Φ, .b n => (cx.w0.heap.size ≤ n ∨ n ∈ cx.M) ∧ ∃ ob, w.heap[n]? = some ob ∧ Φ ob
  | _, _ => False

def ownE : HB → En → Option Nat
  | .b _ _, .b n => some n
  | .x _, .b n => some n
  | .r _ _ _, .r v _ => v.ownBlock
  | _, _ => none
def ownB (hp : Hp) (β : List En) (k : Nat) : Option Nat := match hp[k]?, β[k]? with
  | some h, some e => ownE h e
  | _, _ => none

structure Inv (cx : Cx) (β : List En) (hp : Hp) (w : World) : Prop where
  kp : Tch (· ∈ cx.M) cx.w0 w
  len : β.length = hp.length
  ent : ∀ (k : Nat) h e, hp[k]? = some h → β[k]? = some e → HOk cx β w h e
  dis : ∀ (i k b : Nat), ownB hp β i = some b → ownB hp β k = some b → i = k

/-- What was known where stays known. -/
def Ext (β β' : List En) : Prop := ∀ (k : Nat) e, β[k]? = some e → match e with
  | .b n => β'[k]? = some (.b n)
  | .r v ver => ∃ v' ver', β'[k]? = some (.r v' ver') ∧ ver ≤ ver' ∧ (ver = ver' → v' = v)
  | .x => True

theorem Ext.refl (β : List En) : Ext β β := by
  intro k e h
  cases e with
  | b n => exact h
  | r v ver => exact ⟨v, ver, h, Nat.le_refl _, fun _ => rfl⟩
  | x => trivial
theorem Ext.trans {a b c : List En} (h : Ext a b) (k : Ext b c) : Ext a c := by
  intro i e he
  have h1 := h i e he
  cases e with
  | b n => exact k i _ h1
  | r v ver =>
    obtain ⟨v', ver', h2, h3, h4⟩ := h1
    obtain ⟨v2, ver2, h5, h6, h7⟩ := k i _ h2
    exact ⟨v2, ver2, h5, Nat.le_trans h3 h6, fun e => (h7 (by omega)).trans (h4 (by omega))⟩
  | x => trivial

theorem LC.ext {cx : Cx} {β β' : List En} (hx : Ext β β') {x : LV} {v : Value} (h : LC cx β x v) : LC cx β' x v := by
  refine ⟨h.1, ?_⟩
  have h2 := h.2
  cases x with
  | p k off =>
    obtain ⟨n, h1, h3⟩ := h2
    exact ⟨n, hx k _ h1, h3⟩
  | o T k =>
    obtain ⟨n, h1, h3⟩ := h2
    exact ⟨n, hx k _ h1, h3⟩
  | s k ver =>
    obtain ⟨v1, ver1, h1, h3, h4⟩ := h2
    obtain ⟨v2, ver2, h5, h6, h7⟩ := hx k _ h1
    exact ⟨v2, ver2, h5, by omega, fun e => (h4 (by omega)).trans (h7 (by omega)).symm⟩
  | w k ver sz i n =>
    obtain ⟨v1, ver1, h1, h3, h4⟩ := h2
    obtain ⟨v2, ver2, h5, h6, h7⟩ := hx k _ h1
    exact ⟨v2, ver2, h5, by omega, fun e => by rw [h7 (by omega)]; exact h4 (by omega)⟩
  | e k ver sz i off =>
    obtain ⟨v1, ver1, h1, h3, h4⟩ := h2
    obtain ⟨v2, ver2, h5, h6, h7⟩ := hx k _ h1
    exact ⟨v2, ver2, h5, by omega, fun e => by rw [h7 (by omega)]; exact h4 (by omega)⟩
  | _ => exact h2
theorem LCs.ext {cx : Cx} {β β' : List En} (hx : Ext β β') : ∀ {xs : List LV} {vs : List Value}, LCs cx β xs vs → LCs cx β' xs vs
  | [], [], _ => trivial
  | _ :: _, _ :: _, h => ⟨h.1.ext hx, LCs.ext hx h.2⟩
  | [], _ :: _, h => h
  | _ :: _, [], h => h
theorem TCs.ext {cx : Cx} {β β' : List En} (hx : Ext β β') : ∀ {xs : List (LV ⊕ List LV)} {vs : List Value}, TCs cx β xs vs → TCs cx β' xs vs
  | [], [], _ => trivial
  | .inl _ :: _, _ :: _, h => ⟨h.1.ext hx, TCs.ext hx h.2⟩
  | .inr _ :: _, _ :: _, h => ⟨h.1.imp fun _ ⟨e, h1⟩ => ⟨e, h1.ext hx⟩, TCs.ext hx h.2⟩
  | [], _ :: _, h => h
  | .inl _ :: _, [], h => h
  | .inr _ :: _, [], h => h
theorem AC.ext {cx : Cx} {β β' : List En} (hx : Ext β β') {x : AV} {v : Value} (h : AC cx β x v) : AC cx β' x v := by
  cases x with
  | l y => exact LC.ext hx h
  | a cs => obtain ⟨us, h1, h2⟩ := h; exact ⟨us, h1, h2.ext hx⟩
  | t xs => obtain ⟨us, h1, h2⟩ := h; exact ⟨us, h1, h2.ext hx⟩
  | j => trivial
theorem FR.ext {cx : Cx} {β β' : List En} (hx : Ext β β') {fr : Fr} {t : Array Value} (h : FR cx β fr t) : FR cx β' fr t := ⟨h.1, fun i x hi => (h.2 i x hi).ext hx⟩

theorem LCs.length {cx : Cx} {β : List En} : ∀ {xs : List LV} {vs : List Value}, LCs cx β xs vs → xs.length = vs.length
  | [], [], _ => rfl
  | _ :: _, _ :: _, h => by simp [LCs.length h.2]
  | [], _ :: _, h => h.elim
  | _ :: _, [], h => h.elim
theorem LCs.drop {cx : Cx} {β : List En} : ∀ {xs : List LV} {vs : List Value} (n : Nat), LCs cx β xs vs → LCs cx β (xs.drop n) (vs.drop n)
  | _, _, 0, h => h
  | [], [], _ + 1, _ => trivial
  | _ :: _, _ :: _, n + 1, h => LCs.drop n h.2
  | [], _ :: _, _ + 1, h => h.elim
  | _ :: _, [], _ + 1, h => h.elim
theorem LCs.take {cx : Cx} {β : List En} : ∀ {xs : List LV} {vs : List Value} (n : Nat), LCs cx β xs vs → LCs cx β (xs.take n) (vs.take n)
  | _, _, 0, _ => by simp [LCs]
  | [], [], _ + 1, _ => trivial
  | _ :: _, _ :: _, n + 1, h => ⟨h.1, LCs.take n h.2⟩
  | [], _ :: _, _ + 1, h => h.elim
  | _ :: _, [], _ + 1, h => h.elim
theorem LCs.append {cx : Cx} {β : List En} : ∀ {xs : List LV} {vs : List Value} {ys : List LV} {us : List Value}, LCs cx β xs vs → LCs cx β ys us → LCs cx β (xs ++ ys) (vs ++ us)
  | [], [], _, _, _, k => k
  | _ :: _, _ :: _, _, _, h, k => ⟨h.1, LCs.append h.2 k⟩
  | [], _ :: _, _, _, h, _ => h.elim
  | _ :: _, [], _, _, h, _ => h.elim
theorem LCs.one {cx : Cx} {β : List En} : ∀ {xs : List LV} {vs : List Value}, LCs cx β xs vs → ∀ v ∈ vs, v.oneCell' = true
  | [], [], _, _, hm => by cases hm
  | _ :: _, _ :: _, h, v, hm => by
    rcases List.mem_cons.1 hm with rfl | hm
    · exact h.1.1
    · exact LCs.one h.2 v hm
  | [], _ :: _, h, _, _ => h.elim
  | _ :: _, [], h, _, _ => h.elim
theorem LCs.consts {cx : Cx} {β : List En} : ∀ {vs : List Value}, (∀ v ∈ vs, v.oneCell' = true) → LCs cx β (vs.map LV.v) vs
  | [], _ => trivial
  | v :: vs, h => ⟨⟨h v (by simp), rfl⟩, LCs.consts fun u hu => h u (by simp [hu])⟩

theorem HOk.keep {cx : Cx} {β β' : List En} {w w' : World} {h : HB} {e : En} (ho : HOk cx β w h e) (hx : Ext β β') (hb : ∀ b, ownE h e = some b → w'.heap[b]? = w.heap[b]?) : HOk cx β' w' h e := by
  cases h with
  | b cs T => cases e with
    | b n =>
      obtain ⟨h1, us, h2, h3⟩ := ho
      exact ⟨h1, us, (hb n rfl).trans h2, h3.ext hx⟩
    | _ => exact ho
  | r ver E l => cases e with
    | r v ver' =>
      obtain ⟨h1, h2, h3⟩ := ho
      refine ⟨h1, ⟨h2.1, h2.2.imp id fun ⟨g, cap, cur, e1, e2, e3, e4⟩ => ⟨g, cap, cur, e1, e2, ?_, e4⟩⟩, h3⟩
      exact (hb g (by rw [e1]; rfl)).trans e3
    | _ => exact ho
  | d => cases e <;> exact ho
  | x Φ => cases e with
    | b n =>
      obtain ⟨h1, ob, h2, h3⟩ := ho
      exact ⟨h1, ob, (hb n rfl).trans h2, h3⟩
    | _ => exact ho

theorem HOk.lt {cx : Cx} {β : List En} {w : World} {h : HB} {e : En} (ho : HOk cx β w h e) {b : Nat} (hb : ownE h e = some b) : b < w.heap.size ∧ (cx.w0.heap.size ≤ b ∨ b ∈ cx.M) := by
  cases h with
  | b cs T => cases e with
    | b n =>
      obtain ⟨h1, us, h2, h3⟩ := ho
      simp only [ownE, Option.some.injEq] at hb
      subst hb
      exact ⟨(Array.getElem?_eq_some_iff.1 h2).1, h1⟩
    | _ => simp [ownE] at hb
  | r ver E l => cases e with
    | r v ver' =>
      have := ho.2.1.lt b hb
      exact ⟨this.2, .inl this.1⟩
    | _ => simp [ownE] at hb
  | d => simp [ownE] at hb
  | x Φ => cases e with
    | b n =>
      obtain ⟨h1, ob, h2, h3⟩ := ho
      simp only [ownE, Option.some.injEq] at hb
      subst hb
      exact ⟨(Array.getElem?_eq_some_iff.1 h2).1, h1⟩
    | _ => simp [ownE] at hb

theorem ownB_some {hp : Hp} {β : List En} {k b : Nat} (h : ownB hp β k = some b) : ∃ x e, hp[k]? = some x ∧ β[k]? = some e ∧ ownE x e = some b := by
  unfold ownB at h
  split at h
  · exact ⟨_, _, ‹_›, ‹_›, h⟩
  · cases h
theorem ownB_of {hp : Hp} {β : List En} {k : Nat} {x : HB} {e : En} (h1 : hp[k]? = some x) (h2 : β[k]? = some e) : ownB hp β k = ownE x e := by
  unfold ownB; rw [h1, h2]
theorem Inv.lt {cx : Cx} {β : List En} {hp : Hp} {w : World} (h : Inv cx β hp w) {k b : Nat} (hb : ownB hp β k = some b) : b < w.heap.size ∧ (cx.w0.heap.size ≤ b ∨ b ∈ cx.M) := by
  obtain ⟨x, e, h1, h2, h3⟩ := ownB_some hb
  exact (h.ent k x e h1 h2).lt h3

/-- One block or list of the call's own is written, or comes anew. -/
theorem Inv.upd {cx : Cx} {β β' : List En} {hp hp' : Hp} {w w' : World} {k0 : Nat} {h' : HB} {e' : En} (hI : Inv cx β hp w) (ht : Tch (fun b => ownB hp β k0 = some b) w w')
    (hk : ∀ k, k ≠ k0 → hp'[k]? = hp[k]? ∧ β'[k]? = β[k]?) (hh : hp'[k0]? = some h') (he : β'[k0]? = some e') (hlen : β'.length = hp'.length) (hx : Ext β β') (hok : HOk cx β' w' h' e')
    (hown : ∀ b, ownE h' e' = some b → ownB hp β k0 = some b ∨ w.heap.size ≤ b) : Inv cx β' hp' w' := by
  have own' : ∀ k b, ownB hp' β' k = some b → ownB hp β k = some b ∨ (k = k0 ∧ w.heap.size ≤ b) := by
    intro k b hb
    by_cases h : k = k0
    · subst h
      rw [ownB_of hh he] at hb
      exact (hown b hb).imp id fun h => ⟨rfl, h⟩
    · left
      unfold ownB at hb ⊢
      rw [(hk k h).1, (hk k h).2] at hb
      exact hb
  refine ⟨⟨ht.os.trans hI.kp.os, ht.tape.trans hI.kp.tape, ht.output.trans hI.kp.output, Nat.le_trans hI.kp.size ht.size, fun b hb hn => ?_⟩, hlen, fun k h e h1 h2 => ?_, fun i k b hi hk' => ?_⟩
  · refine (ht.block b (Nat.lt_of_lt_of_le hb hI.kp.size) fun e => ?_).trans (hI.kp.block b hb hn)
    rcases (hI.lt e).2 with h | h
    · omega
    · exact hn h
  · by_cases h0 : k = k0
    · subst h0
      rw [hh] at h1
      rw [he] at h2
      obtain rfl := Option.some.inj h1
      obtain rfl := Option.some.inj h2
      exact hok
    · rw [(hk k h0).1] at h1
      rw [(hk k h0).2] at h2
      have ho := hI.ent k h e h1 h2
      refine ho.keep hx fun b hb => ht.block b (ho.lt hb).1 fun e' => ?_
      exact h0 (hI.dis k k0 b (by rw [ownB_of h1 h2]; exact hb) e')
  · rcases own' i b hi with h1 | ⟨rfl, h1⟩ <;> rcases own' k b hk' with h2 | ⟨rfl, h2⟩
    · exact hI.dis i k b h1 h2
    · have := (hI.lt h1).1; omega
    · have := (hI.lt h2).1; omega
    · rfl

/-- Nothing of the call's own is written. -/
theorem Inv.stay {cx : Cx} {β : List En} {hp : Hp} {w w' : World} (hI : Inv cx β hp w) (ht : Below w.heap.size w w') : Inv cx β hp w' := by
  refine ⟨⟨ht.os.trans hI.kp.os, ht.tape.trans hI.kp.tape, ht.output.trans hI.kp.output, Nat.le_trans hI.kp.size ht.size, fun b hb hn => ?_⟩, hI.len, fun k h e h1 h2 => ?_, hI.dis⟩
  · exact (ht.block b (Nat.lt_of_lt_of_le hb hI.kp.size)).trans (hI.kp.block b hb hn)
  · have ho := hI.ent k h e h1 h2
    exact ho.keep (Ext.refl _) fun b hb => ht.block b (ho.lt hb).1

theorem EL.enc_len (l : EL) : l.enc.length = l.len * l.sz := by
  cases l with
  | ints l => simp [EL.enc, EL.len, EL.sz]
  | bytes l => simp [EL.enc, EL.len, EL.sz]
  | gots l =>
    simp only [EL.enc, EL.len, EL.sz]
    induction l with
    | nil => rfl
    | cons a r ih => simp [ih]; omega
  | k3 l =>
    simp only [EL.enc, EL.len, EL.sz]
    induction l with
    | nil => rfl
    | cons a r ih => simp [ih]; omega
theorem EL.one (l : EL) : ∀ u ∈ l.enc, u.oneCell' = true := by
  intro u hu
  cases l with
  | ints l => obtain ⟨x, _, rfl⟩ := List.mem_map.1 hu; rfl
  | bytes l => obtain ⟨x, _, rfl⟩ := List.mem_map.1 hu; rfl
  | gots l => obtain ⟨x, _, h⟩ := List.mem_flatMap.1 hu; simp at h; rcases h with rfl | rfl <;> rfl
  | k3 l => obtain ⟨x, _, h⟩ := List.mem_flatMap.1 hu; simp at h; rcases h with rfl | rfl | rfl <;> rfl

theorem FZ.sl {cx : Cx} {β : List En} {hp : Hp} {w : World} {v : Value} {l : EL} (h : FZ cx v l) (hI : Inv cx β hp w) : Sl w l.sz v l.len l.enc := by
  refine ⟨h.1.1, ?_⟩
  rcases h.1.2 with ⟨h0, h1⟩ | ⟨g, off, cap, cur, T, h1, h2, h3, h4⟩
  · exact .inl ⟨h0, h1⟩
  · by_cases h0 : l.len = 0
    · exact .inl ⟨h0, _, cap, by rw [h1, h0], fun e => by cases e⟩
    · refine .inr ⟨g, off, cap, cur, T, h1, h2, ?_, h4⟩
      rw [hI.kp.block g (Array.getElem?_eq_some_iff.1 h3).1 (h.2.2 h0 g (by rw [h1]; rfl))]
      exact h3

end Ab
end Go.Proofs.Ytacjfkodndkaeaa
