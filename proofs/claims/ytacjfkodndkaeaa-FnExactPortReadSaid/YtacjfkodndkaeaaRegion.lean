/-
  A region that draws its order, walked once: operations that only read are taken as early as may be, each of the others must leave the blocks that are read as they were. Plain lemmas, no condition of the program.
-/
import Derived.Test.YtacjfkodndkaeaaRows
import Derived.WalkKit
import Derived.WalkSpells
import Derived.WalkLawsBesides
import Derived.OrdersHeld
namespace Go.Proofs.Ytacjfkodndkaeaa
open Go.RowKit

/-- The blocks that `p` names are in `w'` as they were in `w`. -/
def Ex (p : Nat → Prop) (w w' : World) : Prop := w.heap.size ≤ w'.heap.size ∧ ∀ b, p b → b < w.heap.size → w'.heap[b]? = w.heap[b]?

theorem Ex.refl (p : Nat → Prop) (w : World) : Ex p w w := ⟨Nat.le_refl _, fun _ _ _ => rfl⟩
theorem Ex.trans {p : Nat → Prop} {a b c : World} (h : Ex p a b) (k : Ex p b c) : Ex p a c :=
  ⟨Nat.le_trans h.1 k.1, fun i hp hi => (k.2 i hp (Nat.lt_of_lt_of_le hi h.1)).trans (h.2 i hp hi)⟩
theorem Ex.below {p : Nat → Prop} {w w' : World} (h : Below w.heap.size w w') : Ex p w w' := ⟨h.size, fun b _ hb => h.block b hb⟩
theorem Ex.alloc (p : Nat → Prop) (w : World) (o : Obj) : Ex p w (w.alloc o) := Ex.below ((Below.refl _ _).alloc (Nat.le_refl _) o)
theorem Ex.grown {p : Nat → Prop} {w w' : World} {row : Option Nat} (h : w.grownBy w' row) (hr : ∀ k, row = some k → k < w.heap.size → ¬ p k) : Ex p w w' :=
  ⟨h.size, fun b hp hb => h.block b hb (fun e => hr b e.symm hb hp)⟩
theorem Ex.set {p : Nat → Prop} (w : World) (q : Addr) (u : Value) (hq : ¬ p q.block) : Ex p w (w.setCell q u) :=
  ⟨by simp [World.setCell], fun b hp _ => Below.heap_setCell _ _ _ _ (fun e => hq (e ▸ hp))⟩
theorem Ex.setTrans {p : Nat → Prop} {w w' : World} (q : Addr) (u : Value) (hq : ¬ p q.block) (h : Ex p w w') : Ex p w (w'.setCell q u) := h.trans (Ex.set _ _ _ hq)
theorem Ex.drew {p : Nat → Prop} {w w' : World} (h : Ex p w w') : Ex p w w'.drew := h.trans ⟨Nat.le_refl _, fun _ _ _ => rfl⟩

section
variable {P : Program} {ops : Array Oper} {Q : Exit → Act → World → Prop} {md : Region.Mode} {p : Nat → Prop} {late : Nat → Bool}

def wpAnyX (P : Program) (md : Region.Mode) (ops : Array Oper) (Q : Exit → Act → World → Prop) (p : Nat → Prop) (late : Nat → Bool) : Nat → Array Bool → Act → World → Prop
  | 0, listed, a, w => Region.ready md ops listed = [] ∧ Q .normal a w
  | n + 1, listed, a, w =>
    (Region.ready md ops listed = [] → Q .normal a w) ∧
    ∀ i ∈ Region.ready md ops listed, wpOp P ops Q i (fun a' w' => (late i = false → Ex p w w') ∧ wpAnyX P md ops Q p late n (listed.setIfInBounds i true) a' w') a w

theorem wpAny_ofX : ∀ (fuel : Nat) (listed : Array Bool) (a : Act) (w : World), wpAnyX P md ops Q p late fuel listed a w → wpAny P md ops Q fuel listed a w
  | 0, _, _, _, h => h
  | fuel + 1, _, _, _, h => ⟨h.1, fun i hi => wpOp_mono (fun a' w' h' => wpAny_ofX fuel _ a' w' h'.2) (h.2 i hi)⟩

theorem yieldsIf_later {o : Oper} {v : Value} {a : Act} {w w' : World} (h : YieldsIf P ops (Ex p w) o v a) (hx : Ex p w w') : YieldsIf P ops (Ex p w') o v a :=
  h.imp (fun ⟨hw, hv⟩ => ⟨hw, fun w2 h2 => hv w2 (hx.trans h2)⟩) id

/-- Operation j waits for i, through at most n others. -/
def needsB (md : Region.Mode) (ops : Array Oper) : Nat → Nat → Nat → Bool
  | 0, _, _ => false
  | n + 1, j, i => match ops[j]? with
    | some oj => oj.after.any (fun e => Region.binds md e && e.on == i) || oj.after.any (fun e => Region.binds md e && needsB md ops n e.on i)
    | none => false

def Closed (md : Region.Mode) (ops : Array Oper) (listed : Array Bool) : Prop :=
  ∀ k ok, ops[k]? = some ok → listed.getD k false = true → ∀ e ∈ ok.after, Region.binds md e = true → listed.getD e.on false = true

theorem needsB_spec {listed : Array Bool} (hc : Closed md ops listed) {i : Nat} : ∀ (n j : Nat) (oj : Oper), ops[j]? = some oj → (∀ e ∈ oj.after, Region.binds md e = true → listed.getD e.on false = true) →
    needsB md ops n j i = true → listed.getD i false = true
  | 0, _, _, _, _, h => by cases h
  | n + 1, j, oj, hj, hr, h => by
    simp only [needsB, hj, Bool.or_eq_true] at h
    rcases h with h | h
    · obtain ⟨e, he, hb⟩ := Array.any_eq_true'.1 h
      simp only [Bool.and_eq_true, beq_iff_eq] at hb
      exact hb.2 ▸ hr e he hb.1
    · obtain ⟨e, he, hb⟩ := Array.any_eq_true'.1 h
      simp only [Bool.and_eq_true] at hb
      have hl := hr e he hb.1
      cases ho : ops[e.on]? with
      | none =>
        have h2 := hb.2
        cases n <;> simp [needsB, ho] at h2
      | some ok => exact needsB_spec hc n e.on ok ho (hc e.on ok ho hl) hb.2

theorem Closed.set {listed : Array Bool} (hc : Closed md ops listed) {i : Nat} (hi : i ∈ Region.ready md ops listed) : Closed md ops (listed.setIfInBounds i true) := by
  intro k ok hk hl e he hb
  have up : ∀ x, listed.getD x false = true → (listed.setIfInBounds i true).getD x false = true := by
    intro x hx
    by_cases hxi : i = x
    · subst hxi
      simp only [Array.getD_eq_getD_getElem?, Array.getElem?_setIfInBounds_self] at hx ⊢
      split
      · rfl
      · rename_i h'; simp [Array.getElem?_eq_none (Nat.le_of_not_lt h')] at hx
    · simp only [Array.getD_eq_getD_getElem?, Array.getElem?_setIfInBounds_ne hxi]; simpa using hx
  by_cases hki : i = k
  · subst hki
    obtain ⟨_, o, ho, hall⟩ := mem_ready.1 hi
    rw [hk] at ho
    obtain rfl := Option.some.inj ho
    exact up _ (hall e he hb)
  · have : listed.getD k false = true := by
      simp only [Array.getD_eq_getD_getElem?, Array.getElem?_setIfInBounds_ne hki] at hl
      simpa using hl
    exact up _ (hc k ok hk this e he hb)

theorem closed_none (n : Nat) : Closed md ops (Array.replicate n false) := by
  intro k ok _ hl
  by_cases h : k < n <;> simp [h] at hl

theorem wpAnyX_first {i : Nat} {oi : Oper} {v : Value} (hi : ops[i]? = some oi) (hsel : ∀ (j : Nat) (o : Oper) cs b, ops[j]? = some o → o.op ≠ .select cs b)
    (hQ : ∀ c a w, Q (.panic c) (a.put oi.dst v) w → Q (.panic c) a w)
    (n : Nat) (hlate : ∀ j, late j = true → needsB md ops n j i = true) :
    ∀ (fuel : Nat) (listed : Array Bool) (a : Act) (w : World), Closed md ops listed →
      (∀ j oj, ops[j]? = some oj → j ≠ i → listed.getD j true = false → (∀ e ∈ oj.after, Region.binds md e = true → e.on ≠ i) → oi.apart ops oj = true) →
      i ∈ Region.ready md ops listed → YieldsIf P ops (Ex p w) oi v a →
      wpAnyX P md ops Q p late fuel (listed.setIfInBounds i true) (a.put oi.dst v) w → wpAnyX P md ops Q p late (fuel + 1) listed a w := by
  intro fuel
  induction fuel with
  | zero =>
    intro listed a w _ _ hr hy H
    refine ⟨fun h => (by rw [h] at hr; cases hr), fun j hj => ?_⟩
    by_cases hji : j = i
    · subst hji; exact hy.wpOp hi (Ex.refl p w) ⟨fun _ => Ex.refl p w, H⟩
    · have := ready_mono hj hji
      rw [H.1] at this
      cases this
  | succ fuel ih =>
    intro listed a w hcl hfree hr hy H
    refine ⟨fun h => (by rw [h] at hr; cases hr), fun j hj => ?_⟩
    by_cases hji : j = i
    · subst hji; exact hy.wpOp hi (Ex.refl p w) ⟨fun _ => Ex.refl p w, H⟩
    · have h1 := H.2 j (ready_mono hj hji)
      obtain ⟨hjun, oj, hoj, hall⟩ := mem_ready.1 hj
      have hnot : ∀ e ∈ oj.after, Region.binds md e = true → e.on ≠ i := fun e he hb heq => by
        have h1 := hall e he hb
        have h0 := (mem_ready.1 hr).1
        rw [heq] at h1
        rcases Nat.lt_or_ge i listed.size with h' | h'
        · simp [h'] at h0 h1; rw [h0] at h1; cases h1
        · simp [Array.getElem?_eq_none h'] at h1
      have hnl : late j = false := by
        cases hl : late j with
        | false => rfl
        | true =>
          have h1 := needsB_spec hcl n j oj hoj hall (hlate j hl)
          have h0 := (mem_ready.1 hr).1
          rcases Nat.lt_or_ge i listed.size with h' | h'
          · simp [h'] at h0 h1; rw [h0] at h1; cases h1
          · simp [Array.getElem?_eq_none h'] at h1
      have h2 := wpOp_putIf hoj (hfree j oj hoj hji hjun hnot) (fun cs b => hsel i oi cs b hi) (fun cs b => hsel j oj cs b hoj) hQ hy h1
      have hfree' : ∀ k ok, ops[k]? = some ok → k ≠ i → (listed.setIfInBounds j true).getD k true = false →
          (∀ e ∈ ok.after, Region.binds md e = true → e.on ≠ i) → oi.apart ops ok = true := fun k ok hk hki hun hno => by
        refine hfree k ok hk hki ?_ hno
        by_cases hjk : j = k
        · subst hjk; exact hjun
        · rw [getD_set_ne true hjk] at hun; exact hun
      refine wpOp_mono (fun a' w' h3 => ⟨h3.2.1, ih (listed.setIfInBounds j true) a' w' (hcl.set hj) hfree' (ready_mono hr (Ne.symm hji)) (yieldsIf_later h3.1 (h3.2.1 hnl)) ?_⟩) h2
      rw [Array.setIfInBounds_comm _ _ hji]
      exact h3.2.2

/-- In which order the operations are walked: kind 0: it only reads; 1: it may change the world, the blocks of `p` stay; 2: nobody who only reads can come behind it. fork: either of two may come up first. -/
inductive Tr where
  | nil
  | op (i k : Nat) (t : Tr)
  | fork (i k : Nat) (t : Tr) (j l : Nat) (u : Tr)

def Tr.len : Tr → Nat
  | .nil => 0
  | .op _ _ t => t.len + 1
  | .fork _ _ t _ _ _ => t.len + 1

def Tr.flat : Tr → List (Nat × Nat)
  | .nil => []
  | .op i k t => (i, k) :: t.flat
  | .fork i k t j l u => (i, k) :: (j, l) :: (t.flat ++ u.flat)

def wpE (P : Program) (ops : Array Oper) (p : Nat → Prop) (Q : Exit → Act → World → Prop) : Tr → Act → World → Prop
  | .nil, a, w => Q .normal a w
  | .op i 0 t, a, w => ∃ o v, ops[i]? = some o ∧ YieldsIf P ops (Ex p w) o v a ∧ wpE P ops p Q t (a.put o.dst v) w
  | .op i 1 t, a, w => wpOp P ops Q i (fun a' w' => Ex p w w' ∧ wpE P ops p Q t a' w') a w
  | .op i _ t, a, w => wpOp P ops Q i (wpE P ops p Q t) a w
  | .fork i _ t j _ u, a, w => wpOp P ops Q i (fun a' w' => Ex p w w' ∧ wpE P ops p Q t a' w') a w ∧ wpOp P ops Q j (fun a' w' => Ex p w w' ∧ wpE P ops p Q u a' w') a w

def canonOk (md : Region.Mode) (ops : Array Oper) : Array Bool → Tr → Bool
  | listed, .nil => Region.ready md ops listed == []
  | listed, .op i 0 t => (Region.ready md ops listed).contains i && Region.free md ops listed i && canonOk md ops (listed.setIfInBounds i true) t
  | listed, .op i _ t => Region.ready md ops listed == [i] && canonOk md ops (listed.setIfInBounds i true) t
  | listed, .fork i _ t j _ u => Region.ready md ops listed == [i, j] && u.len == t.len && canonOk md ops (listed.setIfInBounds i true) t && canonOk md ops (listed.setIfInBounds j true) u

def lateOk (md : Region.Mode) (ops : Array Oper) (C : List (Nat × Nat)) : Bool :=
  C.all fun (j, k) => k ≤ 1 || C.all fun (i, k') => k' != 0 || needsB md ops 3 j i

def lateOf (C : List (Nat × Nat)) (j : Nat) : Bool := C.any fun (i, k) => i == j && 2 ≤ k

theorem lateOk_spec {C : List (Nat × Nat)} (h : lateOk md ops C = true) {i : Nat} (hi : (i, 0) ∈ C) (j : Nat) (hl : lateOf C j = true) : needsB md ops 3 j i = true := by
  simp only [lateOf, List.any_eq_true, Bool.and_eq_true, beq_iff_eq, decide_eq_true_eq] at hl
  obtain ⟨⟨j', k⟩, hm, rfl, hk⟩ := hl
  simp only [lateOk, List.all_eq_true, Bool.or_eq_true, decide_eq_true_eq] at h
  have h1 := h _ hm
  rcases h1 with h1 | h1
  · simp at hk; omega
  · have h2 := h1 _ hi
    simpa using h2

theorem wpAnyX_of_wpE (C0 : List (Nat × Nat)) (hs : Region.noSelect ops = true) (hl : lateOk md ops C0 = true)
    (hQ : ∀ c a d v w, Q (.panic c) (a.put d v) w → Q (.panic c) a w) :
    ∀ (t : Tr) (listed : Array Bool) (a : Act) (w : World), Closed md ops listed → (∀ x ∈ t.flat, x ∈ C0) → canonOk md ops listed t = true → wpE P ops p Q t a w →
      wpAnyX P md ops Q p (lateOf C0) t.len listed a w := by
  intro t
  induction t with
  | nil => intro listed a w _ _ hc h; exact ⟨by simpa [canonOk] using hc, h⟩
  | op i k t ih =>
    intro listed a w hcl hsub hc h
    have hsub' : ∀ x ∈ t.flat, x ∈ C0 := fun x hx => hsub x (List.mem_cons_of_mem _ hx)
    match k, hsub, hc, h with
    | 0, hsub, hc, h =>
      simp only [canonOk, Bool.and_eq_true] at hc
      obtain ⟨⟨hr, hf⟩, hc⟩ := hc
      obtain ⟨o, v, ho, hy, h⟩ := h
      exact wpAnyX_first ho (Region.noSelect_spec hs) (fun c a w => hQ c a _ v w) 3 (fun j hlj => lateOk_spec hl (hsub _ (List.mem_cons_self ..)) j hlj)
        t.len listed a w hcl (Region.free_spec ho hf) (by simpa using hr) hy (ih _ _ _ (hcl.set (by simpa using hr)) hsub' hc h)
    | 1, hsub, hc, h =>
      simp only [canonOk, Bool.and_eq_true, beq_iff_eq] at hc
      refine ⟨fun h0 => (by rw [hc.1] at h0; cases h0), fun j hj => ?_⟩
      rw [hc.1] at hj
      obtain rfl := List.mem_singleton.1 hj
      exact wpOp_mono (fun a' w' h' => ⟨fun _ => h'.1, ih _ _ _ (hcl.set (by simp [hc.1])) hsub' hc.2 h'.2⟩) h
    | k + 2, hsub, hc, h =>
      simp only [canonOk, Bool.and_eq_true, beq_iff_eq] at hc
      refine ⟨fun h0 => (by rw [hc.1] at h0; cases h0), fun j hj => ?_⟩
      rw [hc.1] at hj
      obtain rfl := List.mem_singleton.1 hj
      refine wpOp_mono (fun a' w' h' => ⟨fun hn => ?_, ih _ _ _ (hcl.set (by simp [hc.1])) hsub' hc.2 h'⟩) h
      exact absurd (show lateOf C0 j = true by
        simp only [lateOf, List.any_eq_true, Bool.and_eq_true, beq_iff_eq, decide_eq_true_eq]
        exact ⟨_, hsub _ (List.mem_cons_self ..), rfl, by simp⟩) (by simp [hn])
  | fork i k t j l u iht ihu =>
    intro listed a w hcl hsub hc h
    simp only [canonOk, Bool.and_eq_true, beq_iff_eq] at hc
    obtain ⟨⟨⟨hr, hlen⟩, h1⟩, h2⟩ := hc
    have hst : ∀ x ∈ t.flat, x ∈ C0 := fun x hx => hsub x (by simp [Tr.flat, hx])
    have hsu : ∀ x ∈ u.flat, x ∈ C0 := fun x hx => hsub x (by simp [Tr.flat, hx])
    refine ⟨fun h0 => (by rw [hr] at h0; cases h0), fun x hx => ?_⟩
    rw [hr] at hx
    rcases List.mem_cons.1 hx with rfl | hx
    · exact wpOp_mono (fun a' w' h' => ⟨fun _ => h'.1, iht _ _ _ (hcl.set (by simp [hr])) hst h1 h'.2⟩) h.1
    · obtain rfl := List.mem_singleton.1 hx
      refine wpOp_mono (fun a' w' h' => ⟨fun _ => h'.1, ?_⟩) h.2
      have := ihu _ _ _ (hcl.set (by simp [hr])) hsu h2 h'.2
      rw [hlen] at this
      exact this

/-- A region that draws its order, by one order. -/
theorem wp_region_E {id : Nat} {a : Act} {w : World} (p : Nat → Prop) (t : Tr) (hm : P.follows .mixedOrders = true) (hn : t.len = ops.size) (hs : Region.noSelect ops = true)
    (hl : lateOk .any ops t.flat = true) (hc : canonOk .any ops (Array.replicate ops.size false) t = true)
    (hQ : ∀ c a d v w, Q (.panic c) (a.put d v) w → Q (.panic c) a w) (h : wpE P ops p Q t a w.drew) : (Code.region id ops true).wp P Q a w := by
  refine wp_region_any hm (wpAny_ofX (p := p) (late := lateOf t.flat) _ _ _ _ ?_)
  have := wpAnyX_of_wpE (md := .any) t.flat hs hl hQ t (Array.replicate ops.size false) a w.drew (closed_none _) (fun x hx => hx) hc h
  rw [hn] at this
  exact this
end

end Go.Proofs.Ytacjfkodndkaeaa
