/-
  A region that draws its order, walked once: operations that only read are taken as early as may be, each of the others must leave the blocks that are read as they were. Plain lemmas, no condition of the program.
-/
import Derived.Test.YtkhggobpanfkfaaDoorRows
import Derived.WalkKit
import Derived.WalkSpells
import Derived.WalkLawsBesides
import Derived.OrdersHeld
import Derived.Maps.AppendAt
namespace Go.Proofs.YtkhggobpanfkfaaDoor
open Go.RowKit

/-- The blocks that `p` names are in `w'` as they were in `w`. -/
def Ex (p : Nat → Prop) (w w' : World) : Prop := w.heap.size ≤ w'.heap.size ∧ ∀ b, p b → b < w.heap.size → w'.heap[b]? = w.heap[b]?

theorem Ex.refl (p : Nat → Prop) (w : World) : Ex p w w := ⟨Nat.le_refl _, fun _ _ _ => rfl⟩
theorem Ex.trans {p : Nat → Prop} {a b c : World} (h : Ex p a b) (k : Ex p b c) : Ex p a c :=
  ⟨Nat.le_trans h.1 k.1, fun i hp hi => (k.2 i hp (Nat.lt_of_lt_of_le hi h.1)).trans (h.2 i hp hi)⟩
theorem Ex.below {p : Nat → Prop} {w w' : World} (h : Below w.heap.size w w') : Ex p w w' := ⟨h.size, fun b _ hb => h.block b hb⟩
theorem Ex.alloc (p : Nat → Prop) (w : World) (o : Obj) : Ex p w (w.alloc o) := Ex.below ((Below.refl _ _).alloc (Nat.le_refl _) o)
theorem Ex.grown {p : Nat → Prop} {w w' : World} {row : Option Nat} (h : w.grownBy w' row) (hr : ∀ k, row = some k → k < w.heap.size → ¬ p k) : Ex p w w' :=
  ⟨h.size, fun b hp hb => h.block b hb (fun e => hr b e.symm hb hp)⟩
theorem Ex.set {p : Nat → Prop} (w : World) (q : Addr) (u : Value) (hq : ¬ p q.block) : Ex p w (w.setCell q u) :=
  ⟨by simp [World.setCell], fun b hp _ => Below.heap_setCell _ _ _ _ (fun e => hq (e ▸ hp))⟩
theorem Ex.setTrans {p : Nat → Prop} {w w' : World} (q : Addr) (u : Value) (hq : ¬ p q.block) (h : Ex p w w') : Ex p w (w'.setCell q u) := h.trans (Ex.set _ _ _ hq)
theorem Ex.drew {p : Nat → Prop} {w w' : World} (h : Ex p w w') : Ex p w w'.drew := h.trans ⟨Nat.le_refl _, fun _ _ _ => rfl⟩

section
variable {P : Program} {ops : Array Oper} {Q : Exit → Act → World → Prop} {md : Region.Mode} {p : Nat → Prop} {late : Nat → Bool}

def wpAnyX (P : Program) (md : Region.Mode) (ops : Array Oper) (Q : Exit → Act → World → Prop) (p : Nat → Prop) (late : Nat → Bool) : Nat → Array Bool → Act → World → Prop
  | 0, listed, a, w => Region.ready md ops listed = [] ∧ Q .normal a w
  | n + 1, listed, a, w =>
    (Region.ready md ops listed = [] → Q .normal a w) ∧
    ∀ i ∈ Region.ready md ops listed, wpOp P ops Q i (fun a' w' => (late i = false → Ex p w w') ∧ wpAnyX P md ops Q p late n (listed.setIfInBounds i true) a' w') a w

theorem wpAny_ofX : ∀ (fuel : Nat) (listed : Array Bool) (a : Act) (w : World), wpAnyX P md ops Q p late fuel listed a w → wpAny P md ops Q fuel listed a w
  | 0, _, _, _, h => h
  | fuel + 1, _, _, _, h => ⟨h.1, fun i hi => wpOp_mono (fun a' w' h' => wpAny_ofX fuel _ a' w' h'.2) (h.2 i hi)⟩

theorem yieldsIf_later {o : Oper} {v : Value} {a : Act} {w w' : World} (h : YieldsIf P ops (Ex p w) o v a) (hx : Ex p w w') : YieldsIf P ops (Ex p w') o v a :=
  h.imp (fun ⟨hw, hv⟩ => ⟨hw, fun w2 h2 => hv w2 (hx.trans h2)⟩) id

/-- Operation j waits for i, through at most n others. -/
def needsB (md : Region.Mode) (ops : Array Oper) : Nat → Nat → Nat → Bool
  | 0, _, _ => false
  | n + 1, j, i => match ops[j]? with
    | some oj => oj.after.any (fun e => Region.binds md e && e.on == i) || oj.after.any (fun e => Region.binds md e && needsB md ops n e.on i)
    | none => false

def Closed (md : Region.Mode) (ops : Array Oper) (listed : Array Bool) : Prop :=
  ∀ k ok, ops[k]? = some ok → listed.getD k false = true → ∀ e ∈ ok.after, Region.binds md e = true → listed.getD e.on false = true

theorem needsB_spec {listed : Array Bool} (hc : Closed md ops listed) {i : Nat} : ∀ (n j : Nat) (oj : Oper), ops[j]? = some oj → (∀ e ∈ oj.after, Region.binds md e = true → listed.getD e.on false = true) →
    needsB md ops n j i = true → listed.getD i false = true
  | 0, _, _, _, _, h => by cases h
  | n + 1, j, oj, hj, hr, h => by
    simp only [needsB, hj, Bool.or_eq_true] at h
    rcases h with h | h
    · obtain ⟨e, he, hb⟩ := Array.any_eq_true'.1 h
      simp only [Bool.and_eq_true, beq_iff_eq] at hb
      exact hb.2 ▸ hr e he hb.1
    · obtain ⟨e, he, hb⟩ := Array.any_eq_true'.1 h
      simp only [Bool.and_eq_true] at hb
      have hl := hr e he hb.1
      cases ho : ops[e.on]? with
      | none =>
        have h2 := hb.2
        cases n <;> simp [needsB, ho] at h2
      | some ok => exact needsB_spec hc n e.on ok ho (hc e.on ok ho hl) hb.2

theorem Closed.set {listed : Array Bool} (hc : Closed md ops listed) {i : Nat} (hi : i ∈ Region.ready md ops listed) : Closed md ops (listed.setIfInBounds i true) := by
  intro k ok hk hl e he hb
  have up : ∀ x, listed.getD x false = true → (listed.setIfInBounds i true).getD x false = true := by
    intro x hx
    by_cases hxi : i = x
    · subst hxi
      simp only [Array.getD_eq_getD_getElem?, Array.getElem?_setIfInBounds_self] at hx ⊢
      split
      · rfl
      · rename_i h'; simp [Array.getElem?_eq_none (Nat.le_of_not_lt h')] at hx
    · simp only [Array.getD_eq_getD_getElem?, Array.getElem?_setIfInBounds_ne hxi]; simpa using hx
  by_cases hki : i = k
  · subst hki
    obtain ⟨_, o, ho, hall⟩ := mem_ready.1 hi
    rw [hk] at ho
    obtain rfl := Option.some.inj ho
    exact up _ (hall e he hb)
  · have : listed.getD k false = true := by
      simp only [Array.getD_eq_getD_getElem?, Array.getElem?_setIfInBounds_ne hki] at hl
      simpa using hl
    exact up _ (hc k ok hk this e he hb)

theorem closed_none (n : Nat) : Closed md ops (Array.replicate n false) := by
  intro k ok _ hl
  by_cases h : k < n <;> simp [h] at hl

theorem wpAnyX_first {i : Nat} {oi : Oper} {v : Value} (hi : ops[i]? = some oi) (hsel : ∀ (j : Nat) (o : Oper) cs b, ops[j]? = some o → o.op ≠ .select cs b)
    (hQ : ∀ c a w, Q (.panic c) (a.put oi.dst v) w → Q (.panic c) a w)
    (n : Nat) (hlate : ∀ j, late j = true → needsB md ops n j i = true) :
    ∀ (fuel : Nat) (listed : Array Bool) (a : Act) (w : World), Closed md ops listed →
      (∀ j oj, ops[j]? = some oj → j ≠ i → listed.getD j true = false → (∀ e ∈ oj.after, Region.binds md e = true → e.on ≠ i) → oi.apart ops oj = true) →
      i ∈ Region.ready md ops listed → YieldsIf P ops (Ex p w) oi v a →
      wpAnyX P md ops Q p late fuel (listed.setIfInBounds i true) (a.put oi.dst v) w → wpAnyX P md ops Q p late (fuel + 1) listed a w := by
  intro fuel
  induction fuel with
  | zero =>
    intro listed a w _ _ hr hy H
    refine ⟨fun h => (by rw [h] at hr; cases hr), fun j hj => ?_⟩
    by_cases hji : j = i
    · subst hji; exact hy.wpOp hi (Ex.refl p w) ⟨fun _ => Ex.refl p w, H⟩
    · have := ready_mono hj hji
      rw [H.1] at this
      cases this
  | succ fuel ih =>
    intro listed a w hcl hfree hr hy H
    refine ⟨fun h => (by rw [h] at hr; cases hr), fun j hj => ?_⟩
    by_cases hji : j = i
    · subst hji; exact hy.wpOp hi (Ex.refl p w) ⟨fun _ => Ex.refl p w, H⟩
    · have h1 := H.2 j (ready_mono hj hji)
      obtain ⟨hjun, oj, hoj, hall⟩ := mem_ready.1 hj
      have hnot : ∀ e ∈ oj.after, Region.binds md e = true → e.on ≠ i := fun e he hb heq => by
        have h1 := hall e he hb
        have h0 := (mem_ready.1 hr).1
        rw [heq] at h1
        rcases Nat.lt_or_ge i listed.size with h' | h'
        · simp [h'] at h0 h1; rw [h0] at h1; cases h1
        · simp [Array.getElem?_eq_none h'] at h1
      have hnl : late j = false := by
        cases hl : late j with
        | false => rfl
        | true =>
          have h1 := needsB_spec hcl n j oj hoj hall (hlate j hl)
          have h0 := (mem_ready.1 hr).1
          rcases Nat.lt_or_ge i listed.size with h' | h'
          · simp [h'] at h0 h1; rw [h0] at h1; cases h1
          · simp [Array.getElem?_eq_none h'] at h1
      have h2 := wpOp_putIf hoj (hfree j oj hoj hji hjun hnot) (fun cs b => hsel i oi cs b hi) (fun cs b => hsel j oj cs b hoj) hQ hy h1
      have hfree' : ∀ k ok, ops[k]? = some ok → k ≠ i → (listed.setIfInBounds j true).getD k true = false →
          (∀ e ∈ ok.after, Region.binds md e = true → e.on ≠ i) → oi.apart ops ok = true := fun k ok hk hki hun hno => by
        refine hfree k ok hk hki ?_ hno
        by_cases hjk : j = k
        · subst hjk; exact hjun
        · rw [getD_set_ne true hjk] at hun; exact hun
      refine wpOp_mono (fun a' w' h3 => ⟨h3.2.1, ih (listed.setIfInBounds j true) a' w' (hcl.set hj) hfree' (ready_mono hr (Ne.symm hji)) (yieldsIf_later h3.1 (h3.2.1 hnl)) ?_⟩) h2
      rw [Array.setIfInBounds_comm _ _ hji]
      exact h3.2.2

/-- In which order the operations are walked: kind 0: it only reads; 1: it may change the world, the blocks of `p` stay; 2: nobody who only reads can come behind it. fork: either of two may come up first. -/
inductive Tr where
  | nil
  | op (i k : Nat) (t : Tr)
  | fork (i k : Nat) (t : Tr) (j l : Nat) (u : Tr)

def Tr.len : Tr → Nat
  | .nil => 0
  | .op _ _ t => t.len + 1
  | .fork _ _ t _ _ _ => t.len + 1

def Tr.flat : Tr → List (Nat × Nat)
  | .nil => []
  | .op i k t => (i, k) :: t.flat
  | .fork i k t j l u => (i, k) :: (j, l) :: (t.flat ++ u.flat)

def wpE (P : Program) (ops : Array Oper) (p : Nat → Prop) (Q : Exit → Act → World → Prop) : Tr → Act → World → Prop
  | .nil, a, w => Q .normal a w
  | .op i 0 t, a, w => ∃ o v, ops[i]? = some o ∧ YieldsIf P ops (Ex p w) o v a ∧ wpE P ops p Q t (a.put o.dst v) w
  | .op i 1 t, a, w => wpOp P ops Q i (fun a' w' => Ex p w w' ∧ wpE P ops p Q t a' w') a w
  | .op i _ t, a, w => wpOp P ops Q i (wpE P ops p Q t) a w
  | .fork i _ t j _ u, a, w => wpOp P ops Q i (fun a' w' => Ex p w w' ∧ wpE P ops p Q t a' w') a w ∧ wpOp P ops Q j (fun a' w' => Ex p w w' ∧ wpE P ops p Q u a' w') a w

def canonOk (md : Region.Mode) (ops : Array Oper) : Array Bool → Tr → Bool
  | listed, .nil => Region.ready md ops listed == []
  | listed, .op i 0 t => (Region.ready md ops listed).contains i && Region.free md ops listed i && canonOk md ops (listed.setIfInBounds i true) t
  | listed, .op i _ t => Region.ready md ops listed == [i] && canonOk md ops (listed.setIfInBounds i true) t
  | listed, .fork i _ t j _ u => Region.ready md ops listed == [i, j] && u.len == t.len && canonOk md ops (listed.setIfInBounds i true) t && canonOk md ops (listed.setIfInBounds j true) u

def lateOk (md : Region.Mode) (ops : Array Oper) (C : List (Nat × Nat)) : Bool :=
  C.all fun (j, k) => k ≤ 1 || C.all fun (i, k') => k' != 0 || needsB md ops 3 j i

def lateOf (C : List (Nat × Nat)) (j : Nat) : Bool := C.any fun (i, k) => i == j && 2 ≤ k

theorem lateOk_spec {C : List (Nat × Nat)} (h : lateOk md ops C = true) {i : Nat} (hi : (i, 0) ∈ C) (j : Nat) (hl : lateOf C j = true) : needsB md ops 3 j i = true := by
  simp only [lateOf, List.any_eq_true, Bool.and_eq_true, beq_iff_eq, decide_eq_true_eq] at hl
  obtain ⟨⟨j', k⟩, hm, rfl, hk⟩ := hl
  simp only [lateOk, List.all_eq_true, Bool.or_eq_true, decide_eq_true_eq] at h
  have h1 := h _ hm
  rcases h1 with h1 | h1
  · simp at hk; omega
  · have h2 := h1 _ hi
    simpa using h2

theorem wpAnyX_of_wpE (C0 : List (Nat × Nat)) (hs : Region.noSelect ops = true) (hl : lateOk md ops C0 = true)
    (hQ : ∀ c a d v w, Q (.panic c) (a.put d v) w → Q (.panic c) a w) :
    ∀ (t : Tr) (listed : Array Bool) (a : Act) (w : World), Closed md ops listed → (∀ x ∈ t.flat, x ∈ C0) → canonOk md ops listed t = true → wpE P ops p Q t a w →
      wpAnyX P md ops Q p (lateOf C0) t.len listed a w := by
  intro t
  induction t with
  | nil => intro listed a w _ _ hc h; exact ⟨by simpa [canonOk] using hc, h⟩
  | op i k t ih =>
    intro listed a w hcl hsub hc h
    have hsub' : ∀ x ∈ t.flat, x ∈ C0 := fun x hx => hsub x (List.mem_cons_of_mem _ hx)
    match k, hsub, hc, h with
    | 0, hsub, hc, h =>
      simp only [canonOk, Bool.and_eq_true] at hc
      obtain ⟨⟨hr, hf⟩, hc⟩ := hc
      obtain ⟨o, v, ho, hy, h⟩ := h
      exact wpAnyX_first ho (Region.noSelect_spec hs) (fun c a w => hQ c a _ v w) 3 (fun j hlj => lateOk_spec hl (hsub _ (List.mem_cons_self ..)) j hlj)
        t.len listed a w hcl (Region.free_spec ho hf) (by simpa using hr) hy (ih _ _ _ (hcl.set (by simpa using hr)) hsub' hc h)
    | 1, hsub, hc, h =>
      simp only [canonOk, Bool.and_eq_true, beq_iff_eq] at hc
      refine ⟨fun h0 => (by rw [hc.1] at h0; cases h0), fun j hj => ?_⟩
      rw [hc.1] at hj
      obtain rfl := List.mem_singleton.1 hj
      exact wpOp_mono (fun a' w' h' => ⟨fun _ => h'.1, ih _ _ _ (hcl.set (by simp [hc.1])) hsub' hc.2 h'.2⟩) h
    | k + 2, hsub, hc, h =>
      simp only [canonOk, Bool.and_eq_true, beq_iff_eq] at hc
      refine ⟨fun h0 => (by rw [hc.1] at h0; cases h0), fun j hj => ?_⟩
      rw [hc.1] at hj
      obtain rfl := List.mem_singleton.1 hj
      refine wpOp_mono (fun a' w' h' => ⟨fun hn => ?_, ih _ _ _ (hcl.set (by simp [hc.1])) hsub' hc.2 h'⟩) h
      exact absurd (show lateOf C0 j = true by
        simp only [lateOf, List.any_eq_true, Bool.and_eq_true, beq_iff_eq, decide_eq_true_eq]
        exact ⟨_, hsub _ (List.mem_cons_self ..), rfl, by simp⟩) (by simp [hn])
  | fork i k t j l u iht ihu =>
    intro listed a w hcl hsub hc h
    simp only [canonOk, Bool.and_eq_true, beq_iff_eq] at hc
    obtain ⟨⟨⟨hr, hlen⟩, h1⟩, h2⟩ := hc
    have hst : ∀ x ∈ t.flat, x ∈ C0 := fun x hx => hsub x (by simp [Tr.flat, hx])
    have hsu : ∀ x ∈ u.flat, x ∈ C0 := fun x hx => hsub x (by simp [Tr.flat, hx])
    refine ⟨fun h0 => (by rw [hr] at h0; cases h0), fun x hx => ?_⟩
    rw [hr] at hx
    rcases List.mem_cons.1 hx with rfl | hx
    · exact wpOp_mono (fun a' w' h' => ⟨fun _ => h'.1, iht _ _ _ (hcl.set (by simp [hr])) hst h1 h'.2⟩) h.1
    · obtain rfl := List.mem_singleton.1 hx
      refine wpOp_mono (fun a' w' h' => ⟨fun _ => h'.1, ?_⟩) h.2
      have := ihu _ _ _ (hcl.set (by simp [hr])) hsu h2 h'.2
      rw [hlen] at this
      exact this

/-- A region that draws its order, by one order. -/
theorem wp_region_E {id : Nat} {a : Act} {w : World} (p : Nat → Prop) (t : Tr) (hm : P.follows .mixedOrders = true) (hn : t.len = ops.size) (hs : Region.noSelect ops = true)
    (hl : lateOk .any ops t.flat = true) (hc : canonOk .any ops (Array.replicate ops.size false) t = true)
    (hQ : ∀ c a d v w, Q (.panic c) (a.put d v) w → Q (.panic c) a w) (h : wpE P ops p Q t a w.drew) : (Code.region id ops true).wp P Q a w := by
  refine wp_region_any hm (wpAny_ofX (p := p) (late := lateOf t.flat) _ _ _ _ ?_)
  have := wpAnyX_of_wpE (md := .any) t.flat hs hl hQ t (Array.replicate ops.size false) a w.drew (closed_none _) (fun x hx => hx) hc h
  rw [hn] at this
  exact this
end

end Go.Proofs.YtkhggobpanfkfaaDoor

/-
  The steps of the walk through a region that draws its order: which operations answer the same in every world, and what a load wants.
-/
namespace Go.Proofs.YtkhggobpanfkfaaDoor
open Go.RowKit

/-! ### Runs that never ask the world -/

def Dies (P : Program) {α : Type} : Sem α → Prop
  | .halt _ => True
  | .program k => Dies P (k P)
  | .mark _ k => Dies P k
  | .choose _ k => ∀ n, Dies P (k n)
  | .new _ k => ∀ n, Dies P (k n)
  | _ => False

def WF (P : Program) {α : Type} : Sem α → Prop
  | .pure _ => True
  | .halt _ => True
  | .program k => WF P (k P)
  | .mark _ k => WF P k
  | .choose _ k => ∀ n, Dies P (k n)
  | .new _ k => ∀ n, Dies P (k n)
  | _ => False

section
variable {P : Program} {α β : Type}

theorem Dies.not_ok : ∀ {s : Sem α}, Dies P s → ∀ {w w1 : World} {x : α}, s.run P w ≠ .ok x w1 := by
  intro s
  induction s with
  | halt h => intro _ w w1 x e; cases e
  | program k ih => intro h w w1 x; exact ih P h
  | mark m k ih => intro h w w1 x; exact ih h
  | choose q k ih =>
    intro h w w1 x
    simp only [Sem.run]
    split
    · exact ih _ (h _)
    · exact ih _ (h _)
  | new o k ih => intro h w w1 x; exact ih _ (h _)
  | _ => intro h; exact h.elim

theorem Dies.wf : ∀ {s : Sem α}, Dies P s → WF P s := by
  intro s
  induction s with
  | halt h => intro _; trivial
  | program k ih => intro h; exact ih P h
  | mark m k ih => intro h; exact ih h
  | choose q k ih => intro h n; exact h n
  | new o k ih => intro h n; exact h n
  | _ => intro h; exact h.elim

theorem Dies.bind {f : α → Sem β} : ∀ {s : Sem α}, Dies P s → Dies P (s.bind f) := by
  intro s
  induction s with
  | halt h => intro _; trivial
  | program k ih => intro h; exact ih P h
  | mark m k ih => intro h; exact ih h
  | choose q k ih => intro h n; exact ih n (h n)
  | new o k ih => intro h n; exact ih n (h n)
  | _ => intro h; exact h.elim

theorem WF.bind {f : α → Sem β} : ∀ {s : Sem α}, WF P s → (∀ a, WF P (f a)) → WF P (s >>= f) := by
  intro s
  show WF P s → _ → WF P (s.bind f)
  induction s with
  | pure a => intro _ hf; exact hf a
  | halt h => intro _ _; trivial
  | program k ih => intro h hf; exact ih P h hf
  | mark m k ih => intro h hf; exact ih h hf
  | choose q k ih => intro h hf n; exact (h n).bind
  | new o k ih => intro h hf n; exact (h n).bind
  | _ => intro h; exact h.elim

theorem WF.run : ∀ {s : Sem α}, WF P s → ∀ {w w1 : World} {x : α}, s.run P w = .ok x w1 → w1 = w ∧ ∀ w', s.run P w' = .ok x w' := by
  intro s
  induction s with
  | pure a => intro _ w w1 x e; simp only [Sem.run, Result.ok.injEq] at e; obtain ⟨rfl, rfl⟩ := e; exact ⟨rfl, fun _ => rfl⟩
  | halt h => intro _ w w1 x e; cases e
  | program k ih => intro h w w1 x e; exact ih P h e
  | mark m k ih => intro h w w1 x e; exact ih h e
  | choose q k ih =>
    intro h w w1 x e
    simp only [Sem.run] at e
    split at e <;> exact absurd e (h _).not_ok
  | new o k ih => intro h w w1 x e; exact absurd e (h _).not_ok
  | _ => intro h; exact h.elim

theorem wf_pure (a : α) : WF P (Pure.pure a : Sem α) := trivial
theorem wf_stuck (why : String) : WF P (stuck why : Sem α) := trivial
theorem wf_unsupported (u : Unsupported) : WF P (unsupported u : Sem α) := trivial
theorem wf_goPanic (v : Value) : WF P (goPanic v : Sem α) := trivial
theorem wf_program : WF P program := trivial
theorem wf_underlying (t : TypeId) : WF P (underlying t) := by
  refine wf_program.bind fun p => ?_
  cases p.underlying t <;> exact trivial
theorem wf_typeInfo (t : TypeId) : WF P (typeInfo t) := by
  refine wf_program.bind fun p => ?_
  cases p.info? t <;> exact trivial
theorem wf_sizeOf (t : TypeId) : WF P (sizeOf t) := (wf_typeInfo t).bind fun _ => trivial
theorem wf_zeroValue (t : TypeId) : WF P (zeroValue t) := by
  refine (wf_typeInfo t).bind fun i => ?_
  cases i.zero <;> exact trivial
theorem wf_isAgg (t : TypeId) : WF P (isAgg t) := by
  refine (wf_underlying t).bind fun d => ?_
  cases d <;> exact trivial
theorem wf_part (t : TypeId) (cs : Array Value) (off : Nat) : WF P (part t cs off) := by
  refine (wf_isAgg t).bind fun b => ?_
  cases b
  · show WF P (match cs[off]? with | some v => (Pure.pure v : Sem Value) | none => stuck "part: no such cell")
    cases cs[off]? <;> exact trivial
  · exact (wf_sizeOf t).bind fun _ => trivial
theorem wf_asIntOf (v : Value) : WF P (asIntOf v) := by
  cases v <;> first | exact trivial | (rename_i a; cases a <;> exact trivial)
theorem wf_asBool (v : Value) : WF P (asBool v) := by cases v <;> exact trivial
theorem wf_asString (v : Value) : WF P (asString v) := by cases v <;> exact trivial
theorem wf_asAgg (v : Value) : WF P (asAgg v) := by cases v <;> exact trivial
theorem WF.dies {f : α → Sem β} : ∀ {s : Sem α}, WF P s → (∀ a, Dies P (f a)) → Dies P (s >>= f) := by
  intro s
  show WF P s → _ → Dies P (s.bind f)
  induction s with
  | pure a => intro _ hf; exact hf a
  | halt h => intro _ _; trivial
  | program k ih => intro h hf; exact ih P h hf
  | mark m k ih => intro h hf; exact ih h hf
  | choose q k ih => intro h hf n; exact (h n).bind
  | new o k ih => intro h hf n; exact (h n).bind
  | _ => intro h; exact h.elim
theorem wf_elemOf (t : TypeId) : WF P (elemOf t) := by
  refine (wf_underlying t).bind fun d => ?_
  cases d <;> exact trivial
theorem dies_newVar {f : Addr → Sem β} (t : TypeId) (v : Value) (hf : ∀ a, Dies P (f a)) : Dies P (newVar t v >>= f) := fun _ => hf _
theorem dies_goPanic (v : Value) : Dies P (goPanic v : Sem α) := trivial
theorem dies_stuck (why : String) : Dies P (stuck why : Sem α) := trivial
theorem dies_runtimePanic (e : RuntimeError) : Dies P (runtimePanic e : Sem α) := by
  refine wf_program.dies fun p => ?_
  cases e with
  | typeAssertion i c a m => exact (wf_elemOf _).dies fun _ => dies_newVar _ _ fun _ => trivial
  | panicNil => exact (wf_elemOf _).dies fun _ => dies_newVar _ _ fun _ => trivial
  | _ => exact trivial
theorem dies_boundsPanic (k : IntKind) (x y : Int) (c : BoundsCode) : Dies P (boundsPanic k x y c : Sem α) := by
  unfold boundsPanic
  dsimp only
  split
  · exact fun n => show Dies P (runtimePanic (.bounds (IntKind.i64.wrap x) y (n == 1) c) : Sem α) from dies_runtimePanic _
  · exact show Dies P (runtimePanic (.bounds (IntKind.i64.wrap x) y (k != IntKind.u64) c) : Sem α) from dies_runtimePanic _
theorem wf_sureAddr (v : Value) : WF P (Instr.sureAddr v) := by
  cases v <;> first | exact trivial | (rename_i a; cases a <;> exact trivial)

theorem wf_ite {c : Prop} [Decidable c] {x y : Sem α} (hx : WF P x) (hy : WF P y) : WF P (if c then x else y) := by split <;> assumption

theorem wf_indexAt (t : TypeId) (x i : Value) : WF P (Instr.indexAt t x i) := by
  unfold Instr.indexAt
  try dsimp only
  repeat' (first
    | exact trivial | exact wf_underlying _ | exact wf_sureAddr _ | exact wf_sizeOf _ | exact wf_asIntOf _ | exact wf_asBool _ | exact wf_asString _ | exact wf_asAgg _ | exact wf_part _ _ _ | exact wf_zeroValue _ | exact wf_typeInfo _ | exact wf_isAgg _ | exact (dies_boundsPanic ..).wf | exact (dies_runtimePanic ..).wf
    | (refine WF.bind ?_ fun _ => ?_) | split | dsimp only)
theorem wf_index (t : TypeId) (x i : Value) : WF P (Instr.index t x i) := by
  unfold Instr.index
  try dsimp only
  repeat' (first
    | exact trivial | exact wf_underlying _ | exact wf_sureAddr _ | exact wf_sizeOf _ | exact wf_asIntOf _ | exact wf_asBool _ | exact wf_asString _ | exact wf_asAgg _ | exact wf_part _ _ _ | exact wf_zeroValue _ | exact wf_typeInfo _ | exact wf_isAgg _ | exact (dies_boundsPanic ..).wf | exact (dies_runtimePanic ..).wf
    | (refine WF.bind ?_ fun _ => ?_) | split | dsimp only)
theorem wf_field (t : TypeId) (x : Value) (f : Nat) : WF P (Instr.field t x f) := by
  unfold Instr.field
  try dsimp only
  repeat' (first
    | exact trivial | exact wf_underlying _ | exact wf_sureAddr _ | exact wf_sizeOf _ | exact wf_asIntOf _ | exact wf_asBool _ | exact wf_asString _ | exact wf_asAgg _ | exact wf_part _ _ _ | exact wf_zeroValue _ | exact wf_typeInfo _ | exact wf_isAgg _ | exact (dies_boundsPanic ..).wf | exact (dies_runtimePanic ..).wf
    | (refine WF.bind ?_ fun _ => ?_) | split | dsimp only)
theorem wf_extract (x : Value) (i : Nat) : WF P (Instr.extract x i) := by
  unfold Instr.extract
  try dsimp only
  repeat' (first
    | exact trivial | exact wf_underlying _ | exact wf_sureAddr _ | exact wf_sizeOf _ | exact wf_asIntOf _ | exact wf_asBool _ | exact wf_asString _ | exact wf_asAgg _ | exact wf_part _ _ _ | exact wf_zeroValue _ | exact wf_typeInfo _ | exact wf_isAgg _ | exact (dies_boundsPanic ..).wf | exact (dies_runtimePanic ..).wf
    | (refine WF.bind ?_ fun _ => ?_) | split | dsimp only)
theorem wf_sliceBound (x : Value) (y : Nat) (c : BoundsCode) : WF P (Instr.sliceBound x y c) := by
  unfold Instr.sliceBound
  try dsimp only
  repeat' (first
    | exact trivial | exact wf_underlying _ | exact wf_sureAddr _ | exact wf_sizeOf _ | exact wf_asIntOf _ | exact wf_asBool _ | exact wf_asString _ | exact wf_asAgg _ | exact wf_part _ _ _ | exact wf_zeroValue _ | exact wf_typeInfo _ | exact wf_isAgg _ | exact (dies_boundsPanic ..).wf | exact (dies_runtimePanic ..).wf
    | (refine WF.bind ?_ fun _ => ?_) | split | dsimp only)
theorem wf_sliceBounds (b : Bool) (l c : Nat) (lo hi mx : Option Value) : WF P (Instr.sliceBounds b l c lo hi mx) := by
  unfold Instr.sliceBounds
  try dsimp only
  repeat' (first
    | exact trivial | exact wf_underlying _ | exact wf_sureAddr _ | exact wf_sizeOf _ | exact wf_asIntOf _ | exact wf_asBool _ | exact wf_asString _ | exact wf_asAgg _ | exact wf_part _ _ _ | exact wf_zeroValue _ | exact wf_typeInfo _ | exact wf_isAgg _ | exact wf_sliceBound _ _ _ | exact (dies_boundsPanic ..).wf | exact (dies_runtimePanic ..).wf
    | (refine WF.bind ?_ fun _ => ?_) | split | dsimp only)
theorem wf_asAddr (v : Value) : WF P (asAddr v) := by
  cases v <;> first | exact trivial | (rename_i a; cases a <;> first | exact trivial | exact (dies_runtimePanic ..).wf)
theorem wf_slice (t : TypeId) (x : Value) (lo hi mx : Option Value) : WF P (Instr.slice t x lo hi mx) := by
  unfold Instr.slice
  try dsimp only
  repeat' (first
    | exact trivial | exact wf_underlying _ | exact wf_sureAddr _ | exact wf_sizeOf _ | exact wf_asIntOf _ | exact wf_asBool _ | exact wf_asString _ | exact wf_asAgg _ | exact wf_part _ _ _ | exact wf_zeroValue _ | exact wf_typeInfo _ | exact wf_isAgg _ | exact wf_sliceBounds _ _ _ _ _ _ | exact wf_asAddr _ | exact (dies_boundsPanic ..).wf | exact (dies_runtimePanic ..).wf
    | (refine WF.bind ?_ fun _ => ?_) | split | dsimp only)
theorem wf_sliceAt (t : TypeId) (x : Value) (lo hi mx : Option Value) : WF P (Instr.sliceAt t x lo hi mx) := by
  unfold Instr.sliceAt
  try dsimp only
  repeat' (first
    | exact trivial | exact wf_underlying _ | exact wf_sureAddr _ | exact wf_sizeOf _ | exact wf_asIntOf _ | exact wf_asBool _ | exact wf_asString _ | exact wf_asAgg _ | exact wf_part _ _ _ | exact wf_zeroValue _ | exact wf_typeInfo _ | exact wf_isAgg _ | exact wf_sliceBounds _ _ _ _ _ _ | exact wf_asAddr _ | exact wf_slice _ _ _ _ _ | exact (dies_boundsPanic ..).wf | exact (dies_runtimePanic ..).wf
    | (refine WF.bind ?_ fun _ => ?_) | split | dsimp only)
theorem wf_makeInterface (t : TypeId) (x : Value) : WF P (Instr.makeInterface t x) := by
  unfold Instr.makeInterface
  try dsimp only
  repeat' (first
    | exact trivial | exact wf_underlying _ | exact wf_sureAddr _ | exact wf_sizeOf _ | exact wf_asIntOf _ | exact wf_asBool _ | exact wf_asString _ | exact wf_asAgg _ | exact wf_part _ _ _ | exact wf_zeroValue _ | exact wf_typeInfo _ | exact wf_isAgg _ | exact (dies_boundsPanic ..).wf | exact (dies_runtimePanic ..).wf
    | (refine WF.bind ?_ fun _ => ?_) | split | dsimp only)
theorem wf_intArith (o : BinOp) (k : IntKind) (x y : Int) : WF P (Op.intArith o k x y) := by
  unfold Op.intArith
  try dsimp only
  repeat' (first
    | exact trivial | exact wf_underlying _ | exact wf_sureAddr _ | exact wf_sizeOf _ | exact wf_asIntOf _ | exact wf_asBool _ | exact wf_asString _ | exact wf_asAgg _ | exact wf_part _ _ _ | exact wf_zeroValue _ | exact wf_typeInfo _ | exact wf_isAgg _ | exact (dies_boundsPanic ..).wf | exact (dies_runtimePanic ..).wf
    | (refine WF.bind ?_ fun _ => ?_) | split | dsimp only)
theorem wf_intDiv (o : BinOp) (k : IntKind) (x y : Int) : WF P (Op.intDiv o k x y) := by
  unfold Op.intDiv
  try dsimp only
  repeat' (first
    | exact trivial | exact wf_underlying _ | exact wf_sureAddr _ | exact wf_sizeOf _ | exact wf_asIntOf _ | exact wf_asBool _ | exact wf_asString _ | exact wf_asAgg _ | exact wf_part _ _ _ | exact wf_zeroValue _ | exact wf_typeInfo _ | exact wf_isAgg _ | exact (dies_boundsPanic ..).wf | exact (dies_runtimePanic ..).wf
    | (refine WF.bind ?_ fun _ => ?_) | split | dsimp only)
theorem wf_intBits (o : BinOp) (k : IntKind) (x y : Int) : WF P (Op.intBits o k x y) := by
  unfold Op.intBits
  try dsimp only
  repeat' (first
    | exact trivial | exact wf_underlying _ | exact wf_sureAddr _ | exact wf_sizeOf _ | exact wf_asIntOf _ | exact wf_asBool _ | exact wf_asString _ | exact wf_asAgg _ | exact wf_part _ _ _ | exact wf_zeroValue _ | exact wf_typeInfo _ | exact wf_isAgg _ | exact (dies_boundsPanic ..).wf | exact (dies_runtimePanic ..).wf
    | (refine WF.bind ?_ fun _ => ?_) | split | dsimp only)
theorem wf_intCmp (o : BinOp) (x y : Int) : WF P (Op.intCmp o x y) := by
  unfold Op.intCmp
  try dsimp only
  repeat' (first
    | exact trivial | exact wf_underlying _ | exact wf_sureAddr _ | exact wf_sizeOf _ | exact wf_asIntOf _ | exact wf_asBool _ | exact wf_asString _ | exact wf_asAgg _ | exact wf_part _ _ _ | exact wf_zeroValue _ | exact wf_typeInfo _ | exact wf_isAgg _ | exact (dies_boundsPanic ..).wf | exact (dies_runtimePanic ..).wf
    | (refine WF.bind ?_ fun _ => ?_) | split | dsimp only)
theorem wf_shift (o : BinOp) (k : IntKind) (x : Int) (k' : IntKind) (y : Int) : WF P (Op.shift o k x k' y) := by
  unfold Op.shift
  try dsimp only
  repeat' (first
    | exact trivial | exact wf_underlying _ | exact wf_sureAddr _ | exact wf_sizeOf _ | exact wf_asIntOf _ | exact wf_asBool _ | exact wf_asString _ | exact wf_asAgg _ | exact wf_part _ _ _ | exact wf_zeroValue _ | exact wf_typeInfo _ | exact wf_isAgg _ | exact (dies_boundsPanic ..).wf | exact (dies_runtimePanic ..).wf
    | (refine WF.bind ?_ fun _ => ?_) | split | dsimp only)
theorem wf_stringOp (o : BinOp) (x y : ByteArray) : WF P (Op.stringOp o x y) := by
  unfold Op.stringOp
  try dsimp only
  repeat' (first
    | exact trivial | exact wf_underlying _ | exact wf_sureAddr _ | exact wf_sizeOf _ | exact wf_asIntOf _ | exact wf_asBool _ | exact wf_asString _ | exact wf_asAgg _ | exact wf_part _ _ _ | exact wf_zeroValue _ | exact wf_typeInfo _ | exact wf_isAgg _ | exact (dies_boundsPanic ..).wf | exact (dies_runtimePanic ..).wf
    | (refine WF.bind ?_ fun _ => ?_) | split | dsimp only)
theorem wf_unary (o : UnOp) (x : Value) : WF P (Op.unary o x) := by
  unfold Op.unary
  try dsimp only
  repeat' (first
    | exact trivial | exact wf_underlying _ | exact wf_sureAddr _ | exact wf_sizeOf _ | exact wf_asIntOf _ | exact wf_asBool _ | exact wf_asString _ | exact wf_asAgg _ | exact wf_part _ _ _ | exact wf_zeroValue _ | exact wf_typeInfo _ | exact wf_isAgg _ | exact wf_intArith _ _ _ _ | exact wf_intBits _ _ _ _ | exact (dies_boundsPanic ..).wf | exact (dies_runtimePanic ..).wf
    | (refine WF.bind ?_ fun _ => ?_) | split | dsimp only)
end

end Go.Proofs.YtkhggobpanfkfaaDoor

/-
  The walk through a region that draws its order: its steps, one lemma for each kind of operation. No condition of the program but FieldsOk (no field of a struct is of size 0).
-/
namespace Go.Proofs.YtkhggobpanfkfaaDoor
open Go.RowKit

/-- This field of this struct is not of size 0. -/
def fieldOk (P : Program) (s : TypeId) (f : Nat) : Bool := match P.underlying s with
  | some (.struct fs) => (match fs[f]? with
    | some fd => (match P.info? fd.type with
      | some i => i.size != 0
      | none => false)
    | none => false)
  | _ => false

/-- Only cells of block b are asked. -/
def LS (P : Program) (b : Nat) {α : Type} : Sem α → Prop
  | .pure _ => True
  | .halt _ => True
  | .program k => LS P b (k P)
  | .mark _ k => LS P b k
  | .load _ a k => a.block = b ∧ ∀ v, LS P b (k v)
  | _ => False

section
variable {P : Program} {α β : Type} {b : Nat}

theorem LS.bind {f : α → Sem β} : ∀ {s : Sem α}, LS P b s → (∀ a, LS P b (f a)) → LS P b (s >>= f) := by
  intro s
  show LS P b s → _ → LS P b (s.bind f)
  induction s with
  | pure a => intro _ hf; exact hf a
  | halt h => intro _ _; trivial
  | program k ih => intro h hf; exact ih P h hf
  | mark m k ih => intro h hf; exact ih h hf
  | load m a k ih => intro h hf; exact ⟨h.1, fun v => ih v (h.2 v) hf⟩
  | _ => intro h; exact h.elim

theorem LS.run : ∀ {s : Sem α}, LS P b s → ∀ {w w1 : World} {x : α} {cs : Array Value} {t : TypeId} {fz : Nat × Nat}, w.heap[b]? = some (.cells cs t fz) → s.run P w = .ok x w1 →
    w1 = w ∧ ∀ w', w'.heap[b]? = w.heap[b]? → s.run P w' = .ok x w' := by
  intro s
  induction s with
  | pure a => intro _ w w1 x _ _ _ _ e; simp only [Sem.run, Result.ok.injEq] at e; obtain ⟨rfl, rfl⟩ := e; exact ⟨rfl, fun _ _ => rfl⟩
  | halt h => intro _ w w1 x _ _ _ _ e; cases e
  | program k ih => intro h w w1 x _ _ _ hb e; exact ih P h hb e
  | mark m k ih => intro h w w1 x _ _ _ hb e; exact ih h hb e
  | load m a k ih =>
    intro h w w1 x cs t fz hb e
    obtain ⟨rfl, hk⟩ := h
    simp only [Sem.run] at e
    have same : ∀ w' : World, w'.heap[a.block]? = w.heap[a.block]? → w'.cell? a = w.cell? a := fun w' hw => World.cell?_of_block (w := w) hw
    cases hc : w.cell? a with
    | some v =>
      simp only [hc] at e
      obtain ⟨h1, h2⟩ := ih v (hk v) hb e
      refine ⟨h1, fun w' hw => ?_⟩
      simp only [Sem.run, same w' hw, hc]
      exact h2 w' hw
    | none =>
      simp only [hc, World.farLoad, hb] at e
      cases e
  | _ => intro h; exact h.elim

theorem ls_of_wf_pure (a : α) : LS P b (Pure.pure a : Sem α) := trivial
theorem ls_underlying (t : TypeId) : LS P b (underlying t) := by
  show LS P b (match P.underlying t with | some d => (Pure.pure d : Sem TypeDesc) | none => stuck _)
  cases P.underlying t <;> exact trivial
theorem ls_sizeOf (t : TypeId) : LS P b (sizeOf t) := by
  show LS P b ((match P.info? t with | some d => (Pure.pure d : Sem TypeInfo) | none => stuck _) >>= fun i => Pure.pure i.size)
  cases P.info? t <;> exact trivial
theorem ls_isAgg (t : TypeId) : LS P b (isAgg t) := by
  refine (ls_underlying t).bind fun d => ?_
  cases d <;> exact trivial
theorem Addr.add_block (a : Addr) (n : Nat) : (a.add n).block = a.block := by unfold Addr.add; split <;> rfl
theorem ls_loadCellsFrom (a : Addr) (ha : a.block = b) : ∀ (n i : Nat) (acc : Array Value), LS P b (loadCellsFrom a i n acc)
  | 0, i, acc => trivial
  | n + 1, i, acc => by
    show LS P b (load (a.add i) >>= _)
    exact ⟨(Addr.add_block a i).trans ha, fun v => ls_loadCellsFrom a ha n (i + 1) _⟩
theorem ls_loadVar (t : TypeId) (a : Addr) (ha : a.block = b) : LS P b (loadVar t a) := by
  unfold loadVar
  refine (ls_isAgg t).bind fun c => ?_
  cases c
  · exact ⟨ha, fun v => trivial⟩
  · exact (ls_sizeOf t).bind fun n => (ls_loadCellsFrom a ha n 0 _).bind fun _ => trivial

theorem wf_fieldAt (s : TypeId) (x : Value) (f : Nat) (hP : fieldOk P s f = true) : WF P (Instr.fieldAt s x f) := by
  unfold Instr.fieldAt
  change WF P (Sem.bind (match P.underlying s with | some d => (Pure.pure d : Sem TypeDesc) | none => stuck "no such type") _)
  cases h : P.underlying s with
  | none => exact trivial
  | some d =>
    cases d <;> try exact trivial
    rename_i fs
    change WF P (match fs[f]? with | some f => _ | _ => _)
    cases hf : fs[f]? with
    | none => exact trivial
    | some fd =>
      refine (wf_sureAddr x).bind fun a => ?_
      refine WF.bind ?_ fun _ => trivial
      unfold fieldPlace
      change WF P (Sem.bind (Sem.bind (match P.info? fd.type with | some d => (Pure.pure d : Sem TypeInfo) | none => stuck "no such type") _) _)
      cases hi : P.info? fd.type with
      | none => exact trivial
      | some i =>
        change WF P (if i.size = 0 then _ else _)
        rw [if_neg (by intro e; simp [fieldOk, h, hf, hi, e] at hP)]
        exact trivial

theorem wf_foldlM {f : β → α → Sem β} (hf : ∀ b a, WF P (f b a)) : ∀ (l : List α) (b : β), WF P (l.foldlM f b)
  | [], b => trivial
  | a :: l, b => by rw [List.foldlM_cons]; exact (hf b a).bind fun b' => wf_foldlM hf l b'
theorem wf_mapM {f : α → Sem β} (hf : ∀ a, WF P (f a)) (xs : Array α) : WF P (xs.mapM f) := by
  rw [Array.mapM_eq_foldlM, ← Array.foldlM_toList]
  exact wf_foldlM (fun b a => WF.bind (hf a) fun v => show WF P (Pure.pure (b.push v) : Sem (Array β)) from trivial) _ _
theorem wf_build (t : TypeId) (parts : Array (Nat × Value)) : WF P (Instr.build t parts) := by
  unfold Instr.build
  refine (wf_zeroValue t).bind fun z => (wf_underlying t).bind fun d => ?_
  cases d <;> try exact trivial
  · refine (wf_sizeOf _).bind fun n => ?_
    split <;> exact trivial
  · refine (wf_mapM (fun (f : Field) => WF.bind (wf_sizeOf f.type) fun n => show WF P (Pure.pure (f.offset, n) : Sem (Nat × Nat)) from trivial) _).bind fun n => ?_
    split <;> exact trivial

theorem wf_binOp_int (op : BinOp) (t : TypeId) (k k' : IntKind) (x y : Int) : WF P (binOp op t (.int k x) (.int k' y)) := by
  cases op <;> simp only [binOp] <;> first
    | exact wf_shift _ _ _ _ _
    | (refine wf_ite trivial ?_; first | exact wf_intArith _ _ _ _ | exact wf_intDiv _ _ _ _ | exact wf_intBits _ _ _ _ | exact wf_intCmp _ _ _)
theorem wf_binOp_string (op : BinOp) (t : TypeId) (x y : ByteArray) : WF P (binOp op t (.string x) (.string y)) := by
  cases op <;> simp only [binOp] <;> exact wf_stringOp _ _ _
theorem wf_equal_bool (t : TypeId) (x y : Bool) : WF P (Op.equal t (.bool x) (.bool y)) := by
  show WF P (Op.equalIn (9999 + 1) t (.bool x) (.bool y))
  rw [Op.equalIn]
  refine (wf_underlying t).bind fun d => ?_
  cases d <;> exact trivial
theorem wf_binOp_bool (op : BinOp) (t : TypeId) (x y : Bool) : WF P (binOp op t (.bool x) (.bool y)) := by
  cases op <;> simp only [binOp] <;> first | exact trivial | exact (wf_equal_bool t x y).bind fun _ => trivial

/-- Operations that answer the same in every world (a load apart). -/
def softOp (ρ : Operand → Value) : Op → Bool
  | .move _ | .assign _ | .fieldAddr .. | .field .. | .indexAddr .. | .index .. | .slice .. | .unOp .. | .extract .. | .makeInterface .. | .pick .. | .build .. => true
  | .nilCheck x => match ρ x with | .pointer (some _) => true | _ => false
  | .binOp _ _ x y _ => match ρ x, ρ y with | .int .., .int .. | .string _, .string _ | .bool _, .bool _ => true | _, _ => false
  | .convert _ _ x => match ρ x with | .int .. => true | _ => false
  | .call c => match c.callee with | .builtin .len => (match c.args[0]? with | some x => (match ρ x with | .slice .. | .string _ => true | _ => false) | none => false) | _ => false
  | _ => false

theorem wf_value {s : Sem Value} (h : WF P s) : WF P (do pure (Next.value (← s)) : Sem Next) := h.bind fun _ => trivial

theorem wf_len (ats : Array TypeId) (ty : TypeId) (args : Array Value) (h : (match args[0]? with | some (.slice ..) | some (.string _) => true | _ => false) = true) : WF P (Builtin.len_ ats ty args) := by
  unfold Builtin.len_
  cases h0 : ats[0]? with
  | none => exact trivial
  | some t =>
    cases h1 : args[0]? with
    | none => exact trivial
    | some x =>
      simp only [h1] at h
      refine (wf_underlying t).bind fun d => ?_
      cases x <;> first | (simp at h; done) | skip
      all_goals cases d <;> first | exact trivial | exact (wf_underlying _).bind fun d' => (by cases d' <;> exact trivial)

theorem wf_intToInt (k : IntKind) (n : Int) : WF P (Conv.intToInt k n) := trivial

theorem wf_convert_int (src dst : TypeId) (k : IntKind) (n : Int) (h : ∃ k', P.underlying dst = some (.int k')) : WF P (convert src dst (.int k n)) := by
  obtain ⟨k', h⟩ := h
  unfold convert
  refine (wf_underlying src).bind fun d => ?_
  change WF P (Sem.bind (match P.underlying dst with | some d => (Pure.pure d : Sem TypeDesc) | none => stuck "no such type") _)
  rw [h]
  cases d <;> exact trivial

theorem soft_wf {ρ : Operand → Value} {o : Oper} (h : softOp ρ o.op = true) (hP : ∀ s x f, o.op = .fieldAddr s x f → fieldOk P s f = true) (hc : ∀ s d x, o.op = .convert s d x → ∃ k', P.underlying d = some (.int k')) : WF P (execOp ρ o) := by
  obtain ⟨dst, op, type, pos, after, guard⟩ := o
  cases op <;> simp only [softOp] at h <;> first | (cases h; done) | skip
  case move x => exact trivial
  case assign x => exact trivial
  case pick c a b => exact (wf_asBool _).bind fun _ => trivial
  case nilCheck x =>
    simp only [execOp]
    cases hx : ρ x <;> simp only [hx] at h <;> first | (cases h; done) | skip
    rename_i a
    cases a
    · cases h
    · exact trivial
  case binOp op t x y yt =>
    simp only [execOp]
    refine wf_value ?_
    refine WF.bind ?_ fun _ => ?_
    · unfold eqGuard
      cases hx : ρ x <;> simp only [hx] at h <;> first | (cases h; done) | skip
      all_goals cases hy : ρ y <;> simp only [hy] at h <;> first | (cases h; done) | skip
      all_goals (dsimp only; split <;> exact trivial)
    · cases hx : ρ x <;> simp only [hx] at h <;> first | (cases h; done) | skip
      all_goals cases hy : ρ y <;> simp only [hy] at h <;> first | (cases h; done) | skip
      · exact wf_binOp_bool _ _ _ _
      · exact wf_binOp_int _ _ _ _ _ _
      · exact wf_binOp_string _ _ _ _
  case unOp op t x => exact wf_value (wf_unary _ _)
  case convert s d x =>
    simp only [execOp]
    refine wf_value ?_
    cases hx : ρ x <;> simp only [hx] at h <;> first | (cases h; done) | skip
    exact wf_convert_int _ _ _ _ (hc s d x rfl)
  case makeInterface t x => exact wf_value (wf_makeInterface _ _)
  case build t ps => exact wf_value (wf_build _ _)
  case slice t x lo hi mx => exact wf_value (wf_sliceAt _ _ _ _ _)
  case fieldAddr s x f => exact wf_value (wf_fieldAt _ _ _ (hP s x f rfl))
  case field t x f => exact wf_value (wf_field _ _ _)
  case indexAddr t x i => exact wf_value (wf_indexAt _ _ _)
  case index t x i => exact wf_value (wf_index _ _ _)
  case extract t i => exact wf_value (wf_extract _ _)
  case call c =>
    obtain ⟨callee, args, ats⟩ := c
    cases callee <;> first | (simp at h; done) | skip
    rename_i bb
    cases bb <;> first | (simp at h; done) | skip
    simp only [execOp, resolve]
    refine wf_value (wf_len _ _ _ ?_)
    cases h0 : args[0]? with
    | none => simp [h0] at h
    | some x =>
      simp only [Array.getElem?_map, h0, Option.map_some]
      simp only [h0] at h
      cases hx : ρ x <;> simp [hx] at h ⊢

theorem val_of {s : Sem Value} {w w1 : World} {n : Next} (h : (do pure (Next.value (← s)) : Sem Next).run P w = .ok n w1) : ∃ v, n = .value v := by
  simp only [Sem.run_bind, Sem.run_pure] at h
  cases hr : s.run P w <;> simp only [hr, Result.andThen_ok, Result.andThen_halt, Result.ok.injEq] at h
  · exact ⟨_, h.1.symm⟩
  · cases h

theorem soft_value {ρ : Operand → Value} {o : Oper} (h : softOp ρ o.op = true) {w w1 : World} {n : Next} (hr : (execOp ρ o).run P w = .ok n w1) : ∃ v, n = .value v := by
  obtain ⟨dst, op, type, pos, after, guard⟩ := o
  cases op <;> simp only [softOp] at h <;> first | (cases h; done) | skip
  case move x => simp only [execOp, Sem.run_pure, Result.ok.injEq] at hr; exact ⟨_, hr.1.symm⟩
  case assign x => simp only [execOp, Sem.run_pure, Result.ok.injEq] at hr; exact ⟨_, hr.1.symm⟩
  case pick c a b =>
    simp only [execOp, Sem.run_bind] at hr
    cases hb : (asBool (ρ c)).run P w <;> simp only [hb, Result.andThen_ok, Result.andThen_halt, Sem.run_pure, Result.ok.injEq] at hr
    · exact ⟨_, hr.1.symm⟩
    · cases hr
  case nilCheck x =>
    simp only [execOp] at hr
    cases hx : ρ x <;> simp only [hx] at h <;> first | (cases h; done) | skip
    rename_i a
    cases a
    · cases h
    · simp only [hx, Sem.run_pure, Result.ok.injEq] at hr; exact ⟨_, hr.1.symm⟩
  case call c =>
    obtain ⟨callee, args, ats⟩ := c
    cases callee <;> first | (simp at h; done) | skip
    rename_i bb
    cases bb <;> first | (simp at h; done) | skip
    exact val_of hr
  all_goals exact val_of hr

/-- Nobody leaves by it. -/
def noQ : Exit → Act → World → Prop := fun _ _ _ => False

variable {ops : Array Oper} {Q : Exit → Act → World → Prop} {p : Nat → Prop} {C : Tr} {a : Act} {w : World} {o : Oper} {i : Nat}

theorem wpE_of_run (ho : ops[i]? = some o) (hw : Region.wanted o (yielded ops a.tmps) = true)
    (hrun : ∀ n w1, (execOp a.eval o).run P w = .ok n w1 → w1 = w ∧ (∃ v, n = .value v) ∧ ∀ w', Ex p w w' → (execOp a.eval o).run P w' = .ok n w')
    (h : ∀ K : Act → World → Prop, (∀ a', wpE P ops p Q C a' w → K a' w) → o.wp P a w K noQ) : wpE P ops p Q (.op i 0 C) a w := by
  have h1 := h (fun a' w' => w' = w ∧ wpE P ops p Q C a' w') (fun a' h => ⟨rfl, h⟩)
  unfold Oper.wp at h1
  cases hr : (execOp a.eval o).run P w with
  | ok n w1 =>
    obtain ⟨rfl, ⟨v, rfl⟩, h3⟩ := hrun n w1 hr
    rw [hr] at h1
    exact ⟨o, v, ho, .inl ⟨hw, h3⟩, h1.2⟩
  | halt x w1 =>
    rw [hr] at h1
    cases x <;> exact h1.elim

theorem wpE_soft (ho : ops[i]? = some o) (hw : Region.wanted o (yielded ops a.tmps) = true) (hs : softOp a.eval o.op = true) (hc : (match o.op with | .convert .. => false | .fieldAddr .. => false | _ => true) = true)
    (h : ∀ K : Act → World → Prop, (∀ a', wpE P ops p Q C a' w → K a' w) → o.wp P a w K noQ) : wpE P ops p Q (.op i 0 C) a w :=
  wpE_of_run ho hw (fun n w1 hr =>
    have hwf := soft_wf hs (fun s x f e => by rw [e] at hc; cases hc) (fun s d x e => by rw [e] at hc; cases hc)
    ⟨(hwf.run hr).1, soft_value hs hr, fun w' _ => (hwf.run hr).2 w'⟩) h

theorem wpE_field {s : TypeId} {x : Operand} {f : Nat} (ho : ops[i]? = some o) (hw : Region.wanted o (yielded ops a.tmps) = true) (hop : o.op = .fieldAddr s x f) (hP : fieldOk P s f = true)
    (h : ∀ K : Act → World → Prop, (∀ a', wpE P ops p Q C a' w → K a' w) → o.wp P a w K noQ) : wpE P ops p Q (.op i 0 C) a w := by
  have hex : execOp a.eval o = (do pure (Next.value (← Instr.fieldAt s (a.eval x) f)) : Sem Next) := by
    unfold execOp
    rw [hop]
  have hwf : WF P (execOp a.eval o) := by rw [hex]; exact wf_value (wf_fieldAt s _ f hP)
  exact wpE_of_run ho hw (fun n w1 hr => ⟨(hwf.run hr).1, by rw [hex] at hr; exact val_of hr, fun w' _ => (hwf.run hr).2 w'⟩) h

theorem wpE_conv {s d : TypeId} {x : Operand} {k k' : IntKind} {n : Int} (ho : ops[i]? = some o) (hw : Region.wanted o (yielded ops a.tmps) = true) (hop : o.op = .convert s d x) (hx : a.eval x = .int k' n) (hd : P.underlying d = some (.int k))
    (h : ∀ K : Act → World → Prop, (∀ a', wpE P ops p Q C a' w → K a' w) → o.wp P a w K noQ) : wpE P ops p Q (.op i 0 C) a w := by
  have hex : execOp a.eval o = (do pure (Next.value (← convert s d (.int k' n))) : Sem Next) := by
    unfold execOp
    rw [hop]
    simp only [hx]
  have hwf : WF P (execOp a.eval o) := by rw [hex]; exact wf_value (wf_convert_int s d k' n ⟨k, hd⟩)
  exact wpE_of_run ho hw (fun n w1 hr => ⟨(hwf.run hr).1, by rw [hex] at hr; exact val_of hr, fun w' _ => (hwf.run hr).2 w'⟩) h

theorem wpE_load {t : TypeId} {x : Operand} {b off : Nat} (ho : ops[i]? = some o) (hw : Region.wanted o (yielded ops a.tmps) = true) (hop : o.op = .load t x) (hx : a.eval x = .pointer (some ⟨b, off, none⟩))
    (hp : p b) (hcell : (w.cell? ⟨b, off, none⟩).isSome = true)
    (h : ∀ K : Act → World → Prop, (∀ a', wpE P ops p Q C a' w → K a' w) → o.wp P a w K noQ) : wpE P ops p Q (.op i 0 C) a w := by
  refine wpE_of_run ho hw (fun n w1 hr => ?_) h
  have hb : ∃ cs t fz, w.heap[b]? = some (.cells cs t fz) := by
    unfold World.cell? at hcell
    split at hcell
    · exact ⟨_, _, _, ‹_›⟩
    · cases hcell
  obtain ⟨cs, t', fz, hb⟩ := hb
  have hex : execOp a.eval o = (do pure (Next.value (← loadVar t ⟨b, off, none⟩)) : Sem Next) := by
    unfold execOp
    rw [hop]
    simp only [hx, Instr.loadAt, Instr.sureAddr]
    rfl
  have hls : LS P b (execOp a.eval o) := by
    rw [hex]
    exact LS.bind (ls_loadVar t ⟨b, off, none⟩ rfl) (fun v => show LS P b (Pure.pure (Next.value v) : Sem Next) from trivial)
  obtain ⟨h1, h2⟩ := hls.run hb hr
  have hlt : b < w.heap.size := (Array.getElem?_eq_some_iff.1 hb).1
  exact ⟨h1, by rw [hex] at hr; exact val_of hr, fun w' hx => h2 w' (hx.2 b hp hlt)⟩

theorem wpE_skip (ho : ops[i]? = some o) (hw : Region.wanted o (yielded ops a.tmps) = false) (h : wpE P ops p Q C (a.put o.dst undef) w) : wpE P ops p Q (.op i 0 C) a w :=
  ⟨o, undef, ho, .inr ⟨hw, rfl⟩, h⟩

theorem wpE_eff (ho : ops[i]? = some o) (hw : Region.wanted o (yielded ops a.tmps) = true)
    (h : ∀ K : Act → World → Prop, (∀ a' w', (Ex p w w' ∧ wpE P ops p Q C a' w') → K a' w') → o.wp P a w K Q) : wpE P ops p Q (.op i 1 C) a w := by
  show wpOp P ops Q i _ a w
  unfold wpOp
  simp only [ho, hw, if_true]
  exact .inl (h _ fun _ _ h => h)

theorem wpE_effSkip (ho : ops[i]? = some o) (hw : Region.wanted o (yielded ops a.tmps) = false) (h : wpE P ops p Q C (a.put o.dst undef) w) : wpE P ops p Q (.op i 1 C) a w := by
  show wpOp P ops Q i _ a w
  unfold wpOp
  simp only [ho, hw, Bool.false_eq_true, if_false]
  exact ⟨Ex.refl _ _, h⟩

theorem wpE_late (ho : ops[i]? = some o) (hw : Region.wanted o (yielded ops a.tmps) = true)
    (h : ∀ K : Act → World → Prop, (∀ a' w', wpE P ops p Q C a' w' → K a' w') → o.wp P a w K Q) : wpE P ops p Q (.op i 2 C) a w := by
  show wpOp P ops Q i _ a w
  unfold wpOp
  simp only [ho, hw, if_true]
  exact .inl (h _ fun _ _ h => h)

theorem wpE_fork {j : Nat} {oj : Oper} {D : Tr} {k l : Nat} (ho : ops[i]? = some o) (hj : ops[j]? = some oj) (hw : Region.wanted o (yielded ops a.tmps) = true) (hwj : Region.wanted oj (yielded ops a.tmps) = true)
    (h : ∀ K : Act → World → Prop, (∀ a' w', (Ex p w w' ∧ wpE P ops p Q C a' w') → K a' w') → o.wp P a w K Q)
    (h' : ∀ K : Act → World → Prop, (∀ a' w', (Ex p w w' ∧ wpE P ops p Q D a' w') → K a' w') → oj.wp P a w K Q) : wpE P ops p Q (.fork i k C j l D) a w := by
  refine ⟨?_, ?_⟩
  · unfold wpOp
    simp only [ho, hw, if_true]
    exact .inl (h _ fun _ _ h => h)
  · unfold wpOp
    simp only [hj, hwj, if_true]
    exact .inl (h' _ fun _ _ h => h)

theorem wpE_nil (h : Q .normal a w) : wpE P ops p Q .nil a w := h

end
end Go.Proofs.YtkhggobpanfkfaaDoor

/-
  How slices lie in memory, for the walks: what is read (Sl), what a call has made (ownsRow of the kit).
-/
namespace Go.Proofs.YtkhggobpanfkfaaDoor
open Go.RowKit

theorem hid {q : Prop} (h : q) : Hid q := h

/-- The slice value v, of n elements of sz cells each, reads as the cells xs. -/
def Sl (w : World) (sz : Nat) (v : Value) (n : Nat) (xs : List Value) : Prop :=
  xs.length = n * sz ∧ ((n = 0 ∧ ∃ a cap, v = .slice a 0 cap ∧ (a = none → cap = 0)) ∨
    ∃ (g off cap : Nat) (cur : Array Value) (T : TypeId × (Nat × Nat)), v = .slice (some ⟨g, off, none⟩) n cap ∧ n ≤ cap ∧ w.heap[g]? = some (.cells cur T.1 T.2) ∧ off + cap * sz ≤ cur.size ∧ (cur.toList.drop off).take (n * sz) = xs)

theorem Sl.below {w w' : World} {sz : Nat} {v : Value} {n : Nat} {xs : List Value} (h : Sl w sz v n xs) (hb : Below w.heap.size w w') : Sl w' sz v n xs := by
  refine ⟨h.1, h.2.imp id fun ⟨g, off, cap, cur, T, h1, h2, h3, h4, h5⟩ => ⟨g, off, cap, cur, T, h1, h2, ?_, h4, h5⟩⟩
  rw [hb.block g (Array.getElem?_eq_some_iff.1 h3).1]; exact h3

theorem Sl.form {w : World} {sz : Nat} {v : Value} {n : Nat} {xs : List Value} (h : Sl w sz v n xs) : ∃ a cap, v = .slice a n cap ∧ ∀ k, k < n → ∃ g off, a = some ⟨g, off, none⟩ ∧ ∀ j, j < sz → w.cell? ⟨g, off + (k * sz + j), none⟩ = some (xs.getD (k * sz + j) undef) := by
  rcases h.2 with ⟨rfl, a, cap, rfl, _⟩ | ⟨g, off, cap, cur, T, rfl, h2, h3, h4, h5⟩
  · exact ⟨a, cap, rfl, fun k hk => by omega⟩
  · refine ⟨_, cap, rfl, fun k hk => ⟨g, off, rfl, fun j hj => ?_⟩⟩
    have hlt : k * sz + j < n * sz := by
      have : (k + 1) * sz ≤ n * sz := Nat.mul_le_mul_right _ hk
      rw [Nat.add_mul] at this; omega
    have hle : n * sz ≤ cap * sz := Nat.mul_le_mul_right _ h2
    have hx : xs[k * sz + j]? = cur.toList[off + (k * sz + j)]? := by
      rw [← h5, List.getElem?_take, if_pos hlt, List.getElem?_drop]
    unfold World.cell?
    simp only [h3]
    rw [List.getD_eq_getElem?_getD, hx]
    have : off + (k * sz + j) < cur.size := by omega
    simp [this]

theorem Sl.cells {w : World} {sz : Nat} {g off cap n : Nat} {xs : List Value} (h : Sl w sz (.slice (some ⟨g, off, none⟩) n cap) n xs) (h0 : 0 < n) : ∀ j u, xs[j]? = some u → w.cell? ((⟨g, off, none⟩ : Addr).add j) = some u := by
  rcases h.2 with ⟨rfl, _⟩ | ⟨g', off', cap', cur, T, he, h2, h3, h4, h5⟩
  · omega
  · simp only [Value.slice.injEq, Option.some.injEq, Addr.mk.injEq, and_true, true_and] at he
    obtain ⟨⟨rfl, rfl⟩, rfl⟩ := he
    intro j u hu
    rw [← h5, List.getElem?_take] at hu
    split at hu
    · rw [List.getElem?_drop] at hu
      have hadd : (⟨g, off, none⟩ : Addr).add j = ⟨g, off + j, none⟩ := by unfold Addr.add; split <;> simp_all
      rw [hadd]
      unfold World.cell?
      simp only [h3]
      simpa using hu
    · cases hu

/-- What a call has made, read. -/
theorem sl_of_owns {w : World} {base : Nat} {e : TypeId} {sz : Nat} {v : Value} {n : Nat} {xs : List Value} (h : w.ownsRow base e sz v n xs) : Sl w sz v n xs := by
  refine ⟨h.1, ?_⟩
  rcases h.2 with ⟨rfl, rfl⟩ | ⟨g, cap, cur, rfl, hb, hg, hn, hm, hs, ht⟩
  · exact .inl ⟨rfl, none, 0, rfl, fun _ => rfl⟩
  · exact .inr ⟨g, 0, cap, cur, (e, (0, 0)), rfl, hn, hg, by omega, by simpa using ht⟩

theorem owns_below {w w' : World} {base : Nat} {e : TypeId} {sz : Nat} {v : Value} {n : Nat} {xs : List Value} (h : w.ownsRow base e sz v n xs) (hb : Below w.heap.size w w') : w'.ownsRow base e sz v n xs :=
  h.kept (row := none) ⟨hb.os, hb.tape, hb.output, hb.size, fun k hk _ => hb.block k hk⟩ (by cases hv : v.ownBlock <;> simp)

theorem owns_base {w : World} {base base' : Nat} {e : TypeId} {sz : Nat} {v : Value} {n : Nat} {xs : List Value} (h : w.ownsRow base e sz v n xs) (hb : base' ≤ base) : w.ownsRow base' e sz v n xs :=
  ⟨h.1, h.2.imp id fun ⟨g, cap, cur, h1, h2, h3⟩ => ⟨g, cap, cur, h1, Nat.le_trans hb h2, h3⟩⟩

/-- 'append(dst, src...)': dst the call's own, src whatever reads. -/
theorem wp_append_sl {P : Program} {w : World} {o : Oper} {a : Act} {K : Act → World → Prop} {Q : Exit → Act → World → Prop} (s x : Operand) (t : TypeId)
    (ho : o.op = .call { callee := .builtin .append, args := #[s, x], argTypes := #[t, t] })
    (base : Nat) (e : TypeId) (z : Value) (size bytes : Nat) (ht : P.underlying t = some (.slice e)) (hi : (P.info? e).map (fun i => (i.zero, i.size, i.bytes)) = some (some z, size, bytes))
    (hzs : z.cells.size = size) (hsz : 0 < size)
    (v : Value) (n : Nat) (xs : List Value) (hs : a.eval s = v) (hown : w.ownsRow base e size v n xs)
    (vs : Value) (m : Nat) (news : List Value) (hx : a.eval x = vs) (hsl : Sl w size vs m news) (h1 : ∀ u ∈ news, u.oneCell' = true)
    (h63 : n + m ≤ maxLen) (hbytes : (n + m) * bytes ≤ 140737488355328) (hbase : base ≤ w.heap.size)
    (h : ∀ v' w', w'.ownsRow base e size v' (n + m) (xs ++ news) → w.grownBy w' v.ownBlock → (v'.ownBlock = v.ownBlock ∨ v'.ownBlock = some w.heap.size) → K (a.put o.dst v') w') : o.wp P a w K Q := by
  have at_own : ∀ (ad : Addr) (c : Nat) (hx : a.eval x = .slice (some ad) m c) (hnews : ∀ j u, news[j]? = some u → w.cell? (ad.add j) = some u), o.wp P a w K Q := by
    intro ad c hx hnews
    obtain ⟨i, hi, hz, hz1, hz2⟩ := info_parts hi
    obtain ⟨v', w', hr, h2, h3, _, h5⟩ := run_append_own_at (P := P) w base t o.type e i z size bytes ht hi hz hz1 hz2 hzs hsz v n xs hown ad m c news hsl.1 hnews h1 h63 hbytes hbase
    unfold Oper.wp execOp
    simp only [ho, resolve, invoke, builtin, Sem.run_bind, Sem.run_pure, Result.andThen_ok, List.map_toArray, List.map_cons, List.map_nil, hs, hx, hr]
    exact h v' w' h2 h3 h5
  obtain ⟨i, hi, hz, hz1, hz2⟩ := info_parts hi
  have hsl0 := hsl
  rcases hsl.2 with ⟨rfl, a0, cap0, rfl, hnone⟩ | ⟨g, off, cap, cur, T, rfl, h2, h3, h4, h5⟩
  · have hnews : news = [] := List.eq_nil_of_length_eq_zero (by simpa using hsl.1)
    subst hnews
    cases a0 with
    | none =>
      rw [hnone rfl] at hx
      have hrun := run_append_owned_none (P := P) (w := w) base t o.type e i size ht hi v n xs hown
      unfold Oper.wp
      simp only [execOp, ho, resolve, invoke, builtin, Sem.run_bind, Sem.run_pure, Result.andThen_ok, List.map_toArray, List.map_cons, List.map_nil, hs, hx, hrun]
      exact h v w (by simpa using hown) ⟨rfl, rfl, rfl, Nat.le_refl _, fun _ _ _ => rfl⟩ (.inl rfl)
    | some ad => exact at_own ad cap0 hx (by simp)
  · by_cases h0 : 0 < m
    · exact at_own ⟨g, off, none⟩ cap hx (hsl0.cells h0)
    · obtain rfl : m = 0 := by omega
      have hnews : news = [] := List.eq_nil_of_length_eq_zero (by simpa using hsl.1)
      subst hnews
      exact at_own ⟨g, off, none⟩ cap hx (by simp)

/-- A slice without room: nil, or the literal of no elements. -/
def Bare (w : World) (base : Nat) (e : TypeId) (v : Value) : Prop := v = .slice none 0 0 ∨ ∃ g, v = .slice (some ⟨g, 0, none⟩) 0 0 ∧ base ≤ g ∧ w.heap[g]? = some (.cells #[] e (0, 0))

theorem run_append_bare {P : Program} (w : World) (t ty e : TypeId) (z : Value) (size bytes : Nat) (ht : P.underlying t = some (.slice e)) (hmap : (P.info? e).map (fun i => (i.zero, i.size, i.bytes)) = some (some z, size, bytes))
    (hzs : z.cells.size = size) (v vs : Value) (m : Nat) (news : List Value) (hsl : Sl w size vs m news) (h63 : m ≤ maxLen) (hbytes : m * bytes ≤ 140737488355328) (base : Nat) (hbase : base ≤ w.heap.size) (hv : Bare w base e v) :
    ∃ v' w', (Builtin.append_ #[t, t] ty #[v, vs]).run P w = .ok v' w' ∧ w'.ownsRow base e size v' m news ∧ Below w.heap.size w w' := by
  obtain ⟨i, hi, hz, rfl, rfl⟩ := info_parts hmap
  clear hmap
  have hsmall : m ≤ 9223372036854775807 := by simp only [maxLen] at h63; omega
  have made : ∀ n old, n = m → (w.drew.alloc (.cells (news.toArray ++ Builtin.zeroCells z.cells (grownCap w n old e - n)) e)).ownsRow base e i.size (.slice (some ⟨w.heap.size, 0, none⟩) n (grownCap w n old e)) n news ∧
      Below w.heap.size w (w.drew.alloc (.cells (news.toArray ++ Builtin.zeroCells z.cells (grownCap w n old e - n)) e)) := by
    intro n old hn
    subst hn
    have hge := grownCap_ge w n old e
    refine ⟨⟨hsl.1, .inr ⟨w.heap.size, _, _, rfl, hbase, heap_alloc_new w.drew _, hge, grownCap_le_maxLen w n old e h63, ?_, ?_⟩⟩, (Below.refl _ _).drew.alloc (Nat.le_refl _) _⟩
    · simp only [Array.size_append, List.size_toArray, size_zeroCells, hzs, hsl.1, ← Nat.add_mul]
      congr 1
      omega
    · simp only [Array.toList_append]
      rw [← hsl.1]
      exact List.take_left
  by_cases hm : m = 0
  · subst hm
    have hnews : news = [] := List.eq_nil_of_length_eq_zero (by simpa using hsl.1)
    subst hnews
    obtain ⟨a, cap, rfl, _⟩ := hsl.form
    refine ⟨v, w, ?_, ?_, Below.refl _ _⟩
    · rcases hv with rfl | ⟨g, rfl, _, hg⟩ <;> cases a <;> simp [Builtin.append_, run_underlying ht, sizeOf, typeInfo, hi, Builtin.lenOf, Builtin.firstCells, loadCells, loadCellsFrom, storeCells]
    · rcases hv with rfl | ⟨g, rfl, hb, hg⟩
      · exact World.ownsRow_nil _ _ _ _
      · exact ⟨by simp, .inr ⟨g, 0, #[], rfl, hb, hg, Nat.le_refl _, Nat.zero_le _, by simp, by simp⟩⟩
  · obtain ⟨a, cap, rfl, hc⟩ := hsl.form
    obtain ⟨g0, off, rfl, _⟩ := hc 0 (by omega)
    have hcells := hsl.cells (by omega)
    rcases hv with rfl | ⟨g, rfl, hb, hg⟩
    · have hr := run_append_nil (P := P) w t ty e i z ht hi hz ⟨g0, off, none⟩ m cap news hsl.1 hcells (by omega) (by omega) (by omega)
      exact ⟨_, _, hr, (made m 0 rfl).1, (made m 0 rfl).2⟩
    · have hr := run_append_grow (P := P) w t ty e i z ht hi hz ⟨g, 0, none⟩ 0 0 [] (by simp) (by simp) ⟨g0, off, none⟩ m cap news hsl.1 hcells (by omega) (by omega) (growslice_fits (by omega) (by simpa using hbytes))
      simp only [Nat.zero_add, Array.empty_append] at hr
      exact ⟨_, _, hr, (made m 0 rfl).1, (made m 0 rfl).2⟩

/-- An append to a bare slice: a copy of the call's own. -/
theorem wp_copy_sl {P : Program} {w : World} {o : Oper} {a : Act} {K : Act → World → Prop} {Q : Exit → Act → World → Prop} (s x : Operand) (t : TypeId)
    (ho : o.op = .call { callee := .builtin .append, args := #[s, x], argTypes := #[t, t] })
    (base : Nat) (e : TypeId) (z : Value) (size bytes : Nat) (ht : P.underlying t = some (.slice e)) (hi : (P.info? e).map (fun i => (i.zero, i.size, i.bytes)) = some (some z, size, bytes))
    (hzs : z.cells.size = size) (v : Value) (hs : a.eval s = v) (hv : Bare w base e v)
    (vs : Value) (m : Nat) (news : List Value) (hx : a.eval x = vs) (hsl : Sl w size vs m news)
    (h63 : m ≤ maxLen) (hbytes : m * bytes ≤ 140737488355328) (hbase : base ≤ w.heap.size)
    (h : ∀ v' w', w'.ownsRow base e size v' m news → Below w.heap.size w w' → K (a.put o.dst v') w') : o.wp P a w K Q := by
  obtain ⟨v', w', hr, h1, h2⟩ := run_append_bare (P := P) w t o.type e z size bytes ht hi hzs v vs m news hsl h63 hbytes base hbase hv
  unfold Oper.wp execOp
  simp only [ho, resolve, invoke, builtin, Sem.run_bind, Sem.run_pure, Result.andThen_ok, List.map_toArray, List.map_cons, List.map_nil, hs, hx, hr]
  exact h v' w' h1 h2

/-- 'v[k:]'. -/
theorem Sl.drop {w : World} {sz g off cap n k : Nat} {xs : List Value} (h : Sl w sz (.slice (some ⟨g, off, none⟩) n cap) n xs) (hk : k ≤ n) (hn : 0 < n) (a' : Option Addr) (ha : k < cap → a' = some ⟨g, off + k * sz, none⟩) (ha' : a' ≠ none) :
    Sl w sz (.slice a' (n - k) (cap - k)) (n - k) (xs.drop (k * sz)) := by
  refine ⟨by rw [List.length_drop, h.1, Nat.sub_mul], ?_⟩
  rcases h.2 with ⟨rfl, _⟩ | ⟨g', off', cap', cur, T, he, h2, h3, h4, h5⟩
  · omega
  · simp only [Value.slice.injEq, Option.some.injEq, Addr.mk.injEq, and_true, true_and] at he
    obtain ⟨⟨rfl, rfl⟩, rfl⟩ := he
    by_cases hkn : k < n
    · refine .inr ⟨g, off + k * sz, cap - k, cur, T, by rw [ha (by omega)], by omega, h3, ?_, ?_⟩
      · have : (cap - k) * sz + k * sz = cap * sz := by rw [← Nat.add_mul]; congr 1; omega
        omega
      · rw [← h5, List.drop_take, List.drop_drop, ← Nat.sub_mul, Nat.add_comm]
    · refine .inl ⟨by omega, a', cap - k, by rw [show n - k = 0 by omega], fun e => absurd e ha'⟩

/-- A slice of int. -/
def Ints (w : World) (v : Value) (l : List Int) : Prop := Sl w 1 v l.length (l.map (Value.int .i64))

theorem Ints.below {w w' : World} {v : Value} {l : List Int} (h : Ints w v l) (hb : Below w.heap.size w w') : Ints w' v l := Sl.below h hb

/-- A slice of int that the call has made, in blocks from base on. -/
def OwnI (w : World) (base : Nat) (v : Value) (l : List Int) : Prop := w.ownsRow base 3 1 v l.length (l.map (Value.int .i64))
theorem OwnI.ints {w : World} {base : Nat} {v : Value} {l : List Int} (h : OwnI w base v l) : Ints w v l := sl_of_owns h
theorem OwnI.below {w w' : World} {base : Nat} {v : Value} {l : List Int} (h : OwnI w base v l) (hb : Below w.heap.size w w') : OwnI w' base v l := owns_below h hb
theorem OwnI.base {w : World} {base base' : Nat} {v : Value} {l : List Int} (h : OwnI w base v l) (hb : base' ≤ base) : OwnI w base' v l := owns_base h hb

theorem OwnI.made {w : World} {base : Nat} (hb : base ≤ w.heap.size) : OwnI (w.alloc (.cells #[] 3)) base (.slice (some ⟨w.heap.size, 0, none⟩) 0 0) [] :=
  World.ownsRow_made w #[] 0 hb (by simp [maxLen]) (by simp)
theorem OwnI.grown {w w' : World} {base : Nat} {row : Option Nat} {v : Value} {l : List Int} (h : OwnI w base v l) (hg : w.grownBy w' row) (hne : v.ownBlock = none ∨ v.ownBlock ≠ row) : OwnI w' base v l := h.kept hg hne

theorem Ints.lit1 (w : World) (x : Int) : Ints (w.alloc (.cells #[.int .i64 x] 3)) (.slice (some ⟨w.heap.size, 0, none⟩) 1 1) [x] :=
  ⟨rfl, .inr ⟨w.heap.size, 0, 1, #[.int .i64 x], (3, (0, 0)), rfl, Nat.le_refl _, heap_alloc_new w _, by simp, rfl⟩⟩
theorem OwnI.nil (w : World) (base : Nat) : OwnI w base (.slice none 0 0) [] := World.ownsRow_nil _ _ _ _
theorem Ints.lit1' {w : World} {k : Nat} (h : k = w.heap.size) (x : Int) : Ints (w.alloc (.cells #[.int .i64 x] 3)) (.slice (some ⟨k, 0, none⟩) 1 1) [x] := h ▸ Ints.lit1 w x
theorem Ints.drew {w : World} {v : Value} {l : List Int} (h : Ints w v l) : Ints w.drew v l := h
theorem OwnI.drew {w : World} {base : Nat} {v : Value} {l : List Int} (h : OwnI w base v l) : OwnI w.drew base v l := h
theorem OwnI.alloc {w : World} {base : Nat} {v : Value} {l : List Int} (h : OwnI w base v l) (o : Obj) : OwnI (w.alloc o) base v l := World.ownsRow.alloc h o
theorem OwnI.lt {w : World} {base : Nat} {v : Value} {l : List Int} (h : OwnI w base v l) : ∀ k, v.ownBlock = some k → base ≤ k ∧ k < w.heap.size := World.ownsRow.lt h
theorem OwnI.set {w : World} {base : Nat} {v : Value} {l : List Int} (h : OwnI w base v l) {p : Addr} (hp : p.block < base) (u : Value) : OwnI (w.setCell p u) base v l := ownsRow_setCell_below h hp u
theorem OwnI.form {w : World} {base : Nat} {v : Value} {l : List Int} (h : OwnI w base v l) : ∃ a c, v = .slice a l.length c := by
  obtain ⟨a, c, rfl, _⟩ := Sl.form h.ints
  exact ⟨a, c, rfl⟩

theorem ints_one (l : List Int) : ∀ u ∈ l.map (Value.int .i64), u.oneCell' = true := by
  intro u hu
  obtain ⟨x, _, rfl⟩ := List.mem_map.1 hu
  rfl
theorem infoInt : (Tryd.prog.info? 3).map (fun i => (i.zero, i.size, i.bytes)) = some (some (.int .i64 0), 1, 8) := by kernel_rfl

theorem wp_append_ints {w : World} {o : Oper} {a : Act} {K : Act → World → Prop} {Q : Exit → Act → World → Prop} (s x : Operand)
    (ho : o.op = .call { callee := .builtin .append, args := #[s, x], argTypes := #[27, 27] })
    (base : Nat) (v : Value) (l : List Int) (hs : a.eval s = v) (hown : OwnI w base v l) (vs : Value) (m : List Int) (hx : a.eval x = vs) (hsl : Ints w vs m)
    (hb : l.length + m.length ≤ 1099511627776) (hbase : base ≤ w.heap.size)
    (h : ∀ a' c' w', OwnI w' base (.slice a' (l ++ m).length c') (l ++ m) → w.grownBy w' v.ownBlock → ((Value.slice a' (l ++ m).length c').ownBlock = v.ownBlock ∨ (Value.slice a' (l ++ m).length c').ownBlock = some w.heap.size) → K (a.put o.dst (.slice a' (l ++ m).length c')) w') : o.wp Tryd.prog a w K Q :=
  wp_append_sl s x _ ho base 3 (.int .i64 0) 1 8 Tryd.underlying27 infoInt rfl (by omega) v _ _ hs hown vs _ _ hx hsl (ints_one m) (by simp only [maxLen]; omega) (by omega) hbase fun v' w' h1 h2 h5 =>
    have h3 : OwnI w' base v' (l ++ m) := by unfold OwnI; rw [List.length_append, List.map_append]; exact h1
    by obtain ⟨a', c', rfl⟩ := h3.form; exact h a' c' w' h3 h2 h5

theorem wp_copy_ints {w : World} {o : Oper} {a : Act} {K : Act → World → Prop} {Q : Exit → Act → World → Prop} (s x : Operand)
    (ho : o.op = .call { callee := .builtin .append, args := #[s, x], argTypes := #[27, 27] })
    (base : Nat) (v : Value) (hs : a.eval s = v) (hv : Bare w base 3 v) (vs : Value) (m : List Int) (hx : a.eval x = vs) (hsl : Ints w vs m)
    (hb : m.length ≤ 1099511627776) (hbase : base ≤ w.heap.size)
    (h : ∀ a' c' w', OwnI w' base (.slice a' m.length c') m → Below w.heap.size w w' → K (a.put o.dst (.slice a' m.length c')) w') : o.wp Tryd.prog a w K Q :=
  wp_copy_sl s x _ ho base 3 (.int .i64 0) 1 8 Tryd.underlying27 infoInt rfl v hs hv vs _ _ hx hsl (by simp only [maxLen]; omega) (by omega) hbase fun v' w' h1 h2 => by
    have h3 : OwnI w' base v' m := h1
    obtain ⟨a', c', rfl⟩ := h3.form; exact h a' c' w' h3 h2

/-- 'make([]int, 0, n)'. -/
theorem wpList_make_ints {w : World} {ops : Array Oper} {rest : List Oper} {o : Oper} {a : Act} {Q : Exit → Act → World → Prop} (hg : o.guard = none) (c : Operand)
    (hop : o.op = Op.makeSlice 27 (.const (.int .i64 0)) c) (n : Nat) (hc : a.eval c = .int .i64 n) (hn : n ≤ 1099511627776) (base : Nat) (hb : base ≤ w.heap.size)
    (hK : ∀ w', OwnI w' base (.slice (some ⟨w.heap.size, 0, none⟩) 0 n) [] → Below w.heap.size w w' → wpList Tryd.prog ops Q rest (a.put o.dst (.slice (some ⟨w.heap.size, 0, none⟩) 0 n)) w') :
    wpList Tryd.prog ops Q (o :: rest) a w := by
  obtain ⟨i0, hi0, hz0, hz1, hz2⟩ := info_parts infoInt
  exact wpList_make_own w hg (.const (.int .i64 0)) c 27 hop base 3 i0 (.int .i64 0) 1 Tryd.underlying27 hi0 hz0 hz1 .i64 .i64 n n rfl hc rfl (by rw [hz2]; omega) (by unfold maxLen; omega) hb
    fun w' h1 h2 => hK w' h1 ⟨h2.os, h2.tape, h2.output, h2.size, fun k hk => h2.block k hk (by simp)⟩

theorem Bare.nil {w : World} {base : Nat} {e : TypeId} : Bare w base e (.slice none 0 0) := .inl rfl
theorem Bare.lit {w : World} {base g : Nat} {e : TypeId} (hb : base ≤ g) (h : w.heap[g]? = some (.cells #[] e (0, 0))) : Bare w base e (.slice (some ⟨g, 0, none⟩) 0 0) := .inr ⟨g, rfl, hb, h⟩

theorem Ints.form {w : World} {v : Value} {l : List Int} (h : Ints w v l) : ∃ a cap, v = .slice a l.length cap ∧ ∀ k, k < l.length → ∃ g off, a = some ⟨g, off, none⟩ ∧ w.cell? ⟨g, off + k, none⟩ = some (.int .i64 (l.getD k 0)) := by
  obtain ⟨a, cap, rfl, hc⟩ := Sl.form h
  refine ⟨a, cap, rfl, fun k hk => ?_⟩
  obtain ⟨g, off, rfl, hg⟩ := hc k hk
  refine ⟨g, off, rfl, ?_⟩
  have := hg 0 (by omega)
  simp only [Nat.mul_one, Nat.add_zero] at this
  rw [this]
  simp [List.getD, hk]

theorem below_alloc (w : World) (o : Obj) : Below w.heap.size w (w.alloc o) := (Below.refl _ _).alloc (Nat.le_refl _) o

theorem below_alloc2 (w : World) (o o' : Obj) : Below w.heap.size w ((w.alloc o).alloc o') := ((Below.refl _ _).alloc (Nat.le_refl _) o).alloc (by simp) o'

/-- A block that is known whole: its cells, for the walk. -/
theorem blk {w : World} {b : Nat} {cs : Array Value} {T : TypeId} (h : w.heap[b]? = some (.cells cs T (0, 0))) : (∀ o, w.cell? ⟨b, o, none⟩ = cs[o]?) ∧ (∀ o, w.frozen? ⟨b, o, none⟩ = false) :=
  ⟨fun o => by unfold World.cell?; simp [h], fun o => by unfold World.frozen?; simp [h]⟩
theorem size_alloc (w : World) (o : Obj) : (w.alloc o).heap.size = w.heap.size + 1 := by simp
theorem size_drew (w : World) : w.drew.heap.size = w.heap.size := rfl
theorem size_drewN (w : World) (n : Nat) : (w.drewN n).heap.size = w.heap.size := rfl
theorem size_set (w : World) (p : Addr) (v : Value) : (w.setCell p v).heap.size = w.heap.size := by simp [World.setCell]
theorem look_new {w : World} {o : Obj} {k : Nat} (h : k = w.heap.size) : (w.alloc o).heap[k]? = some o := by subst h; exact heap_alloc_new w o
theorem look_old {w : World} {o : Obj} {k : Nat} {x : Obj} (h : w.heap[k]? = some x) : (w.alloc o).heap[k]? = some x := by
  rw [show (w.alloc o).heap = w.heap.push o from rfl, Array.getElem?_push, if_neg (by have := (Array.getElem?_eq_some_iff.1 h).1; omega)]; exact h
theorem look_drew {w : World} {k : Nat} {x : Obj} (h : w.heap[k]? = some x) : w.drew.heap[k]? = some x := h
theorem look_drewN {w : World} {k n : Nat} {x : Obj} (h : w.heap[k]? = some x) : (w.drewN n).heap[k]? = some x := h
theorem look_ne {w : World} {p : Addr} {v : Value} {k : Nat} {x : Obj} (hne : p.block ≠ k) (h : w.heap[k]? = some x) : (w.setCell p v).heap[k]? = some x := by
  simp only [World.setCell, Array.getElem?_modify]; rw [if_neg hne]; exact h
theorem look_set {w : World} {b o : Nat} {v : Value} {cs : Array Value} {T : TypeId} {fz : Nat × Nat} (h : w.heap[b]? = some (.cells cs T fz)) : (w.setCell ⟨b, o, none⟩ v).heap[b]? = some (.cells (cs.setIfInBounds o v) T fz) := by
  simp only [World.setCell, Array.getElem?_modify, if_true, h, Option.map_some]; rfl
theorem look_grown {w w' : World} {k : Nat} {x : Obj} {row : Option Nat} (hg : w.grownBy w' row) (hne : some k ≠ row) (h : w.heap[k]? = some x) : w'.heap[k]? = some x := (hg.block k (Array.getElem?_eq_some_iff.1 h).1 hne).trans h
theorem grown_refl (w : World) (row : Option Nat) : w.grownBy w row := ⟨rfl, rfl, rfl, Nat.le_refl _, fun _ _ _ => rfl⟩
theorem grown_set {w w1 : World} {r o : Nat} (h : w.grownBy w1 (some r)) (v : Value) : w.grownBy (w1.setCell ⟨r, o, none⟩ v) (some r) :=
  ⟨h.os, h.tape, h.output, by rw [size_set]; exact h.size, fun k hk hne => (Below.heap_setCell _ _ _ _ (by intro e; exact hne (by rw [e]))).trans (h.block k hk hne)⟩
theorem grown_drew {w w1 : World} {row : Option Nat} (h : w.grownBy w1 row) : w.grownBy w1.drew row := ⟨h.os, h.tape, h.output, h.size, h.block⟩
theorem grown_own {w w1 w2 : World} {row row' : Option Nat} (h : w.grownBy w1 row) (hg : w1.grownBy w2 row') (hr : ∀ j, row' = some j → w.heap.size ≤ j) : w.grownBy w2 row :=
  ⟨hg.os.trans h.os, hg.tape.trans h.tape, hg.output.trans h.output, Nat.le_trans h.size hg.size, fun k hk hne => (hg.block k (Nat.lt_of_lt_of_le hk h.size) (fun e => by have := hr k e.symm; omega)).trans (h.block k hk hne)⟩
theorem grown_new {w w1 : World} {row : Option Nat} (h : w.grownBy w1 row) {p : Addr} (hp : w.heap.size ≤ p.block) (v : Value) : w.grownBy (w1.setCell p v) row :=
  ⟨h.os, h.tape, h.output, by rw [size_set]; exact h.size, fun k hk hne => (Below.heap_setCell _ _ _ _ (by omega)).trans (h.block k hk hne)⟩
theorem grown_undrew {w w1 : World} {row : Option Nat} (h : w.drew.grownBy w1 row) : w.grownBy w1 row := ⟨h.os, h.tape, h.output, h.size, h.block⟩
theorem grown_trans {w w1 w2 : World} {row : Option Nat} (h : w.grownBy w1 row) (h2 : w1.grownBy w2 row) : w.grownBy w2 row :=
  ⟨h2.os.trans h.os, h2.tape.trans h.tape, h2.output.trans h.output, Nat.le_trans h.size h2.size, fun k hk hne => (h2.block k (Nat.lt_of_lt_of_le hk h.size) hne).trans (h.block k hk hne)⟩
theorem grown_of_below {w w1 : World} (h : Below w.heap.size w w1) (row : Option Nat) : w.grownBy w1 row := ⟨h.os, h.tape, h.output, h.size, fun k hk _ => h.block k hk⟩
theorem grown_alloc {w w1 : World} {row : Option Nat} (h : w.grownBy w1 row) (o : Obj) : w.grownBy (w1.alloc o) row := grown_trans h (grown_of_below (below_alloc w1 o) row)
theorem OwnI.set_ne {w : World} {base : Nat} {v : Value} {l : List Int} (h : OwnI w base v l) {b o : Nat} (hp : ∀ j, v.ownBlock = some j → j ≠ b) (u : Value) : OwnI (w.setCell ⟨b, o, none⟩ u) base v l :=
  h.grown (grown_set (grown_refl w (some b)) u) (.inr fun e => hp b e rfl)
theorem below_drewN {B : Nat} {w w1 : World} (h : Below B w w1) (n : Nat) : Below B w (w1.drewN n) := ⟨h.os, h.tape, h.output, h.size, h.block⟩
theorem below_undrew {w w1 : World} (h : Below w.drew.heap.size w.drew w1) : Below w.heap.size w w1 := ⟨h.os, h.tape, h.output, h.size, h.block⟩
theorem below_of_grown {w w1 w2 : World} {B r : Nat} (h : Below B w w1) (hg : w1.grownBy w2 (some r)) (hB : B ≤ w1.heap.size) (hr : B ≤ r) : Below B w w2 := h.grown hg hB (by simp; omega)

theorem look_below {w w' : World} {B k : Nat} {x : Obj} (hb : Below B w w') (hk : k < B) (h : w.heap[k]? = some x) : w'.heap[k]? = some x := (hb.block k hk).trans h

/-- Below, out of what a call leaves over blocks that were made before it. -/
theorem below_of {w w1 w2 : World} (h : Below w.heap.size w w1) (h2 : Below w1.heap.size w1 w2) : Below w.heap.size w w2 := h.trans (h2.mono h.size)

theorem entry1 {w w1 : World} {A : Obj} (h : Below (w.alloc A).heap.size (w.alloc A) w1) : w1.heap[w.heap.size]? = some A ∧ w.heap.size + 1 ≤ w1.heap.size ∧ Below w.heap.size w w1 :=
  ⟨look_below h (by simp) (look_new rfl), by have := h.size; simpa using this, below_of (below_alloc w A) h⟩
theorem entry2 {w w1 : World} {A B : Obj} (h : Below ((w.alloc A).alloc B).heap.size ((w.alloc A).alloc B) w1) : w1.heap[w.heap.size]? = some A ∧ w1.heap[w.heap.size + 1]? = some B ∧ w.heap.size + 2 ≤ w1.heap.size ∧ Below w.heap.size w w1 :=
  ⟨look_below h (by simp; omega) (look_old (look_new rfl)), look_below h (by simp) (look_new (by simp)), by have := h.size; simpa using this, below_of (below_alloc2 w A B) h⟩
theorem entry3 {w w1 : World} {A B C : Obj} (h : Below (((w.alloc A).alloc B).alloc C).heap.size (((w.alloc A).alloc B).alloc C) w1) :
    w1.heap[w.heap.size]? = some A ∧ w1.heap[w.heap.size + 1]? = some B ∧ w1.heap[w.heap.size + 2]? = some C ∧ w.heap.size + 3 ≤ w1.heap.size ∧ Below w.heap.size w w1 :=
  ⟨look_below h (by simp; omega) (look_old (look_old (look_new rfl))), look_below h (by simp) (look_old (look_new (by simp))), look_below h (by simp) (look_new (by simp)), by have := h.size; simpa using this,
    below_of ((below_alloc2 w A B).alloc (by simp; omega) C) h⟩

theorem bcell {W w1 : World} (hb : Below W.heap.size W w1) : (∀ b o, b < W.heap.size → w1.cell? ⟨b, o, none⟩ = W.cell? ⟨b, o, none⟩) ∧ (∀ b o, b < W.heap.size → w1.frozen? ⟨b, o, none⟩ = W.frozen? ⟨b, o, none⟩) :=
  ⟨fun b o h => hb.cell (p := ⟨b, o, none⟩) h, fun b o h => hb.frozen (p := ⟨b, o, none⟩) h⟩

theorem ret_b {x y : Bool} (h : x = y) : Ending.returned (.bool x) = .returned (.bool y) := by rw [h]
theorem ret_i {k : IntKind} {x y : Int} (h : x = y) : Ending.returned (.int k x) = .returned (.int k y) := by rw [h]

/-! ### Plain facts -/
def byteB (x : Int) : Bool := decide (0 ≤ x) && decide (x ≤ 255)
def allB (l : List Int) : Bool := l.all byteB
theorem allB_take_succ (l : List Int) (k : Nat) (hk : k < l.length) : allB (l.take (k + 1)) = (allB (l.take k) && byteB (l.getD k 0)) := by
  unfold allB
  rw [List.take_add_one, List.getD_eq_getElem?_getD]
  have h1 : l[k]? = some l[k] := List.getElem?_eq_getElem hk
  rw [h1]
  simp only [Option.toList_some, List.all_append, List.all_cons, List.all_nil, Option.getD_some, Bool.and_true]
theorem allB_false (l : List Int) (k : Nat) (hk : k < l.length) (h : byteB (l.getD k 0) = false) : allB l = false := by
  simp only [allB, List.all_eq_false]
  exact ⟨l[k], List.getElem_mem hk, by simpa [List.getD, hk] using h⟩

theorem Ints.cons {w : World} {v : Value} {x : Int} {l : List Int} (h : Ints w v (x :: l)) : ∃ g off cap, v = .slice (some ⟨g, off, none⟩) (l.length + 1) cap ∧ g < w.heap.size ∧ l.length + 1 ≤ cap ∧ w.cell? ⟨g, off, none⟩ = some (.int .i64 x) := by
  rcases h.2 with ⟨h0, _⟩ | ⟨g, off, cap, cur, T, rfl, h2, h3, h4, h5⟩
  · simp at h0
  · refine ⟨g, off, cap, rfl, (Array.getElem?_eq_some_iff.1 h3).1, by simpa using h2, ?_⟩
    have := Sl.cells h (by simp) 0 _ (by simp; rfl)
    simpa [Addr.add] using this
theorem Ints.nil {w : World} {v : Value} (h : Ints w v []) : ∃ a cap, v = .slice a 0 cap := by
  obtain ⟨a, cap, rfl, _⟩ := Sl.form h
  exact ⟨a, cap, rfl⟩
theorem Ints.tail {w : World} {x : Int} {l : List Int} {g off cap : Nat} (h : Ints w (.slice (some ⟨g, off, none⟩) (l.length + 1) cap) (x :: l)) (a' : Option Addr) (ha : 1 < cap → a' = some ⟨g, off + 1, none⟩) (ha' : a' ≠ none) : Ints w (.slice a' l.length (cap - 1)) l := by
  have := Sl.drop h (k := 1) (by simp) (by simp) a' (by simpa using ha) ha'
  simpa [Ints] using this

/-- 'v[1:]': where the rest lies, without a case on the capacity. -/
theorem slice_from1 (g off n cap : Nat) (hc : n + 1 ≤ cap) (hm : n + 1 ≤ 9223372036854775807) : ∃ a', (1 < cap → a' = some ⟨g, off + 1, none⟩) ∧ a' ≠ none ∧
    ∀ w, (Instr.sliceAt 27 (.slice (some ⟨g, off, none⟩) (n + 1) cap) (some (.int .i64 1)) none none).run Tryd.prog w = .ok (.slice a' n (cap - 1)) w := by
  have hi : (1 : Int) ≤ (n : Int) + 1 := by omega
  by_cases h1 : cap = 1
  · subst h1
    refine ⟨some ⟨g, off, none⟩, by omega, by simp, fun w => ?_⟩
    simp [Instr.sliceAt, Instr.slice, run_underlying Tryd.underlying27, Instr.sliceBounds, Instr.sliceBound, asIntOf, hi]
  · refine ⟨some ⟨g, off + 1, none⟩, fun _ => rfl, by simp, fun w => ?_⟩
    simp [Instr.sliceAt, Instr.slice, run_underlying Tryd.underlying27, Instr.sliceBounds, Instr.sliceBound, asIntOf, hi, h1, Addr.add]

/-- A queue is valid. -/
def fifoB (room : Int) (l : List Int) : Bool := decide (1 ≤ room) && decide (room ≤ 16) && decide ((l.length : Int) ≤ room) && allB l

end Go.Proofs.YtkhggobpanfkfaaDoor
