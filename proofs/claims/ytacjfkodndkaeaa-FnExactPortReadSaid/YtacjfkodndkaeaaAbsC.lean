/-
  Code, loops and whole functions: what the abstract walk says of them is what they do. Plain lemmas; the conditions are the types' rows (TIok) and the contracts (CSok).
-/
import Derived.Test.YtacjfkodndkaeaaAbsX
namespace Go.Proofs.Ytacjfkodndkaeaa
open Go.RowKit
namespace Ab

section loops
variable {P : Program} {Q : Exit → Act → World → Prop} {a : Act} {w : World}
theorem wp_loop_x {c : Code} {σ : Type} (I : σ → Act → World → Prop) (μ : σ → Nat) (x0 : σ) (h0 : I x0 a w)
    (round : ∀ x a w, I x a w → c.wp P (Exit.then (fun a' w' => ∃ x', I x' a' w' ∧ μ x' < μ x) Q) a w) : (Code.loop c).wp P Q a w := by
  intro b k cs
  have key : ∀ n x a w, μ x = n → I x a w →
      ∃ e a' w', Q e a' w' ∧ Arrives P (lone (b.at a (.code c :: .inLoop c :: k)) cs w) b k cs e a' w' := by
    intro n
    induction n using Nat.strongRecOn with
    | _ n ih =>
      intro x a w hn hI
      obtain ⟨e, a₁, w₁, hq, harr⟩ := round x a w hI b (.inLoop c :: k) cs
      cases e with
      | normal =>
        obtain ⟨x', hI₁, hlt⟩ := hq
        obtain ⟨e₂, a₂, w₂, hq₂, harr₂⟩ := ih (μ x') (hn ▸ hlt) x' a₁ w₁ rfl hI₁
        exact ⟨e₂, a₂, w₂, hq₂, .of_steps (Steps.trans harr (.one step_inLoop)) harr₂⟩
      | exit id => exact ⟨_, a₁, w₁, hq, .pass (x := .inLoop c) rfl (fun _ _ => .inl (by simp)) harr⟩
      | goto l => exact ⟨_, a₁, w₁, hq, .pass (x := .inLoop c) rfl (fun _ _ => .inl (by simp)) harr⟩
      | ret => exact ⟨_, a₁, w₁, hq, .pass (x := .inLoop c) rfl (fun _ _ => .inl (by simp)) harr⟩
      | panic ch => exact ⟨_, a₁, w₁, hq, .pass (x := .inLoop c) rfl (fun _ _ => .inl (by simp)) harr⟩
      | outgrown => exact ⟨_, a₁, w₁, hq, .pass (x := .inLoop c) rfl (fun _ _ => .inl (by simp)) harr⟩
  obtain ⟨e, a', w', hq, harr⟩ := key _ x0 a w rfl h0
  exact ⟨e, a', w', hq, .of_steps (.one step_loop) harr⟩
end loops

/-! ### The head of a loop -/
def dropTF : AV → AV
  | .l x => .l x
  | .a cs => .a cs
  | .t _ => .j
  | .j => .j
theorem dropT_iff {fr : Fr} {K : Fr → Prop} : dropT fr K ↔ K (fr.map dropTF) := by
  induction fr generalizing K with
  | nil => simp [dropT]
  | cons a r ih => cases a <;> simp [dropT, ih, dropTF]
def setO {α : Type} (l : List α) (k : Nat) (x : α) : Option (List α) := if k < l.length then some (l.set k x) else none
def killO : List Nat → Fr → Option Fr
  | [], fr => some fr
  | k :: r, fr => (setO fr k .j).bind (killO r)
def updO {α : Type} : List (Nat × α) → List α → Option (List α)
  | [], fr => some fr
  | (k, x) :: r, fr => (setO fr k x).bind (updO r)
theorem killF_iff {ws : List Nat} {fr : Fr} {K : Fr → Prop} : killF ws fr K ↔ ∃ fr', killO ws fr = some fr' ∧ K fr' := by
  induction ws generalizing fr with
  | nil => simp [killF, killO]
  | cons a r ih =>
    simp only [killF, killO, setF_iff, setO]
    by_cases h : a < fr.length <;> simp [h, ih]
theorem updF_iff {u : List (Nat × AV)} {fr : Fr} {K : Fr → Prop} : updF u fr K ↔ ∃ fr', updO u fr = some fr' ∧ K fr' := by
  induction u generalizing fr with
  | nil => simp [updF, updO]
  | cons a r ih =>
    obtain ⟨k, x⟩ := a
    simp only [updF, updO, setF_iff, setO]
    by_cases h : k < fr.length <;> simp [h, ih]
theorem updH_iff {u : List (Nat × HB)} {hp : Hp} {K : Hp → Prop} : updH u hp K ↔ ∃ hp', updO u hp = some hp' ∧ K hp' := by
  induction u generalizing hp with
  | nil => simp [updH, updO]
  | cons a r ih =>
    obtain ⟨k, x⟩ := a
    simp only [updH, updO, setH_iff, setO]
    by_cases h : k < hp.length <;> simp [h, ih]
def headO (ws : List Nat) (fr : Fr) (hp : Hp) (u : List (Nat × AV)) (v : List (Nat × HB)) : Option (Fr × Hp) :=
  (killO ws (fr.map dropTF)).bind fun fr1 => (updO u fr1).bind fun fr2 => (updO v hp).map fun hp2 => (fr2, hp2)
theorem headK_iff {ws : List Nat} {fr : Fr} {hp : Hp} {u : List (Nat × AV)} {v : List (Nat × HB)} {K : Fr → Hp → Prop} : headK ws fr hp u v K ↔ ∃ ft ht, headO ws fr hp u v = some (ft, ht) ∧ K ft ht := by
  simp only [headK, dropT_iff, killF_iff, updF_iff, updH_iff, headO]
  constructor
  · rintro ⟨fr1, h1, fr2, h2, hp2, h3, h4⟩
    exact ⟨fr2, hp2, by simp [h1, h2, h3], h4⟩
  · rintro ⟨ft, ht, h1, h2⟩
    cases hk : killO ws (fr.map dropTF) with
    | none => rw [hk] at h1; cases h1
    | some fr1 =>
      rw [hk] at h1
      simp only [Option.bind_some] at h1
      cases hu : updO u fr1 with
      | none => rw [hu] at h1; cases h1
      | some fr2 =>
        rw [hu] at h1
        simp only [Option.bind_some] at h1
        cases hv : updO v hp with
        | none => rw [hv] at h1; cases h1
        | some hp2 =>
          rw [hv] at h1
          simp only [Option.map_some, Option.some.injEq, Prod.mk.injEq] at h1
          obtain ⟨rfl, rfl⟩ := h1
          exact ⟨fr1, rfl, fr2, hu, hp2, rfl, h2⟩

section
variable {P : Program} {cx : Cx} {β : List En} {hp : Hp} {w : World} {β0 : List En} {hp0 : Hp} {w0 : World}

/-! ### A state that says less -/
theorem nodupB_spec : ∀ {l : List Nat}, nodupB l = true → ∀ (i j : Nat) (k : Nat), l[i]? = some k → l[j]? = some k → i = j
  | [], _, i, _, _, h, _ => by simp at h
  | a :: l, h, i, j, k, h1, h2 => by
    simp only [nodupB, Bool.and_eq_true, Bool.not_eq_true'] at h
    have hn : a ∉ l := fun e => by rw [memN_iff.2 e] at h; cases h.1
    cases i with
    | zero => cases j with
      | zero => rfl
      | succ j =>
        simp at h1 h2; subst h1; exact absurd (List.mem_of_getElem? h2) hn
    | succ i => cases j with
      | zero => simp at h1 h2; subst h2; exact absurd (List.mem_of_getElem? h1) hn
      | succ j =>
        have := nodupB_spec h.2 i j k (by simpa using h1) (by simpa using h2)
        omega

/-- The places of the blocks that a weaker state knows. -/
def enT (t : HB) (e : Option En) : En := match t, e with
  | .b _ _, some (.b n) => .b n
  | .r ver _ _, some (.r v _) => .r v ver
  | _, _ => .x
def envT (β : List En) : List HB → List Nat → List En
  | t :: ts, k :: ks => enT t β[k]? :: envT β ts ks
  | _, _ => []

theorem rowK_true {hp : Hp} {k ver : Nat} {p : Prop} (h : rowK hp k ver fun _ _ => p) : (∃ E l, hp[k]? = some (.r ver E l)) ∧ p := by
  obtain ⟨E, l, h1, h2⟩ := rowK_spec h
  exact ⟨⟨E, l, h1⟩, h2⟩

theorem envT_get {ρ : List Nat} : ∀ {ht : List HB} {i k : Nat} {t : HB}, ht.length = ρ.length → ht[i]? = some t → ρ[i]? = some k → (envT β ht ρ)[i]? = some (enT t β[k]?) := by
  induction ρ with
  | nil => intro ht i k t _ _ h; simp at h
  | cons a r ih =>
    intro ht i k t hl h1 h2
    cases ht with
    | nil => simp at hl
    | cons x xs =>
      cases i with
      | zero => simp at h1 h2; subst h1; subst h2; rfl
      | succ i => simpa [envT] using ih (by simpa using hl) (by simpa using h1) (by simpa using h2)
theorem envT_len {ρ : List Nat} : ∀ {ht : List HB}, ht.length = ρ.length → (envT β ht ρ).length = ht.length := by
  induction ρ with
  | nil => intro ht hl; cases ht <;> simp_all [envT]
  | cons a r ih =>
    intro ht hl
    cases ht with
    | nil => simp at hl
    | cons x xs => simp [envT, ih (ht := xs) (by simpa using hl)]

theorem covL_spec {ρ : List Nat} {ht hs : Hp} (hl : ht.length = ρ.length) (hI : Inv cx β hs w) {t s : LV} {v : Value} (h : covL ρ ht hs t s) (hv : LC cx β s v) : LC cx (envT β ht ρ) t v := by
  refine ⟨hv.1, ?_⟩
  cases t with
  | v x => have e : LV.v x = s := h; subst e; exact hv.2
  | f l => have e : LV.f l = s := h; subst e; exact hv.2
  | fx u l => have e : LV.fx u l = s := h; subst e; exact hv.2
  | j => trivial
  | e => exact h.elim
  | g => exact h.elim
  | o T k =>
    cases s <;> first | exact h.elim | skip
    rename_i T' k'
    obtain ⟨rfl, h1, h4⟩ := h
    obtain ⟨_, n, h2, h3⟩ := hv
    obtain ⟨x, h5, h6⟩ := getH_iff.1 h4
    split at h6
    · exact ⟨n, by rw [envT_get hl h5 h1, h2]; rfl, h3⟩
    · exact h6.elim
  | p k off =>
    cases s <;> first | exact h.elim | skip
    rename_i k' off'
    obtain ⟨h1, rfl, h4⟩ := h
    obtain ⟨_, n, h2, h3⟩ := hv
    obtain ⟨x, h5, h6⟩ := getH_iff.1 h4
    split at h6
    · exact ⟨n, by rw [envT_get hl h5 h1, h2]; rfl, h3⟩
    · exact h6.elim
  | s k ver =>
    cases s <;> first | exact h.elim | skip
    rename_i k' ver'
    obtain ⟨h1, h2⟩ := h
    obtain ⟨E, l, h3, h4⟩ := rowK_spec h2
    obtain ⟨E', l', h5, _⟩ := rowK_spec h4
    obtain ⟨v1, r2, r3, r4⟩ := row_own hI h5
    have := s_val (cx := cx) hv r2
    exact ⟨v1, ver, by rw [envT_get hl h3 h1, r2]; rfl, Nat.le_refl _, fun _ => this⟩
  | w k ver sz i n =>
    cases s <;> first | exact h.elim | skip
    rename_i k' ver' sz' i' n'
    obtain ⟨⟨h1, rfl, rfl, rfl⟩, h2⟩ := h
    obtain ⟨E, l, h3, h4⟩ := rowK_spec h2
    obtain ⟨E', l', h5, _⟩ := rowK_spec h4
    obtain ⟨v1, r2, r3, r4⟩ := row_own hI h5
    have := w_val (cx := cx) hv r2
    exact ⟨v1, ver, by rw [envT_get hl h3 h1, r2]; rfl, Nat.le_refl _, fun _ => this⟩

theorem covLs_spec {ρ : List Nat} {ht hs : Hp} {β' : List En} (hc : ∀ t s v, covL ρ ht hs t s → LC cx β s v → LC cx β' t v) : ∀ {ts ss : List LV} {vs : List Value} {p : Prop}, covLs ρ ht hs ts ss p → (p ∧ (LCs cx β ss vs → LCs cx β' ts vs))
  | [], [], [], _, h => ⟨h, fun _ => trivial⟩
  | [], [], _ :: _, _, h => ⟨h, fun h => h.elim⟩
  | t :: ts, s :: ss, vs, p, h => by
    have main : (covLs ρ ht hs ts ss p) → (∀ v, LC cx β s v → LC cx β' t v) → p ∧ (LCs cx β (s :: ss) vs → LCs cx β' (t :: ts) vs) := by
      intro h1 h2
      cases vs with
      | nil => exact ⟨(covLs_spec hc (vs := []) h1).1, fun h => h.elim⟩
      | cons v vs =>
        obtain ⟨h3, h4⟩ := covLs_spec hc (vs := vs) h1
        exact ⟨h3, fun h => ⟨h2 v h.1, h4 h.2⟩⟩
    unfold covLs at h
    cases t with
    | j => exact main h fun v hv => ⟨hv.1, trivial⟩
    | _ => obtain ⟨h1, h2⟩ := side_iff.1 h; exact main h2 fun v hv => hc _ _ _ h1 hv
  | [], _ :: _, _, _, h => h.elim
  | _ :: _, [], _, _, h => h.elim

theorem covF_spec {ρ : List Nat} {ht hs : Hp} {β' : List En} (hc : ∀ t s v, covL ρ ht hs t s → LC cx β s v → LC cx β' t v) : ∀ {ts ss : Fr} {p : Prop}, covF ρ ht hs ts ss p → p ∧ ts.length = ss.length ∧ ∀ (i : Nat) t s v, ts[i]? = some t → ss[i]? = some s → AC cx β s v → AC cx β' t v
  | [], [], _, h => ⟨h, rfl, fun i t s v h1 => by simp at h1⟩
  | t :: ts, s :: ss, p, h => by
    have main : covF ρ ht hs ts ss p → (∀ v, AC cx β s v → AC cx β' t v) → p ∧ (t :: ts).length = (s :: ss).length ∧ ∀ (i : Nat) t' s' v, (t :: ts)[i]? = some t' → (s :: ss)[i]? = some s' → AC cx β s' v → AC cx β' t' v := by
      intro h1 h2
      obtain ⟨h3, h4, h5⟩ := covF_spec hc h1
      refine ⟨h3, by simp [h4], fun i t' s' v g1 g2 g3 => ?_⟩
      cases i with
      | zero =>
        simp only [List.getElem?_cons_zero, Option.some.injEq] at g1 g2
        subst g1 g2
        exact h2 v g3
      | succ i => exact h5 i t' s' v (by simpa using g1) (by simpa using g2) g3
    unfold covF at h
    cases t with
    | j => exact main h fun v _ => trivial
    | t => exact h.elim
    | l x =>
      dsimp only at h
      split at h
      · rename_i y
        have h1 := (covLs_spec (vs := []) hc h).1
        refine main h1 fun v hv => ?_
        have := (covLs_spec (vs := [v]) hc h).2 ⟨hv, trivial⟩
        exact this.1
      · exact h.elim
    | a xs =>
      dsimp only at h
      split at h
      · rename_i ys
        have h1 := (covLs_spec (vs := []) hc h).1
        refine main h1 fun v hv => ?_
        obtain ⟨us, he, hu⟩ := hv
        exact ⟨us, he, (covLs_spec hc h).2 hu⟩
      · exact h.elim
  | [], _ :: _, _, h => h.elim
  | _ :: _, [], _, h => h.elim

theorem covHs_spec {N : Nat} {ρ : List Nat} {ht hs : Hp} {β' : List En} (hI : Inv cx β hs w) (hc : ∀ t s v, covL ρ ht hs t s → LC cx β s v → LC cx β' t v) : ∀ {i : Nat} {ts : List HB} {ks : List Nat} {p : Prop}, covHs N ρ ht hs i ts ks p →
    p ∧ ts.length = ks.length ∧ ∀ (j : Nat) t k, ts[j]? = some t → ks[j]? = some k → HOk cx β' w t (enT t β[k]?) ∧ (∀ b, ownE t (enT t β[k]?) = some b → ownB hs β k = some b) ∧ (i + j < N → i + j = k ∧ ∃ e, β[k]? = some e ∧ enT t β[k]? = e)
  | i, [], [], _, h => ⟨h, rfl, fun j t k h1 => by simp at h1⟩
  | i, t :: ts, k :: ks, p, h => by
    obtain ⟨s, hs1, h1⟩ := getH_iff.1 h
    have hkl : k < β.length := by rw [hI.len]; exact (List.getElem?_eq_some_iff.1 hs1).1
    have hb : β[k]? = some β[k] := List.getElem?_eq_getElem hkl
    have ho := hI.ent k _ _ hs1 hb
    have main : covHs N ρ ht hs (i + 1) ts ks p → (HOk cx β' w t (enT t β[k]?) ∧ (∀ b, ownE t (enT t β[k]?) = some b → ownB hs β k = some b) ∧ (i < N → i = k ∧ ∃ e, β[k]? = some e ∧ enT t β[k]? = e)) →
        p ∧ (t :: ts).length = (k :: ks).length ∧ ∀ (j : Nat) t' k', (t :: ts)[j]? = some t' → (k :: ks)[j]? = some k' → HOk cx β' w t' (enT t' β[k']?) ∧ (∀ b, ownE t' (enT t' β[k']?) = some b → ownB hs β k' = some b) ∧ (i + j < N → i + j = k' ∧ ∃ e, β[k']? = some e ∧ enT t' β[k']? = e) := by
      intro g1 g2
      obtain ⟨g3, g4, g5⟩ := covHs_spec hI hc g1
      refine ⟨g3, by simp [g4], fun j t' k' e1 e2 => ?_⟩
      cases j with
      | zero =>
        simp only [List.getElem?_cons_zero, Option.some.injEq] at e1 e2
        subst e1 e2
        exact g2
      | succ j =>
        have := g5 j t' k' (by simpa using e1) (by simpa using e2)
        rw [show i + 1 + j = i + (j + 1) by omega] at this
        exact this
    cases t with
    | x Φ => exact h1.elim
    | d =>
      obtain ⟨g1, g2⟩ := side_iff.1 h1
      refine main g2 ⟨?_, fun b hb => by simp [ownE] at hb, fun hi => ?_⟩
      · rw [hb]; trivial
      · have : N ≤ i := by simpa using g1
        omega
    | b cs T =>
      dsimp only at h1
      split at h1
      · rename_i cs' T'
        obtain ⟨g1, h2⟩ := side_iff.1 h1
        obtain ⟨g2, h3⟩ := side_iff.1 h2
        have hT : T = T' := Nat.eq_of_beq_eq_true g2
        subst hT
        refine main (covLs_spec (vs := []) hc h3).1 ?_
        cases hx : β[k] with
        | b n =>
          rw [hx] at hb ho
          rw [hb]
          obtain ⟨o1, us, o2, o3⟩ := ho
          refine ⟨⟨o1, us, o2, (covLs_spec hc h3).2 o3⟩, fun b hb' => ?_, fun hi => ?_⟩
          · rw [ownB_of hs1 hb]; exact hb'
          · refine ⟨?_, _, rfl, rfl⟩
            simp only [Bool.or_eq_true, Nat.ble_eq, Nat.beq_eq] at g1
            omega
        | _ => rw [hx] at ho; exact ho.elim
      · exact h1.elim
    | r ver E l =>
      dsimp only at h1
      split at h1
      · rename_i ver' E' l'
        obtain ⟨g1, h2⟩ := side_iff.1 h1
        obtain ⟨g2, h3⟩ := side_iff.1 h2
        obtain ⟨g3, h4⟩ := side_iff.1 h3
        have hE : E = E' := Nat.eq_of_beq_eq_true g2
        subst hE g3
        refine main h4 ?_
        cases hx : β[k] with
        | r v ver2 =>
          rw [hx] at hb ho
          rw [hb]
          obtain ⟨o1, o2, o3⟩ := ho
          refine ⟨⟨rfl, o2, o3⟩, fun b hb' => ?_, fun hi => ?_⟩
          · rw [ownB_of hs1 hb]; exact hb'
          · simp only [Bool.or_eq_true, Bool.and_eq_true, Nat.ble_eq, Nat.beq_eq] at g1
            refine ⟨by omega, _, rfl, ?_⟩
            show En.r v ver = En.r v ver2
            have : ver = ver' := by omega
            rw [this, o1]
        | _ => rw [hx] at ho; exact ho.elim
      · exact h1.elim
  | _, [], _ :: _, _, h => h.elim
  | _, _ :: _, [], _, h => h.elim

theorem cov_spec {ρ : List Nat} {ft fs : Fr} {ht hs : Hp} {tmps : Array Value} (h : cov hp0.length ρ ft ht fs hs) (hI : Inv cx β hs w) (hf : FR cx β fs tmps) (hL : Lk β0 hp0 w0 β hs w) : ∃ β', Inv cx β' ht w ∧ FR cx β' ft tmps ∧ Lk β0 hp0 w0 β' ht w := by
  obtain ⟨hn, h1⟩ := side_iff.1 h
  simp only [Bool.and_eq_true, Nat.ble_eq, Nat.beq_eq] at hn
  obtain ⟨⟨hn1, hn2⟩, hn3⟩ := hn
  rw [lenH_eq] at hn3
  have hc : ∀ t s v, covL ρ ht hs t s → LC cx β s v → LC cx (envT β ht ρ) t v := fun t s v => covL_spec hn3 hI
  obtain ⟨h2, _, h3⟩ := covHs_spec hI hc h1
  obtain ⟨_, h4, h5⟩ := covF_spec hc h2
  have get : ∀ (j : Nat) t, ht[j]? = some t → ∃ k, ρ[j]? = some k ∧ (envT β ht ρ)[j]? = some (enT t β[k]?) := fun j t hj => by
    have hlt : j < ρ.length := by rw [← hn3]; exact (List.getElem?_eq_some_iff.1 hj).1
    exact ⟨ρ[j], List.getElem?_eq_getElem hlt, envT_get hn3 hj (List.getElem?_eq_getElem hlt)⟩
  have own : ∀ (j : Nat) b, ownB ht (envT β ht ρ) j = some b → ∃ k, ρ[j]? = some k ∧ ownB hs β k = some b := fun j b hb => by
    obtain ⟨t, e, g1, g2, g3⟩ := ownB_some hb
    obtain ⟨k, g4, g5⟩ := get j t g1
    rw [g2] at g5
    obtain rfl := Option.some.inj g5
    exact ⟨k, g4, (h3 j t k g1 g4).2.1 b g3⟩
  refine ⟨envT β ht ρ, ⟨hI.kp, envT_len hn3, fun j t e g1 g2 => ?_, fun i j b g1 g2 => ?_⟩, ⟨h4.trans hf.1, fun i t hi => ?_⟩, ⟨fun k e hk he => ?_, fun k b hb => ?_, hL.size, by rw [hn3]; exact hn2, hL.tch⟩⟩
  · obtain ⟨k, g4, g5⟩ := get j t g1
    rw [g2] at g5
    obtain rfl := Option.some.inj g5
    exact (h3 j t k g1 g4).1
  · obtain ⟨k1, e1, e2⟩ := own i b g1
    obtain ⟨k2, e3, e4⟩ := own j b g2
    have := hI.dis k1 k2 b e2 e4
    subst this
    exact nodupB_spec hn1 i j k1 e1 e3
  · have hlt : i < fs.length := by rw [← h4]; exact (List.getElem?_eq_some_iff.1 hi).1
    have hs' : fs[i]? = some fs[i] := List.getElem?_eq_getElem hlt
    exact h5 i t _ _ hi hs' (hf.2 i _ hs')
  · have hkt : k < ht.length := by rw [hn3]; omega
    obtain ⟨q, g4, g5⟩ := get k _ (List.getElem?_eq_getElem hkt)
    obtain ⟨g6, e', g7, g8⟩ := (h3 k _ q (List.getElem?_eq_getElem hkt) g4).2.2 (by omega)
    have g9 : k = q := by omega
    subst g9
    have hX := hL.ext k e hk he
    rw [g8] at g5
    cases e with
    | b n => rw [g5, ← g7]; exact hX
    | r v ver =>
      obtain ⟨v', ver', x1, x2⟩ := hX
      exact ⟨v', ver', by rw [g5, ← g7]; exact x1, x2⟩
    | x => trivial
  · obtain ⟨q, g1, g2⟩ := own k b hb
    rcases hL.om q b g2 with ⟨g3, g4⟩ | g3
    · have hq : q < ρ.length := by omega
      have hqt : q < ht.length := by omega
      have hρq : ρ[q]? = some ρ[q] := List.getElem?_eq_getElem hq
      obtain ⟨g6, _⟩ := (h3 q _ _ (List.getElem?_eq_getElem hqt) hρq).2.2 (by omega)
      have g7 : ρ[q] = q := by omega
      rw [g7] at hρq
      have := nodupB_spec hn1 k q q g1 hρq
      subst this
      exact .inl ⟨g3, g4⟩
    · exact .inr g3

end
end Ab
end Go.Proofs.Ytacjfkodndkaeaa
