/-
  A whole piece of code: what the abstract walk says of it is what it does. Plain lemmas; the conditions are the types' rows (TIok) and the contracts (CSok).
-/
import Derived.Test.YtacjfkodndkaeaaAbsF
namespace Go.Proofs.Ytacjfkodndkaeaa
open Go.RowKit
namespace Ab

/-- What a piece of code leaves of what there was when the function began (or was entered by another one). -/
structure Lk (β0 : List En) (hp0 : Hp) (w0 : World) (β : List En) (hp : Hp) (w : World) : Prop where
  ext : ∀ k e, k < hp0.length → β0[k]? = some e → match e with
    | .b n => β[k]? = some (.b n)
    | .r v ver => ∃ v' ver', β[k]? = some (.r v' ver') ∧ ver ≤ ver' ∧ (ver = ver' → v' = v)
    | .x => True
  om : ∀ k b, ownB hp β k = some b → (k < hp0.length ∧ ownB hp0 β0 k = some b) ∨ w0.heap.size ≤ b
  size : w0.heap.size ≤ w.heap.size
  len : hp0.length ≤ hp.length
  tch : ∀ b, b < w0.heap.size → (∀ k, ownB hp0 β0 k ≠ some b) → w.heap[b]? = w0.heap[b]?

section
variable {P : Program} {cx : Cx} {β : List En} {hp : Hp} {w : World} {β0 : List En} {hp0 : Hp} {w0 : World}

theorem Lk.out {S : Nat → Prop} {β' : List En} {hp' : Hp} {w' : World} (h : Lk β0 hp0 w0 β hp w) (ho : Out cx β hp w S β' hp' w') : Lk β0 hp0 w0 β' hp' w' := by
  refine ⟨fun k e hk he => ?_, fun k b hb => ?_, Nat.le_trans h.size ho.size, Nat.le_trans h.len ho.len, fun b hb hn => ?_⟩
  rotate_left 2
  · refine (ho.tch b (Nat.lt_of_lt_of_le hb h.size) fun k _ e => ?_).trans (h.tch b hb hn)
    rcases h.om k b e with h1 | h1
    · exact hn k h1.2
    · omega
  · have h1 := h.ext k e hk he
    cases e with
    | b n => exact ho.ext k _ h1
    | r v ver =>
      obtain ⟨v', ver', h2, h3, h4⟩ := h1
      obtain ⟨v2, ver2, h5, h6, h7⟩ := ho.ext k _ h2
      exact ⟨v2, ver2, h5, Nat.le_trans h3 h6, fun e => (h7 (by omega)).trans (h4 (by omega))⟩
    | x => trivial
  · rcases ho.om k b hb with h1 | h1
    · exact h.om k b h1
    · exact .inr (Nat.le_trans h.size h1)

/-! ### Regions in the text's order -/
theorem want_spec {ops : Array Oper} {fr : Fr} {a : Act} {o : Oper} {p q : Prop} (hf : FR cx β fr a.tmps) (h : wantK ops.toList fr o p q) :
    (Region.wanted o (yielded ops a.tmps) = true ∧ p) ∨ (Region.wanted o (yielded ops a.tmps) = false ∧ q) := by
  unfold wantK at h
  unfold Region.wanted
  cases hg : o.guard with
  | none => simp only [hg] at h; exact .inl ⟨rfl, h⟩
  | some x =>
    obtain ⟨i, b⟩ := x
    simp only [hg] at h
    obtain ⟨oi, h1, h2⟩ := getO_iff.1 h
    split at h2
    · rename_i d hd
      obtain ⟨x, h3, h4⟩ := getF_iff.1 h2
      split at h4
      · rename_i t
        have hx := hf.2 d _ h3
        have hlt : d < a.tmps.size := by rw [← hf.1]; exact (List.getElem?_eq_some_iff.1 h3).1
        have hv : a.tmps[d]? = some (.bool t) := by
          have := hx.2
          simp only [Array.getD, hlt, dif_pos] at this
          rw [Array.getElem?_eq_getElem hlt]
          exact congrArg some this
        have hy : yielded ops a.tmps i = some t := by
          unfold yielded
          have : ops[i]? = some oi := by simpa using h1
          simp [this, hd, hv]
        simp only [hy]
        cases b with
        | true =>
          dsimp only at h4
          rw [br_ite] at h4
          cases t with
          | true => exact .inl ⟨rfl, h4⟩
          | false => exact .inr ⟨rfl, h4⟩
        | false =>
          dsimp only at h4
          rw [br_ite] at h4
          cases t with
          | true => exact .inr ⟨rfl, h4⟩
          | false => exact .inl ⟨rfl, h4⟩
      · have hx := hf.2 d _ h3
        have hlt : d < a.tmps.size := by rw [← hf.1]; exact (List.getElem?_eq_some_iff.1 h3).1
        split at h4
        · obtain ⟨vs, hv, _⟩ := hx
          have hv : a.tmps[d]? = some (.tuple vs) := by
            simp only [Array.getD, hlt, dif_pos] at hv
            rw [Array.getElem?_eq_getElem hlt]
            exact congrArg some hv
          have hy : yielded ops a.tmps i = none := by
            unfold yielded
            have : ops[i]? = some oi := by simpa using h1
            simp [this, hd, hv]
          exact .inr ⟨by simp [hy], h4⟩
        · exact h4.elim
      · exact h4.elim
    · exact h2.elim

/-- What holds where a piece of code has come to. -/
def At (cx : Cx) (β0 : List En) (hp0 : Hp) (w0 : World) (d0 : List Deferred) (fr : Fr) (hp : Hp) (a : Act) (w : World) : Prop := ∃ β, Inv cx β hp w ∧ FR cx β fr a.tmps ∧ a.defers = d0 ∧ Lk β0 hp0 w0 β hp w

theorem ops_spec {T : Tab} {G : Env} (hT : TabOk P T) (hG : EnvOk P G) {ops : Array Oper} {Q : Exit → Act → World → Prop} {d0 : List Deferred} {K : Fr → Hp → Prop}
    (hQ : ∀ fr hp a w, K fr hp → At cx β0 hp0 w0 d0 fr hp a w → Q .normal a w) : ∀ (r : List Oper) (i : Nat) (fr : Fr) (hp : Hp) (a : Act) (w : World), ops.toList.drop i = r → At cx β0 hp0 w0 d0 fr hp a w → opsK T G ops.toList r fr hp K →
    wpOps P ops Q (List.range' i r.length) a w := by
  intro r
  induction r with
  | nil => intro i fr hp a w _ hA h; exact hQ fr hp a w h hA
  | cons o r ih =>
    intro i fr hp a w hd hA h
    have ho : ops[i]? = some o := by
      have := congrArg (fun l => l[0]?) hd
      simpa using this
    have hd' : ops.toList.drop (i + 1) = r := by
      have := congrArg List.tail hd
      simpa using this
    rw [List.length_cons, List.range'_succ, wpOps_cons]
    obtain ⟨β, hI, hf, hdf, hL⟩ := hA
    unfold wpOp
    simp only [ho]
    rcases want_spec hf h with ⟨hw, h1⟩ | ⟨hw, h1⟩
    · rw [if_pos hw]
      refine .inl (Oper.wp_mono ?_ (eff_spec (Q := Q) (W := none) hT hG hI hf (fun _ _ => trivial) h1))
      rintro a' w' ⟨fr', hp', β', hk, hf', hdf', hout⟩
      exact ih (i + 1) fr' hp' a' w' hd' ⟨β', hout.inv, hf', hdf'.trans hdf, hL.out hout⟩ hk
    · rw [if_neg (by simp [hw])]
      obtain ⟨fr', hk, hf', hdf'⟩ := put_spec (v := undef) h1 hf ⟨#[], rfl, trivial⟩
      exact ih (i + 1) fr' hp _ w hd' ⟨β, hI, hf', hdf'.trans hdf, hL⟩ hk

/-! ### Regions that draw their order -/
/-- How a region's memory stands to that at its beginning. -/
structure RI (n : Nat) (Wl : List Nat) (N0 : Nat) (β1 : List En) (hp1 : Hp) (β : List En) (hp : Hp) (w : World) : Prop where
  r1 : ∀ k b, ownB hp β k = some b → ownB hp1 β1 k = some b ∨ N0 ≤ b
  r2 : ∀ k, k < n → k ∉ Wl → ownB hp β k = ownB hp1 β1 k
  size : N0 ≤ w.heap.size
  len : n ≤ hp.length

def pOf (N0 : Nat) (Wl : List Nat) (β1 : List En) (hp1 : Hp) (b : Nat) : Prop := b < N0 ∧ ∀ k ∈ Wl, ownB hp1 β1 k ≠ some b

theorem tree_spec {T : Tab} {G : Env} (hT : TabOk P T) (hG : EnvOk P G) {ops : Array Oper} {Q : Exit → Act → World → Prop} {d0 : List Deferred} {n : Nat} {Wl : List Nat} {β1 : List En} {hp1 : Hp} {w1 : World}
    (hI1 : Inv cx β1 hp1 w1) (hn1 : ∀ k, n ≤ k → ownB hp1 β1 k = none) :
    ∀ (t : Tr) (K : Fr → Hp → Prop) (fr : Fr) (hp : Hp) (β : List En) (a : Act) (w : World), (∀ fr hp a w, K fr hp → At cx β0 hp0 w0 d0 fr hp a w → Q .normal a w) → Inv cx β hp w → FR cx β fr a.tmps → a.defers = d0 → Lk β0 hp0 w0 β hp w → RI n Wl w1.heap.size β1 hp1 β hp w →
      treeK T G ops.toList (n, Wl) n t fr hp K → wpE P ops (pOf w1.heap.size Wl β1 hp1) Q t a w := by
  have late : ∀ (t : Tr) (K : Fr → Hp → Prop) (fr : Fr) (hp : Hp) (a : Act) (w : World), (∀ fr hp a w, K fr hp → At cx β0 hp0 w0 d0 fr hp a w → Q .normal a w) → At cx β0 hp0 w0 d0 fr hp a w →
      lateK T G ops.toList (n, Wl) n t fr hp K → wpE P ops (pOf w1.heap.size Wl β1 hp1) Q t a w := by
    intro t
    induction t with
    | nil => intro K fr hp a w hQ hA h; exact hQ fr hp a w (end_iff.1 h) hA
    | op i k t ih =>
      intro K fr hp a w hQ hA h
      match k, h with
      | 0, h => exact h.elim
      | 1, h => exact h.elim
      | k + 2, h =>
        obtain ⟨β, hI, hf, hdf, hL⟩ := hA
        obtain ⟨o, ho', h1⟩ := getO_iff.1 h
        have ho : ops[i]? = some o := by simpa using ho'
        show wpOp P ops Q i _ a w
        unfold wpOp
        simp only [ho]
        rcases want_spec hf h1 with ⟨hw, h2⟩ | ⟨hw, h2⟩
        · rw [if_pos hw]
          refine .inl (Oper.wp_mono ?_ (eff_spec (Q := Q) (W := none) hT hG hI hf (fun _ _ => trivial) (natK_iff.1 h2)))
          rintro a' w' ⟨fr', hp', β', hk, hf', hdf', hout⟩
          exact ih K fr' hp' a' w' hQ ⟨β', hout.inv, hf', hdf'.trans hdf, hL.out hout⟩ hk
        · rw [if_neg (by simp [hw])]
          obtain ⟨fr', hk, hf', hdf'⟩ := put_spec (v := undef) h2 hf ⟨#[], rfl, trivial⟩
          exact ih K fr' hp _ w hQ ⟨β, hI, hf', hdf'.trans hdf, hL⟩ hk
    | fork => intro K fr hp a w hQ hA h; exact h.elim
  -- what may be asked stays, and the region's memory stays in order
  have exOf : ∀ {β β' : List En} {hp hp' : Hp} {w w' : World}, RI n Wl w1.heap.size β1 hp1 β hp w → Out cx β hp w (SW (some (n, Wl))) β' hp' w' → Ex (pOf w1.heap.size Wl β1 hp1) w w' ∧ RI n Wl w1.heap.size β1 hp1 β' hp' w' := by
    intro β β' hp hp' w w' hR ho
    refine ⟨⟨ho.size, fun b hp hb => ho.tch b hb fun k hk e => ?_⟩, fun k b hb => ?_, fun k hk hn => ?_, Nat.le_trans hR.size ho.size, Nat.le_trans hR.len ho.len⟩
    · rcases hR.r1 k b e with h1 | h1
      · rcases hk with hk | hk
        · exact hp.2 k hk h1
        · rw [hn1 k hk] at h1; cases h1
      · exact absurd hp.1 (by omega)
    · rcases ho.om k b hb with h1 | h1
      · exact hR.r1 k b h1
      · exact .inr (Nat.le_trans hR.size h1)
    · rw [ho.own k (Nat.lt_of_lt_of_le hk hR.len) (fun e => e.elim hn (by omega))]
      exact hR.r2 k hk hn
  have hr : ∀ {hp : Hp} {j : Nat}, n ≤ hp.length → ∀ k, (some (n + j) = some k ∨ hp.length ≤ k) → SW (some (n, Wl)) k := by
    intro hp j hl k hk
    refine .inr ?_
    rcases hk with hk | hk
    · simp only [Option.some.injEq] at hk; omega
    · omega
  have step1 : ∀ (i : Nat) (t : Tr) (K : Fr → Hp → Prop) (fr : Fr) (hp : Hp) (β : List En) (a : Act) (w : World),
      (∀ (fr : Fr) (hp : Hp) (β : List En) (a : Act) (w : World), Inv cx β hp w → FR cx β fr a.tmps → a.defers = d0 → Lk β0 hp0 w0 β hp w → RI n Wl w1.heap.size β1 hp1 β hp w → treeK T G ops.toList (n, Wl) n t fr hp K → wpE P ops (pOf w1.heap.size Wl β1 hp1) Q t a w) →
      Inv cx β hp w → FR cx β fr a.tmps → a.defers = d0 → Lk β0 hp0 w0 β hp w → RI n Wl w1.heap.size β1 hp1 β hp w → (stepT T G ops.toList (n, Wl) n i 1 fr hp fun fr' hp' => treeK T G ops.toList (n, Wl) n t fr' hp' K) →
      wpOp P ops Q i (fun a' w' => Ex (pOf w1.heap.size Wl β1 hp1) w w' ∧ wpE P ops (pOf w1.heap.size Wl β1 hp1) Q t a' w') a w := by
    intro i t K fr hp β a w ih hI hf hdf hL hR h
    obtain ⟨o, ho', h1⟩ := getO_iff.1 h
    have ho : ops[i]? = some o := by simpa using ho'
    unfold wpOp
    simp only [ho]
    rcases want_spec hf h1 with ⟨hw, h2⟩ | ⟨hw, h2⟩
    · rw [if_pos hw]
      refine .inl (Oper.wp_mono ?_ (eff_spec (Q := Q) hT hG hI hf (hr hR.len) (natK_iff.1 h2)))
      rintro a' w' ⟨fr', hp', β', hk, hf', hdf', hout⟩
      obtain ⟨e1, e2⟩ := exOf hR hout
      exact ⟨e1, ih fr' hp' β' a' w' hout.inv hf' (hdf'.trans hdf) (hL.out hout) e2 hk⟩
    · rw [if_neg (by simp [hw])]
      obtain ⟨fr', hk, hf', hdf'⟩ := put_spec (v := undef) h2 hf ⟨#[], rfl, trivial⟩
      exact ⟨Ex.refl _ _, ih fr' hp β _ w hI hf' (hdf'.trans hdf) hL hR hk⟩
  intro t
  induction t with
  | nil => intro K fr hp β a w hQ hI hf hdf hL hR h; exact hQ fr hp a w (end_iff.1 h) ⟨β, hI, hf, hdf, hL⟩
  | op i k t ih =>
    intro K fr hp β a w hQ hI hf hdf hL hR h
    match k, h with
    | 0, h =>
      obtain ⟨o, ho', h1⟩ := getO_iff.1 h
      have ho : ops[i]? = some o := by simpa using ho'
      rcases want_spec hf h1 with ⟨hw, h2⟩ | ⟨hw, h2⟩
      · obtain ⟨r, h3, v, h4, h5⟩ := soft_spec hT hI hf h2
        obtain ⟨fr', hk, hf', hdf'⟩ := put_spec h3 hf h4
        refine ⟨o, v, ho, .inl ⟨hw, fun w' hx => h5 w' ?_⟩, ih K fr' hp β _ w hQ hI hf' (hdf'.trans hdf) hL hR hk⟩
        intro b hb
        rcases hb with ⟨k, hk, hkW, hkb⟩ | ⟨hb1, hb2⟩
        · have h6 : ownB hp1 β1 k = some b := by rw [← hR.r2 k hk hkW]; exact hkb
          refine hx.2 b ⟨(hI1.lt h6).1, fun k' hk' e => ?_⟩ (hI.lt hkb).1
          have := hI1.dis k' k b e h6
          exact hkW (this ▸ hk')
        · have h7 : b < w1.heap.size := Nat.lt_of_lt_of_le hb1 hI1.kp.size
          refine hx.2 b ⟨h7, fun k' hk' e => ?_⟩ (Nat.lt_of_lt_of_le h7 hR.size)
          rcases (hI1.lt e).2 with h8 | h8
          · omega
          · exact hb2 h8
      · obtain ⟨fr', hk, hf', hdf'⟩ := put_spec (v := undef) h2 hf ⟨#[], rfl, trivial⟩
        exact ⟨o, undef, ho, .inr ⟨hw, rfl⟩, ih K fr' hp β _ w hQ hI hf' (hdf'.trans hdf) hL hR hk⟩
    | 1, h => exact step1 i t K fr hp β a w (fun fr hp β a w h1 h2 h3 h4 h5 h6 => ih K fr hp β a w hQ h1 h2 h3 h4 h5 h6) hI hf hdf hL hR h
    | k + 2, h =>
      obtain ⟨o, ho', h1⟩ := getO_iff.1 h
      have ho : ops[i]? = some o := by simpa using ho'
      show wpOp P ops Q i _ a w
      unfold wpOp
      simp only [ho]
      rcases want_spec hf h1 with ⟨hw, h2⟩ | ⟨hw, h2⟩
      · rw [if_pos hw]
        refine .inl (Oper.wp_mono ?_ (eff_spec (Q := Q) (W := none) hT hG hI hf (fun _ _ => trivial) (natK_iff.1 h2)))
        rintro a' w' ⟨fr', hp', β', hk, hf', hdf', hout⟩
        exact late t K fr' hp' a' w' hQ ⟨β', hout.inv, hf', hdf'.trans hdf, hL.out hout⟩ hk
      · rw [if_neg (by simp [hw])]
        obtain ⟨fr', hk, hf', hdf'⟩ := put_spec (v := undef) h2 hf ⟨#[], rfl, trivial⟩
        exact late t K fr' hp _ w hQ ⟨β, hI, hf', hdf'.trans hdf, hL⟩ hk
  | fork i k t j l u iht ihu =>
    intro K fr hp β a w hQ hI hf hdf hL hR h
    obtain ⟨h1, h2⟩ := h
    exact ⟨step1 i t K fr hp β a w (fun fr hp β a w h1 h2 h3 h4 h5 h6 => iht K fr hp β a w hQ h1 h2 h3 h4 h5 h6) hI hf hdf hL hR h2,
      step1 j u K fr hp β a w (fun fr hp β a w h1 h2 h3 h4 h5 h6 => ihu K fr hp β a w hQ h1 h2 h3 h4 h5 h6) hI hf hdf hL hR (h1 K h2)⟩

end
end Ab
end Go.Proofs.Ytacjfkodndkaeaa
