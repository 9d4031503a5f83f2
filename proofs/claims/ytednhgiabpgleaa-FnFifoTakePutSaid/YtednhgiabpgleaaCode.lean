/-
  The argument of a law: bytes that came in.
-/
import Derived.Test.YtednhgiabpgleaaDrawF
namespace Go.Proofs.Ytednhgiabpgleaa
open Go.RowKit

theorem code_of_row {w : World} {a : Option Addr} {n cap : Nat} {zs : List Int} (h : (a = none ∧ n = 0 ∧ cap = 0 ∧ zs = []) ∨
    ∃ x, a = some x ∧ n ≤ cap ∧ cap ≤ maxLen ∧ zs.length = cap ∧ (∀ i, i < zs.length → w.cell? (x.add i) = some (.int .u8 (zs.getD i 0))) ∧ ∀ n ∈ zs, (Lit.int .u8 n).wf = true) : Code w (.slice a n cap) := by
  rcases h with ⟨rfl, rfl, rfl, _⟩ | ⟨x, rfl, h1, _, h2, h3, h4⟩
  · exact ⟨none, 0, 0, rfl, Nat.le_refl _, fun k hk => by omega⟩
  · refine ⟨_, n, cap, rfl, h1, fun k hk => ?_⟩
    have h0 := h3 0 (by omega)
    obtain ⟨g, off, spot⟩ := x
    have hs : spot = none := by
      simp only [Addr.add, if_true, World.cell?] at h0
      split at h0
      · cases spot with
        | none => rfl
        | some s => simp at h0
      · cases h0
    subst hs
    have hk' := h3 k (by omega)
    have hadd : (⟨g, off, none⟩ : Addr).add k = ⟨g, off + k, none⟩ := by unfold Addr.add; split <;> simp_all
    rw [hadd] at hk'
    have hmem : zs.getD k 0 ∈ zs := by
      rw [List.getD_eq_getElem?_getD, List.getElem?_eq_getElem (by omega)]
      exact List.getElem_mem _
    have hw := h4 _ hmem
    have hb : 0 ≤ zs.getD k 0 ∧ zs.getD k 0 ≤ 255 := by
      simp only [Lit.wf, Bool.and_eq_true, decide_eq_true_eq] at hw
      exact hw
    exact ⟨g, off, rfl, World.block_lt_of_cell? w _ h0, _, hb.1, hb.2, hk'⟩

end Go.Proofs.Ytednhgiabpgleaa
