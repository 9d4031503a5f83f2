/-
  Slices of int that came in with a law's argument.
-/
import Derived.Test.YtednhgiabpgleaaExInts
namespace Go.Proofs.Ytednhgiabpgleaa
open Go.RowKit

theorem spot_none {w : World} {x : Addr} {v : Value} (h : w.cell? x = some v) : x.spot = none := by
  obtain ⟨g, off, spot⟩ := x
  simp only [World.cell?] at h
  split at h
  · cases spot with
    | none => rfl
    | some s => simp at h
  · cases h

theorem readI_nil (w : World) : ReadI w (.slice none 0 0) [] := ⟨none, 0, rfl, fun k hk => by simp at hk⟩
theorem readI_row {w : World} {x : Addr} {n cap : Nat} {zs : List Int} (h1 : n ≤ cap) (h2 : zs.length = cap) (h3 : ∀ i, i < zs.length → w.cell? (x.add i) = some (.int .i64 (zs.getD i 0))) : ReadI w (.slice (some x) n cap) (zs.take n) := by
  have hlen : (zs.take n).length = n := by rw [List.length_take]; omega
  refine ⟨some x, cap, by rw [hlen], fun k hk => ?_⟩
  rw [hlen] at hk
  have h0 := h3 0 (by omega)
  have hs : x.spot = none := spot_none (by simpa [Addr.add] using h0)
  obtain ⟨g, off, spot⟩ := x
  simp only at hs
  subst hs
  have hk' := h3 k (by omega)
  have hadd : (⟨g, off, none⟩ : Addr).add k = ⟨g, off + k, none⟩ := by unfold Addr.add; split <;> simp_all
  rw [hadd] at hk'
  refine ⟨g, off, rfl, hk'.trans ?_⟩
  simp [List.getD, hk]

end Go.Proofs.Ytednhgiabpgleaa
