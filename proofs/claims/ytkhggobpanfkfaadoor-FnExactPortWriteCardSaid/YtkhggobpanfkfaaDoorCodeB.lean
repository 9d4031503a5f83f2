/-
  The argument of a law: a slice that came in reads as a list. Plain lemmas.
-/
import Derived.Test.YtkhggobpanfkfaaDoorAbsN
namespace Go.Proofs.YtkhggobpanfkfaaDoor
open Go.RowKit
open Ab
set_option linter.unusedSimpArgs false
set_option linter.unusedVariables false

theorem sl_of_cells {w : World} {x : Addr} {n cap : Nat} {xs : List Value} (h1 : n ≤ cap) (h2 : xs.length = cap) (h3 : ∀ i, i < xs.length → w.cell? (x.add i) = xs[i]?) : Sl w 1 (.slice (some x) n cap) n (xs.take n) := by
  refine ⟨by rw [List.length_take]; omega, ?_⟩
  by_cases h0 : cap = 0
  · exact .inl ⟨by omega, some x, cap, by rw [show n = 0 by omega], fun h => by simp at h⟩
  right
  have hc0 : w.cell? x = some (xs[0]'(by omega)) := by
    have := h3 0 (by omega)
    rw [List.getElem?_eq_getElem (by omega)] at this
    rw [← this]
    congr 1
  have hs : x.spot = none := World.cell?_spot hc0
  obtain ⟨g, off, spot⟩ := x
  simp only at hs
  subst hs
  have hadd : ∀ i, (⟨g, off, none⟩ : Addr).add i = ⟨g, off + i, none⟩ := fun i => by unfold Addr.add; split <;> simp_all
  unfold World.cell? at hc0
  cases hg : w.heap[g]? with
  | none => simp [hg] at hc0
  | some o =>
    cases o with
    | cells cur T fr =>
      have hcell : ∀ i, i < cap → cur[off + i]? = xs[i]? := fun i hi => by
        have := h3 i (by omega)
        rw [hadd, World.cell?] at this
        simp only [hg] at this
        simpa using this
      refine ⟨g, off, cap, cur, (T, fr), rfl, h1, hg, ?_, ?_⟩
      · have := hcell (cap - 1) (by omega)
        rw [List.getElem?_eq_getElem (by omega)] at this
        have := (Array.getElem?_eq_some_iff.1 this).1
        omega
      · apply List.ext_getElem?
        intro i
        simp only [List.getElem?_take, Nat.mul_one]
        split
        · rw [List.getElem?_drop, Array.getElem?_toList]
          exact hcell i (by omega)
        · rfl
    | _ => simp [hg] at hc0

theorem codeB_of_row {w : World} {a : Option Addr} {n cap : Nat} {zs : List Int} (h : (a = none ∧ n = 0 ∧ cap = 0 ∧ zs = []) ∨
    ∃ x, a = some x ∧ n ≤ cap ∧ cap ≤ maxLen ∧ zs.length = cap ∧ (∀ i, i < zs.length → w.cell? (x.add i) = some (.int .u8 (zs.getD i 0))) ∧ ∀ n ∈ zs, (Lit.int .u8 n).wf = true) : CodeB w (.slice a n cap) := by
  refine ⟨a, n, cap, rfl, fun hn => ?_⟩
  rcases h with ⟨rfl, rfl, rfl, _⟩ | ⟨x, rfl, h1, _, h2, h3, h4⟩
  · exact ⟨[], ⟨rfl, .inl ⟨rfl, _, _, rfl, fun _ => rfl⟩⟩, Nat.zero_le _⟩
  · have hb : ∀ z ∈ zs, 0 ≤ z ∧ z ≤ 255 := fun z hz => by
      have hw := h4 z hz
      simp only [Lit.wf, Bool.and_eq_true, decide_eq_true_eq] at hw
      exact hw
    have hmap : (zs.map fun z => UInt8.ofNat z.toNat).map (fun b => Value.int .u8 (b.toNat : Int)) = zs.map (Value.int .u8) := by
      rw [List.map_map]
      apply List.map_congr_left
      intro z hz
      have := hb z hz
      simp only [Function.comp_apply]
      congr 1
      rw [UInt8.toNat_ofNat']
      omega
    have hs := sl_of_cells (w := w) (x := x) (xs := zs.map (Value.int .u8)) h1 (by simpa using h2) (fun i hi => by
      simp only [List.length_map] at hi
      rw [h3 i hi, List.getElem?_map, List.getD_eq_getElem?_getD, List.getElem?_eq_getElem hi]
      rfl)
    refine ⟨(zs.map fun z => UInt8.ofNat z.toNat).take n, ?_, ?_⟩
    · have hl : (EL.bytes ((zs.map fun z => UInt8.ofNat z.toNat).take n)).len = n := by
        simp only [EL.len, List.length_take, List.length_map]
        omega
      rw [hl]
      show Sl w 1 _ n (((zs.map fun z => UInt8.ofNat z.toNat).take n).map fun b => Value.int .u8 (b.toNat : Int))
      rw [List.map_take, hmap]
      exact hs
    · simp only [EL.len, maxL, List.length_take]
      omega

/-- A slice of int that came in with an argument. -/
theorem ints_arg {w : World} {v : Value} {α : Type} {x : α} {base : Nat} {spare : Nat → Bool} {A : α} {B : Addr → List Int → Nat → α} (h : ([v] = [.slice none 0 0] ∧ x = A) ∨
    ∃ (a : Addr) (len cap : Nat) (zs : List Int), [v] = [.slice (some a) len cap] ∧ base ≤ a.block ∧ len ≤ cap ∧ cap ≤ maxLen ∧ zs.length = (if spare a.block then cap else len) ∧ x = B a zs len ∧
      (∀ i, i < zs.length → w.cell? (a.add i) = some (.int .i64 (zs.getD i 0))) ∧ (∀ n ∈ zs, (Lit.int .i64 n).wf = true)) (hs : ∀ b, spare b = true) :
    ∃ a n c, v = .slice a n c ∧ n ≤ 9223372036854775807 ∧ (n ≤ 1048576 → ∃ l : List Int, rdE w (.ints l) v) := by
  rcases h with ⟨e, _⟩ | ⟨x, n, cap, zs, e, _, h1, h2, h3, _, hcell, _⟩
  · simp only [List.cons.injEq, and_true] at e
    subst e
    exact ⟨none, 0, 0, rfl, by omega, fun _ => ⟨[], ⟨rfl, .inl ⟨rfl, _, _, rfl, fun _ => rfl⟩⟩, Nat.zero_le _⟩⟩
  · simp only [List.cons.injEq, and_true] at e
    subst e
    rw [hs, if_pos rfl] at h3
    refine ⟨some x, n, cap, rfl, by have : maxLen = 9223372036854775807 := rfl; omega, fun hn => ⟨zs.take n, ?_, ?_⟩⟩
    · have hsl := sl_of_cells (w := w) (x := x) (xs := zs.map (Value.int .i64)) h1 (by simpa using h3) (fun i hi => by
        simp only [List.length_map] at hi
        rw [hcell i hi, List.getElem?_map, List.getD_eq_getElem?_getD, List.getElem?_eq_getElem hi]
        rfl)
      have hl : (EL.ints (zs.take n)).len = n := by simp only [EL.len, List.length_take]; omega
      rw [hl]
      show Sl w 1 _ n ((zs.take n).map (Value.int .i64))
      rw [List.map_take]
      exact hsl
    · simp only [EL.len, maxL, List.length_take]
      omega

end Go.Proofs.YtkhggobpanfkfaaDoor
