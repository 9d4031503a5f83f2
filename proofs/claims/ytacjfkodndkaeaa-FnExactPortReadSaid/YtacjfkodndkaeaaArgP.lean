/-
  Ports that came in with a law's argument. Plain lemmas; the conditions are the types' rows.
-/
import Derived.Test.YtacjfkodndkaeaaArgG
namespace Go.Proofs.Ytacjfkodndkaeaa
open Go.ChangeShapes Go.WideShapes Go.RowKit Go.Deep Go.Joins
open Ab
set_option linter.unusedSimpArgs false
set_option linter.unusedVariables false
set_option linter.unusedSimpArgs false
set_option linter.unusedVariables false

section
variable {H : Type} {enc : TypeId × Value → H} {P : Program} {w : World} {base : Nat} {spare : Nat → Bool} {held : Bool}
theorem trod_field {t : TypeId} {fs : Array Field} {fuel : Nat} {cs : List Value} {x : DataW H × List MemPlace} (ht : P.underlying t = some (.struct fs)) (h : DataW.trod enc P w base spare held fuel t cs = some x) (i : Nat) {f : Field} (hf : fs[i]? = some f) :
    ∃ y n, DataW.trod enc P w base spare held n f.type ((cs.drop f.offset).take (P.cellsOf f.type)) = some y := by
  obtain ⟨xs, n, _, rfl, hl, hlen, hfield⟩ := DataW.trod_struct ht h
  have hi : i < fs.size := (Array.getElem?_eq_some_iff.1 hf).1
  exact ⟨xs[i]'(by omega), n, by rw [hfield i f hf, List.getElem?_eq_getElem]⟩
theorem leaf_int {t : TypeId} {fuel : Nat} {cs : List Value} {x : DataW H × List MemPlace} {c : Value} (ht : P.underlying t = some (.int .i64)) (h : DataW.trod enc P w base spare held fuel t cs = some x) (hc : cs = [c]) : ∃ z, c = .int .i64 z := by
  subst hc
  obtain ⟨z, e, _⟩ := DataW.trod_int ht h
  simp only [List.cons.injEq, and_true] at e
  exact ⟨z, e⟩
theorem leaf_bool {t : TypeId} {fuel : Nat} {cs : List Value} {x : DataW H × List MemPlace} {c : Value} (ht : P.underlying t = some .bool) (h : DataW.trod enc P w base spare held fuel t cs = some x) (hc : cs = [c]) : ∃ z, c = .bool z := by
  subst hc
  obtain ⟨z, e, _⟩ := DataW.trod_bool ht h
  simp only [List.cons.injEq, and_true] at e
  exact ⟨z, e⟩
end
theorem array18 {α : Type} {cs : Array α} (h : cs.size = 18) : ∃ c0 c1 c2 c3 c4 c5 c6 c7 c8 c9 c10 c11 c12 c13 c14 c15 c16 c17, cs = #[c0, c1, c2, c3, c4, c5, c6, c7, c8, c9, c10, c11, c12, c13, c14, c15, c16, c17] := by
  obtain ⟨l⟩ := cs
  match l, h with
  | [c0, c1, c2, c3, c4, c5, c6, c7, c8, c9, c10, c11, c12, c13, c14, c15, c16, c17], _ => exact ⟨c0, c1, c2, c3, c4, c5, c6, c7, c8, c9, c10, c11, c12, c13, c14, c15, c16, c17, rfl⟩

theorem cF : Try.prog.cellsOf 61 = 3 := by kernel_rfl
theorem cR : Try.prog.cellsOf 64 = 5 := by kernel_rfl
theorem cS : Try.prog.cellsOf 65 = 4 := by kernel_rfl
theorem cM : Try.prog.cellsOf 66 = 4 := by kernel_rfl
theorem cI : Try.prog.cellsOf 3 = 1 := by kernel_rfl
theorem cB : Try.prog.cellsOf 4 = 1 := by kernel_rfl
theorem cG : Try.prog.cellsOf 62 = 1 := by kernel_rfl
theorem cL : Try.prog.cellsOf 30 = 1 := by kernel_rfl

/-- The cells of a port. -/
theorem open_port {H : Type} {enc : TypeId × Value → H} {w : World} {base : Nat} {held : Bool} {fuel : Nat} {x : DataW H × List MemPlace} {c0 c1 c2 c3 c4 c5 c6 c7 c8 c9 c10 c11 c12 c13 c14 c15 c16 c17 : Value} (h : DataW.trod enc Try.prog w base (fun _ => true) held fuel 68 [c0, c1, c2, c3, c4, c5, c6, c7, c8, c9, c10, c11, c12, c13, c14, c15, c16, c17] = some x) :
    ∃ (fb fq fst pe pc rr rt : Int) (ro : Bool) (ra sr ss sf : Int) (mc mh mcc mhc : Bool), c0 = .int .i64 fb ∧ c1 = .int .i64 fq ∧ c2 = .int .i64 fst ∧ c3 = .int .i64 pe ∧ c4 = .int .i64 pc ∧ c5 = .int .i64 rr ∧ c6 = .int .i64 rt ∧ c8 = .bool ro ∧ c9 = .int .i64 ra ∧ c10 = .int .i64 sr ∧ c12 = .int .i64 ss ∧ c13 = .int .i64 sf ∧ c14 = .bool mc ∧ c15 = .bool mh ∧ c16 = .bool mcc ∧ c17 = .bool mhc ∧
      (∃ a n c, c7 = .slice a n c ∧ n ≤ 9223372036854775807 ∧ (n ≤ 1048576 → ∃ l : List (Int × Int), rdE w (.gots l) c7)) ∧ (∃ a n c, c11 = .slice a n c ∧ n ≤ 9223372036854775807 ∧ (n ≤ 1048576 → ∃ l : List Int, rdE w (.ints l) c11)) := by
  obtain ⟨y0, n0, e0⟩ := trod_field Try.underlying68 h 0 rfl
  obtain ⟨y1, n1, e1⟩ := trod_field Try.underlying68 h 1 rfl
  obtain ⟨y2, n2, e2⟩ := trod_field Try.underlying68 h 2 rfl
  obtain ⟨y3, n3, e3⟩ := trod_field Try.underlying68 h 3 rfl
  obtain ⟨y4, n4, e4⟩ := trod_field Try.underlying68 h 4 rfl
  obtain ⟨y5, n5, e5⟩ := trod_field Try.underlying68 h 5 rfl
  obtain ⟨_, _, f0⟩ := trod_field Try.underlying61 e0 0 rfl
  obtain ⟨_, _, f1⟩ := trod_field Try.underlying61 e0 1 rfl
  obtain ⟨_, _, f2⟩ := trod_field Try.underlying61 e0 2 rfl
  obtain ⟨_, _, r0⟩ := trod_field Try.underlying64 e3 0 rfl
  obtain ⟨_, _, r1⟩ := trod_field Try.underlying64 e3 1 rfl
  obtain ⟨_, _, r2⟩ := trod_field Try.underlying64 e3 2 rfl
  obtain ⟨_, _, r3⟩ := trod_field Try.underlying64 e3 3 rfl
  obtain ⟨_, _, r4⟩ := trod_field Try.underlying64 e3 4 rfl
  obtain ⟨_, _, s0⟩ := trod_field Try.underlying65 e4 0 rfl
  obtain ⟨_, _, s1⟩ := trod_field Try.underlying65 e4 1 rfl
  obtain ⟨_, _, s2⟩ := trod_field Try.underlying65 e4 2 rfl
  obtain ⟨_, _, s3⟩ := trod_field Try.underlying65 e4 3 rfl
  obtain ⟨_, _, m0⟩ := trod_field Try.underlying66 e5 0 rfl
  obtain ⟨_, _, m1⟩ := trod_field Try.underlying66 e5 1 rfl
  obtain ⟨_, _, m2⟩ := trod_field Try.underlying66 e5 2 rfl
  obtain ⟨_, _, m3⟩ := trod_field Try.underlying66 e5 3 rfl
  obtain ⟨z0, rfl⟩ := leaf_int (c := c0) Try.underlying3 f0 (by simp [cF, cR, cS, cM, cI, cB])
  obtain ⟨z1, rfl⟩ := leaf_int (c := c1) Try.underlying3 f1 (by simp [cF, cR, cS, cM, cI, cB])
  obtain ⟨z2, rfl⟩ := leaf_int (c := c2) Try.underlying3 f2 (by simp [cF, cR, cS, cM, cI, cB])
  obtain ⟨z3, rfl⟩ := leaf_int (c := c3) Try.underlying3 e1 (by simp [cF, cR, cS, cM, cI, cB])
  obtain ⟨z4, rfl⟩ := leaf_int (c := c4) Try.underlying3 e2 (by simp [cF, cR, cS, cM, cI, cB])
  obtain ⟨z5, rfl⟩ := leaf_int (c := c5) Try.underlying3 r0 (by simp [cF, cR, cS, cM, cI, cB])
  obtain ⟨z6, rfl⟩ := leaf_int (c := c6) Try.underlying3 r1 (by simp [cF, cR, cS, cM, cI, cB])
  obtain ⟨z8, rfl⟩ := leaf_bool (c := c8) Try.underlying4 r3 (by simp [cF, cR, cS, cM, cI, cB])
  obtain ⟨z9, rfl⟩ := leaf_int (c := c9) Try.underlying3 r4 (by simp [cF, cR, cS, cM, cI, cB])
  obtain ⟨z10, rfl⟩ := leaf_int (c := c10) Try.underlying3 s0 (by simp [cF, cR, cS, cM, cI, cB])
  obtain ⟨z12, rfl⟩ := leaf_int (c := c12) Try.underlying3 s2 (by simp [cF, cR, cS, cM, cI, cB])
  obtain ⟨z13, rfl⟩ := leaf_int (c := c13) Try.underlying3 s3 (by simp [cF, cR, cS, cM, cI, cB])
  obtain ⟨z14, rfl⟩ := leaf_bool (c := c14) Try.underlying4 m0 (by simp [cF, cR, cS, cM, cI, cB])
  obtain ⟨z15, rfl⟩ := leaf_bool (c := c15) Try.underlying4 m1 (by simp [cF, cR, cS, cM, cI, cB])
  obtain ⟨z16, rfl⟩ := leaf_bool (c := c16) Try.underlying4 m2 (by simp [cF, cR, cS, cM, cI, cB])
  obtain ⟨z17, rfl⟩ := leaf_bool (c := c17) Try.underlying4 m3 (by simp [cF, cR, cS, cM, cI, cB])
  simp [cR, cG] at r2
  simp [cS, cL] at s1
  refine ⟨z0, z1, z2, z3, z4, z5, z6, z8, z9, z10, z12, z13, z14, z15, z16, z17, rfl, rfl, rfl, rfl, rfl, rfl, rfl, rfl, rfl, rfl, rfl, rfl, rfl, rfl, rfl, rfl, ?_, ?_⟩
  · exact gots_arg Try.underlying62 Try.underlying157 Try.underlying3 Try.underlying3 (by kernel_rfl) (by kernel_rfl) (v := c7) r2 (fun _ => rfl)
  · exact ints_arg (v := c11) (open_ints Try.underlying30 Try.underlying3 (by kernel_rfl) s1) (fun _ => rfl)

end Go.Proofs.Ytacjfkodndkaeaa
