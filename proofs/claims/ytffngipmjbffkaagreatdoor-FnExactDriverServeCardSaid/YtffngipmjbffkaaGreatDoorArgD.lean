/-
  Drivers and links that came in with a law's argument. Plain lemmas; the conditions are the types' rows.
-/
import Derived.Test.YtffngipmjbffkaaGreatDoorArgP
namespace Go.Proofs.YtffngipmjbffkaaGreatDoor
open Go.ChangeShapes Go.WideShapes Go.RowKit Go.Deep Go.Joins
open Ab
set_option linter.unusedSimpArgs false
set_option linter.unusedVariables false
set_option linter.unusedSimpArgs false
set_option linter.unusedVariables false

theorem array22 {α : Type} {cs : Array α} (h : cs.size = 22) : ∃ x0 x1 x2 x3 x4 x5 x6 x7 x8 x9 x10 x11 x12 x13 x14 x15 x16 x17 x18 x19 x20 x21, cs = #[x0, x1, x2, x3, x4, x5, x6, x7, x8, x9, x10, x11, x12, x13, x14, x15, x16, x17, x18, x19, x20, x21] := by
  obtain ⟨l⟩ := cs
  match l, h with
  | [x0, x1, x2, x3, x4, x5, x6, x7, x8, x9, x10, x11, x12, x13, x14, x15, x16, x17, x18, x19, x20, x21], _ => exact ⟨x0, x1, x2, x3, x4, x5, x6, x7, x8, x9, x10, x11, x12, x13, x14, x15, x16, x17, x18, x19, x20, x21, rfl⟩
theorem cPo : Tryz.prog.cellsOf 54 = 18 := by kernel_rfl
/-- The cells of a driver. -/
theorem open_driver {H : Type} {enc : TypeId × Value → H} {w : World} {base : Nat} {held : Bool} {fuel : Nat} {x : DataW H × List MemPlace} {x0 x1 x2 x3 x4 x5 x6 x7 x8 x9 x10 x11 x12 x13 x14 x15 x16 x17 x18 x19 x20 x21 : Value} (h : DataW.trod enc Tryz.prog w base (fun _ => true) held fuel 56 [x0, x1, x2, x3, x4, x5, x6, x7, x8, x9, x10, x11, x12, x13, x14, x15, x16, x17, x18, x19, x20, x21] = some x) :
    ((∃ (fb : Int) (fq : Int) (fst : Int) (pe : Int) (pc : Int) (rr : Int) (rt : Int) (ro : Bool) (ra : Int) (sr : Int) (ss : Int) (sf : Int) (mc : Bool) (mh : Bool) (mcc : Bool) (mhc : Bool), x0 = .int .i64 fb ∧ x1 = .int .i64 fq ∧ x2 = .int .i64 fst ∧ x3 = .int .i64 pe ∧ x4 = .int .i64 pc ∧ x5 = .int .i64 rr ∧ x6 = .int .i64 rt ∧ x8 = .bool ro ∧ x9 = .int .i64 ra ∧ x10 = .int .i64 sr ∧ x12 = .int .i64 ss ∧ x13 = .int .i64 sf ∧ x14 = .bool mc ∧ x15 = .bool mh ∧ x16 = .bool mcc ∧ x17 = .bool mhc ∧ (∃ a n c, x7 = .slice a n c ∧ n ≤ 9223372036854775807 ∧ (n ≤ 1048576 → ∃ l : List (Int × Int), rdE w (.gots l) x7)) ∧ (∃ a n c, x11 = .slice a n c ∧ n ≤ 9223372036854775807 ∧ (n ≤ 1048576 → ∃ l : List Int, rdE w (.ints l) x11))) ∧ ∃ (cw cl : Int), x20 = .int .i64 cw ∧ x21 = .int .i64 cl ∧ (∃ a n c, x18 = .slice a n c ∧ n ≤ 9223372036854775807 ∧ (n ≤ 1048576 → ∃ l : List Int, rdE w (.ints l) x18)) ∧ (∃ a n c, x19 = .slice a n c ∧ n ≤ 9223372036854775807 ∧ (n ≤ 1048576 → ∃ l : List Int, rdE w (.ints l) x19))) := by
  obtain ⟨_, _, e0⟩ := trod_field Tryz.underlying56 h 0 rfl
  obtain ⟨_, _, e1⟩ := trod_field Tryz.underlying56 h 1 rfl
  obtain ⟨_, _, e2⟩ := trod_field Tryz.underlying56 h 2 rfl
  obtain ⟨_, _, e3⟩ := trod_field Tryz.underlying56 h 3 rfl
  obtain ⟨_, _, e4⟩ := trod_field Tryz.underlying56 h 4 rfl
  obtain ⟨z0, rfl⟩ := leaf_int (c := x20) Tryz.underlying3 e3 (by simp [cI])
  obtain ⟨z1, rfl⟩ := leaf_int (c := x21) Tryz.underlying3 e4 (by simp [cI])
  simp [cL] at e1 e2
  refine ⟨open_port (by simpa [cPo] using e0), z0, z1, rfl, rfl, ?_, ?_⟩
  · exact ints_arg (v := x18) (open_ints Tryz.underlying28 Tryz.underlying3 (by kernel_rfl) e1) (fun _ => rfl)
  · exact ints_arg (v := x19) (open_ints Tryz.underlying28 Tryz.underlying3 (by kernel_rfl) e2) (fun _ => rfl)


end Go.Proofs.YtffngipmjbffkaaGreatDoor
