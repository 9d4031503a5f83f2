/-
  FormatOf of the program, by hand; the condition is that the one package variable holds its sentinel.
-/
import Derived.Test.YtkhggobpanfkfaaDoorF1
import Derived.RegionTactic
import Derived.Stop.LaidErr
namespace Go.Proofs.YtkhggobpanfkfaaDoor
open Go.RowKit Go.Stop

structure Fm where
  bits : Int
  par : Int
  stop : Int
def fofV (b : Int) : Fm := ⟨5 + b % 4, if b / 8 = 1 then 1 else if b / 8 = 3 then 2 else 0, 1 + b / 4 % 2⟩

set_option maxRecDepth 100000 in
set_option maxHeartbeats 2000000 in
theorem formatFrom_out (b : Int) (a : Addr) (w : World) (hw : w.cell? ⟨0, 0, none⟩ = some (.iface 187 (.pointer (some a)))) (hb : b < 0 ∨ 31 < b) :
    Calls Tryd.prog 63 #[.int .i64 b] w fun e w' => e = .returned (.tuple #[.agg #[.int .i64 0, .int .i64 0, .int .i64 0], .iface 187 (.pointer (some a))]) ∧ Below w.heap.size w w' := by
  have hw2 : ∀ o, (w.alloc o).cell? ⟨0, 0, none⟩ = some (.iface 187 (.pointer (some a))) := fun o => cell?_alloc_old o hw
  go_enter Tryd.func63, Tryd.ntmps63
  go_wp2
  all_goals
    go_region
    go_wp2
    exact bodyPost_ret (v := .tuple #[.agg #[.int .i64 0, .int .i64 0, .int .i64 0], .iface 187 (.pointer (some a))]) (by simp [results, Tryd.results63, go_sem]) rfl ⟨rfl, (by repeat (first | (with_reducible exact Hid.out (by assumption)) | (with_reducible assumption) | (with_reducible exact Below.refl _ _) | (with_reducible refine Below.alloc ?_ (by first | omega | (simp; done) | (simp; omega)) _) | (with_reducible refine Below.setCell ?_ (by first | omega | (simp; done) | (simp; omega)) _) | (with_reducible refine Below.drew ?_) | (with_reducible refine below_drewN ?_ _) | exact Below.refl _ _ | assumption | exact Hid.out (by assumption)))⟩

set_option maxRecDepth 100000 in
set_option maxHeartbeats 2000000 in
theorem formatFrom_in (b : Int) (w : World) (hb : (0 ≤ b ∧ b ≤ 15) ∨ (24 ≤ b ∧ b ≤ 31)) :
    Calls Tryd.prog 63 #[.int .i64 b] w fun e w' => e = .returned (.tuple #[.agg #[.int .i64 (fofV b).bits, .int .i64 (fofV b).par, .int .i64 (fofV b).stop], .nilIface]) ∧ Below w.heap.size w w' := by
  have hc : b = 0 ∨ b = 1 ∨ b = 2 ∨ b = 3 ∨ b = 4 ∨ b = 5 ∨ b = 6 ∨ b = 7 ∨ b = 8 ∨ b = 9 ∨ b = 10 ∨ b = 11 ∨ b = 12 ∨ b = 13 ∨ b = 14 ∨ b = 15 ∨ b = 24 ∨ b = 25 ∨ b = 26 ∨ b = 27 ∨ b = 28 ∨ b = 29 ∨ b = 30 ∨ b = 31 := by omega
  clear hb
  rcases hc with rfl | rfl | rfl | rfl | rfl | rfl | rfl | rfl | rfl | rfl | rfl | rfl | rfl | rfl | rfl | rfl | rfl | rfl | rfl | rfl | rfl | rfl | rfl | rfl
  all_goals
    go_enter Tryd.func63, Tryd.ntmps63
    go_wp2
    exact bodyPost_ret (v := .tuple #[.agg #[.int .i64 (fofV _).bits, .int .i64 (fofV _).par, .int .i64 (fofV _).stop], .nilIface]) (by simp [results, Tryd.results63, go_sem]; and_intros <;> kernel_rfl) rfl ⟨rfl, (by repeat (first | (with_reducible exact Hid.out (by assumption)) | (with_reducible assumption) | (with_reducible exact Below.refl _ _) | (with_reducible refine Below.alloc ?_ (by first | omega | (simp; done) | (simp; omega)) _) | (with_reducible refine Below.setCell ?_ (by first | omega | (simp; done) | (simp; omega)) _) | (with_reducible refine Below.drew ?_) | (with_reducible refine below_drewN ?_ _) | exact Below.refl _ _ | assumption | exact Hid.out (by assumption)))⟩

set_option maxRecDepth 100000 in
set_option maxHeartbeats 2000000 in
theorem formatFrom_mid (b : Int) (a : Addr) (w : World) (hw : w.cell? ⟨0, 0, none⟩ = some (.iface 187 (.pointer (some a)))) (hb : 16 ≤ b ∧ b ≤ 23) :
    Calls Tryd.prog 63 #[.int .i64 b] w fun e w' => e = .returned (.tuple #[.agg #[.int .i64 0, .int .i64 0, .int .i64 0], .iface 187 (.pointer (some a))]) ∧ Below w.heap.size w w' := by
  have hw2 : ∀ o o2, ((w.alloc o).alloc o2).cell? ⟨0, 0, none⟩ = some (.iface 187 (.pointer (some a))) := fun o o2 => cell?_alloc_old o2 (cell?_alloc_old o hw)
  have hc : b = 16 ∨ b = 17 ∨ b = 18 ∨ b = 19 ∨ b = 20 ∨ b = 21 ∨ b = 22 ∨ b = 23 := by omega
  clear hb
  rcases hc with rfl | rfl | rfl | rfl | rfl | rfl | rfl | rfl
  all_goals
    go_enter Tryd.func63, Tryd.ntmps63
    go_wp2
    go_region
    go_wp2
    exact bodyPost_ret (v := .tuple #[.agg #[.int .i64 0, .int .i64 0, .int .i64 0], .iface 187 (.pointer (some a))]) (by simp [results, Tryd.results63, go_sem]) rfl ⟨rfl, (by repeat (first | (with_reducible exact Hid.out (by assumption)) | (with_reducible assumption) | (with_reducible exact Below.refl _ _) | (with_reducible refine Below.alloc ?_ (by first | omega | (simp; done) | (simp; omega)) _) | (with_reducible refine Below.setCell ?_ (by first | omega | (simp; done) | (simp; omega)) _) | (with_reducible refine Below.drew ?_) | (with_reducible refine below_drewN ?_ _) | exact Below.refl _ _ | assumption | exact Hid.out (by assumption)))⟩

end Go.Proofs.YtkhggobpanfkfaaDoor
