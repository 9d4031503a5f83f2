/-
  A receiver's copy (by hand, over the linked list).
-/
import Derived.Test.YtkhggobpanfkfaaDoorRecvM
import Derived.Test.YtkhggobpanfkfaaDoorM4
namespace Go.Proofs.YtkhggobpanfkfaaDoor
open Go.RowKit
open Ab
set_option linter.unusedSimpArgs false
set_option linter.unusedVariables false

set_option maxHeartbeats 1000000 in
theorem recvCopy_any (r t : Int) (v : Value) (l : List (Int × Int)) (o : Bool) (a : Int) (w : World) (hv : Sl w 2 v l.length (EL.gots l).enc) (hl : l.length ≤ 1099511627776) :
    Calls Tryd.prog 58 #[.agg #[.int .i64 r, .int .i64 t, v, .bool o, .int .i64 a]] w fun e w' => ∃ a' c, e = .returned (.agg #[.int .i64 r, .int .i64 t, .slice a' l.length c, .bool o, .int .i64 a]) ∧ Below w.heap.size w w' ∧ OwnG w' w.heap.size (.slice a' l.length c) l := by
  obtain ⟨a0, cap, rfl, -⟩ := hv.form
  have HV := hid hv
  clear hv
  go_enter Tryd.func58, Tryd.ntmps58
  go_wp2_with fail
  refine (gotListOf_any _ l _ (HV.out.below (below_alloc2 _ _ _)) hl).mono ?_
  rintro e w1 ⟨rr, rfl, hgl, hb1⟩
  have HR := hid hgl
  obtain ⟨k0, k1, hz1, hB⟩ := entry2 hb1
  have hrr := GL.lt hgl
  clear hgl
  replace k0 := hid k0
  replace k1 := hid k1
  replace hB := hid hB
  clear hb1
  go_wp2_with fail
  refine (gitems_any rr _ l _ HR.out hl).mono ?_
  rintro e w2 ⟨a5, c5, rfl, hown, hb2⟩
  first | (replace k0 := hid (look_below hb2 (by first | omega | (simp; done) | (simp; omega)) k0.out)) | (replace k0 := hid (look_below hb2 (by first | omega | (simp; done) | (simp; omega)) (look_old k0.out)))
  first | (replace k1 := hid (look_below hb2 (by first | omega | (simp; done) | (simp; omega)) k1.out)) | (replace k1 := hid (look_below hb2 (by first | omega | (simp; done) | (simp; omega)) (look_old k1.out)))
  replace hB := hid (below_of hB.out hb2)
  have hz2 := hb2.size
  have HO := hid hown
  clear hown hb2
  obtain ⟨c0, f0⟩ := blk k0.out; have z0 := (Array.getElem?_eq_some_iff.1 k0.out).1
  go_upto_region 2 with fail
  clear c0 f0
  have q0 : (w2.setCell ⟨w.heap.size, 2, none⟩ (.slice a5 l.length c5)).heap[w.heap.size]? = some (.cells #[.int .i64 r, .int .i64 t, .slice a5 l.length c5, .bool o, .int .i64 a] 38 (0, 0)) := by simpa using look_set (o := 2) (v := Value.slice a5 l.length c5) k0.out
  replace k1 := hid (look_ne (p := ⟨w.heap.size, 2, none⟩) (v := .slice a5 l.length c5) (by simp) k1.out)
  replace HO := hid (HO.out.set (p := ⟨w.heap.size, 2, none⟩) (by simp; omega) (.slice a5 l.length c5))
  replace hB := hid (hB.out.trans (below_set' w2 w.heap.size 2 (.slice a5 l.length c5)))
  have hz6 : (w2.setCell ⟨w.heap.size, 2, none⟩ (.slice a5 l.length c5)).heap.size = w2.heap.size := size_set _ _ _
  clear k0
  generalize w2.setCell ⟨w.heap.size, 2, none⟩ (.slice a5 l.length c5) = w6 at q0 k1 HO hB hz6 ⊢
  have k0 := hid q0
  clear q0
  obtain ⟨c0, f0⟩ := blk k0.out
  obtain ⟨c1, f1⟩ := blk k1.out
  have z0 : w.heap.size < w6.heap.size := by omega
  have z1 : w.heap.size + 1 < w6.heap.size := by omega
  go_wp2
  exact bodyPost_ret (v := .agg #[.int .i64 r, .int .i64 t, .slice a5 l.length c5, .bool o, .int .i64 a]) (by simp [results, Tryd.results58, go_sem, c1]) rfl ⟨_, _, rfl, (by repeat (first | (with_reducible exact Hid.out (by assumption)) | (with_reducible assumption) | (with_reducible exact Below.refl _ _) | (with_reducible refine Below.alloc ?_ (by first | omega | (simp; done) | (simp; omega)) _) | (with_reducible refine Below.setCell ?_ (by first | omega | (simp; done) | (simp; omega)) _) | (with_reducible refine Below.drew ?_) | (with_reducible refine below_drewN ?_ _) | exact Below.refl _ _ | assumption | exact Hid.out (by assumption))), OwnG.base (base := w1.heap.size) (by repeat (first | (with_reducible exact HO.out) | (with_reducible refine OwnG.set ?_ (by simp; omega) _) | (with_reducible refine OwnG.drew ?_))) (by omega)⟩

set_option maxRecDepth 100000 in
set_option maxHeartbeats 2000000 in
theorem con_i_recvCopy : Con Tryd.prog 58 [.inr [.int, .int, .gots, .bool, .int]] (fun ⟨⟨rr, rt, rl, ro, ra, _⟩, _⟩ K => K (.a (Rcv.d ⟨rr, rt, rl, ro, ra⟩))) := by
  rintro ⟨⟨(rr : Int), (rt : Int), (rl : List (Int × Int)), (ro : Bool), (ra : Int), _⟩, _⟩ K hK w vs hr hg
  replace hK : K (.a (Rcv.d ⟨rr, rt, rl, ro, ra⟩)) := hK
  obtain ⟨v, rfl, hv, hl⟩ : ∃ v, vs = #[.agg #[.int .i64 rr, .int .i64 rt, v, .bool ro, .int .i64 ra]] ∧ Sl w 2 v rl.length (EL.gots rl).enc ∧ rl.length ≤ 1099511627776 := by
    cases hvs : vs.toList with
    | nil => rw [hvs] at hr; exact hr.elim
    | cons x rest =>
      rw [hvs] at hr
      match rest, hr with
      | [], ⟨⟨us, ex, hu⟩, _⟩ =>
        subst ex
        obtain ⟨v, e, h1, h2⟩ := rcv_arg hu
        exact ⟨v, Array.toList_inj.1 (by rw [hvs, show us = #[.int .i64 rr, .int .i64 rt, v, .bool ro, .int .i64 ra] from Array.toList_inj.1 e]), h1, h2⟩
  refine (recvCopy_any rr rt v rl ro ra w hv hl).mono ?_
  rintro e w' ⟨a', c, rfl, hb, ho⟩
  exact ⟨_, _, rfl, hK, hb, (Value.slice a' rl.length c).ownBlock.toList, ⟨_, rfl, [], _, rfl, ⟨rfl, rfl, rfl⟩, [], _, rfl, ⟨rfl, rfl, rfl⟩, _, [], (List.append_nil _).symm, ⟨ho, hl, rfl⟩, [], [], rfl, ⟨rfl, rfl, rfl⟩, [], [], rfl, ⟨rfl, rfl, rfl⟩, rfl⟩, by cases (Value.slice a' rl.length c).ownBlock <;> simp⟩
def c_i_recvCopy : CS := csOf [.inr [.int, .int, .gots, .bool, .int]] (fun ⟨⟨rr, rt, rl, ro, ra, _⟩, _⟩ K => K (.a (Rcv.d ⟨rr, rt, rl, ro, ra⟩)))
theorem c_i_recvCopy_ok : CSok Tryd.prog 58 c_i_recvCopy := cs_ok (by kernel_rfl) con_i_recvCopy

end Go.Proofs.YtkhggobpanfkfaaDoor
