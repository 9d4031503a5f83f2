/-
  The walk of the law FnExactFifoTake.
-/
import Derived.Test.YtednhgiabpgleaaWithin
import Derived.Test.YtednhgiabpgleaaLawFifo
namespace Go.Proofs.Ytednhgiabpgleaa
open Go.RowKit

set_option maxRecDepth 10000 in
set_option maxHeartbeats 3200000 in
theorem FnExactFifoTake_any (room : Int) (v : Value) (l : List Int) (w : World) (hv : ReadI w v l) (hl : l.length ≤ 9223372036854775807) :
    Calls Try.prog 5 #[.agg #[.int .i64 room, v]] w fun e w' => e = .returned (.bool true) ∧ Below w.heap.size w w' := by
  have HV := hid hv
  obtain ⟨a, cap, rfl, -⟩ := hv
  go_enter Try.func5, Try.ntmps5
  go_wp2_with fail
  refine (szFifo_any room a l.length cap 1048576 _ (by omega) (by omega) hl).mono ?_
  rintro e w1 ⟨rfl, hb⟩
  obtain ⟨k1, hz1, hB⟩ := entry1 hb
  replace hB := hid hB
  replace k1 := hid k1
  clear hb
  obtain ⟨c1, f1⟩ := blk k1.out; have z1 := (Array.getElem?_eq_some_iff.1 k1.out).1
  by_cases hbig : (1048576 : Int) < l.length
  · rw [if_pos hbig]
    go_wp2_with fail
    go_ret
    exact ⟨rfl, hB.out⟩
  · rw [if_neg hbig]
    have hl20 : l.length ≤ 1048576 := by omega
    clear hl
    have hleft : ¬ (1048576 - (l.length : Int) < 0) := by omega
    go_wp2_with fail
    refine (toFifo_any room _ l _ (HV.out.below hB.out) (by omega)).mono ?_
    rintro e w2 ⟨a2, c2, rfl, hown, hb2⟩
    have HX := hid hown.ints
    clear hown
    replace k1 := hid (look_below hb2 (by omega) k1.out); replace hB := hid (below_of hB.out hb2); have shb2 := hb2.size; clear hb2; clear c1 f1 z1; obtain ⟨c1, f1⟩ := blk k1.out; have z1 := (Array.getElem?_eq_some_iff.1 k1.out).1
    go_wp2_with fail
    refine (sFifoTake_any room _ l _ HX.out (by omega)).mono ?_
    rintro e w3 ⟨r, m, x, ok, a3, c3, hM, rfl, hb3, hown⟩
    have HW := hid hown.inR
    have hm := takeM_len _ _ hM
    replace hM := hid hM
    clear hown HX
    replace k1 := hid (look_below hb3 (by omega) k1.out); replace hB := hid (below_of hB.out hb3); have shb3 := hb3.size; clear hb3; clear c1 f1 z1; obtain ⟨c1, f1⟩ := blk k1.out; have z1 := (Array.getElem?_eq_some_iff.1 k1.out).1
    go_wp2_with fail
    refine (toFifo_any room _ l _ ((HV.out.below hB.out).below (below_alloc _ _)) (by omega)).mono ?_
    rintro e w4 ⟨a4, c4, rfl, hown, hb⟩
    obtain ⟨kW, hz4, hb4⟩ := entry1 hb
    have HX := hid (hown.inR.lo (lo' := w3.heap.size + 1) (by simp))
    clear hb hown
    replace HW := hid (HW.out.below hb4); replace k1 := hid (look_below hb4 (by omega) k1.out); replace hB := hid (below_of hB.out hb4); have shb4 := hb4.size; clear hb4; clear c1 f1 z1; replace kW := hid kW; obtain ⟨c1, f1⟩ := blk k1.out; have z1 := (Array.getElem?_eq_some_iff.1 k1.out).1; obtain ⟨cW, fW⟩ := blk kW.out; have zW := (Array.getElem?_eq_some_iff.1 kW.out).1
    go_wp2_with fail
    refine (FifoTake_any room _ l _ (HX.out.ints.below (below_alloc _ _)) (by omega)).mono ?_
    rintro e w5 ⟨r', m', x', ok', a5, c5, hM', rfl, hb, hown⟩
    rw [hM.out] at hM'
    simp only [Prod.mk.injEq] at hM'
    obtain ⟨rfl, rfl, rfl, rfl⟩ := hM'
    obtain ⟨kX, hz5, hb5⟩ := entry1 hb
    have HG := hid (hown.inR.lo (lo' := w4.heap.size + 1) (by simp))
    clear hb hown
    replace HW := hid (HW.out.below hb5); replace HX := hid (HX.out.below hb5); replace k1 := hid (look_below hb5 (by omega) k1.out); replace kW := hid (look_below hb5 (by omega) kW.out); replace hB := hid (below_of hB.out hb5); have shb5 := hb5.size; clear hb5; clear c1 f1 z1; clear cW fW zW; replace kX := hid kX; obtain ⟨c1, f1⟩ := blk k1.out; have z1 := (Array.getElem?_eq_some_iff.1 k1.out).1; obtain ⟨cW, fW⟩ := blk kW.out; have zW := (Array.getElem?_eq_some_iff.1 kW.out).1; obtain ⟨cX, fX⟩ := blk kX.out; have zX := (Array.getElem?_eq_some_iff.1 kX.out).1
    go_wp2_with fail
    refine (eqFifo_any r r _ _ m m _ (HG.out.ints.below (below_alloc _ _)) (HW.out.ints.below (below_alloc _ _)) (by omega)).mono ?_
    rintro e w6 ⟨rfl, hb⟩
    obtain ⟨kG, hz6, hb6⟩ := entry1 hb
    clear hb
    replace HW := hid (HW.out.below hb6); replace HX := hid (HX.out.below hb6); replace HG := hid (HG.out.below hb6); replace k1 := hid (look_below hb6 (by omega) k1.out); replace kW := hid (look_below hb6 (by omega) kW.out); replace kX := hid (look_below hb6 (by omega) kX.out); replace hB := hid (below_of hB.out hb6); have shb6 := hb6.size; clear hb6; clear c1 f1 z1; clear cW fW zW; clear cX fX zX; replace kG := hid kG; obtain ⟨c1, f1⟩ := blk k1.out; have z1 := (Array.getElem?_eq_some_iff.1 k1.out).1; obtain ⟨cW, fW⟩ := blk kW.out; have zW := (Array.getElem?_eq_some_iff.1 kW.out).1; obtain ⟨cX, fX⟩ := blk kX.out; have zX := (Array.getElem?_eq_some_iff.1 kX.out).1; obtain ⟨cG, fG⟩ := blk kG.out; have zG := (Array.getElem?_eq_some_iff.1 kG.out).1
    simp only [decide_true, Bool.and_self]
    go_wp2_with fail
    refine wp_region_E (fun _ => True) (.op 0 0 (.op 1 0 (.op 2 1 (.op 3 1 (.op 4 0 (.nil)))))) (by kernel_rfl) rfl (by kernel_rfl) (by kernel_rfl) (by kernel_rfl) (fun _ _ d _ _ h => by cases d <;> exact h) ?_
    go_wp2_with (first
    | (refine wpE_soft (by rfl) (by rfl) (by rfl) (by rfl) ?_; intro K hK)
    | (refine wpE_field (by rfl) (by rfl) (by rfl) (by kernel_rfl) ?_; intro K hK)
    | (refine wpE_conv (k := .i64) (by rfl) (by rfl) (by rfl) (by rfl) (by kernel_rfl) ?_; intro K hK)
    | (refine wpE_load (by rfl) (by rfl) (by rfl) (by rfl) (by first | trivial | (simp; done) | (simp; omega) | omega) (by first | (simp [*]; done) | go_simp) ?_; intro K hK)
    | (refine wpE_late (by rfl) (by rfl) ?_; intro K hK)
    | (refine wpE_skip (by rfl) (by rfl) ?_)
    | (refine wpE_nil ?_))
    refine wpE_eff (by rfl) (by rfl) ?_; intro K hK
    go_wp2_with fail
    refine (toFifo_any room _ l w6.drew (HV.out.below hB.out.drew) (by omega)).mono ?_
    rintro e w7 ⟨a7, c7, rfl, hown, hbd⟩
    have HN := hid hown.ints
    have hb7 := below_undrew hbd
    go_wp2_with fail
    refine ⟨Ex.below hbd, ?_⟩
    clear hbd hown
    replace HW := hid (HW.out.below hb7); replace HX := hid (HX.out.below hb7); replace HG := hid (HG.out.below hb7); replace k1 := hid (look_below hb7 (by omega) k1.out); replace kW := hid (look_below hb7 (by omega) kW.out); replace kX := hid (look_below hb7 (by omega) kX.out); replace kG := hid (look_below hb7 (by omega) kG.out); replace hB := hid (below_of hB.out hb7); have shb7 := hb7.size; clear hb7; clear c1 f1 z1; clear cW fW zW; clear cX fX zX; clear cG fG zG; obtain ⟨c1, f1⟩ := blk k1.out; have z1 := (Array.getElem?_eq_some_iff.1 k1.out).1; obtain ⟨cW, fW⟩ := blk kW.out; have zW := (Array.getElem?_eq_some_iff.1 kW.out).1; obtain ⟨cX, fX⟩ := blk kX.out; have zX := (Array.getElem?_eq_some_iff.1 kX.out).1; obtain ⟨cG, fG⟩ := blk kG.out; have zG := (Array.getElem?_eq_some_iff.1 kG.out).1
    refine wpE_eff (by rfl) (by rfl) ?_; intro K hK
    go_wp2_with fail
    refine (eqFifo_any room room _ _ l l _ HX.out.ints HN.out (by omega)).mono ?_
    rintro e w8 ⟨rfl, hb8⟩
    go_wp2_with fail
    refine ⟨Ex.below hb8, ?_⟩
    clear HN
    replace HW := hid (HW.out.below hb8); replace HX := hid (HX.out.below hb8); replace HG := hid (HG.out.below hb8); replace k1 := hid (look_below hb8 (by omega) k1.out); replace kW := hid (look_below hb8 (by omega) kW.out); replace kX := hid (look_below hb8 (by omega) kX.out); replace kG := hid (look_below hb8 (by omega) kG.out); replace hB := hid (below_of hB.out hb8); have shb8 := hb8.size; clear hb8; clear c1 f1 z1; clear cW fW zW; clear cX fX zX; clear cG fG zG; obtain ⟨c1, f1⟩ := blk k1.out; have z1 := (Array.getElem?_eq_some_iff.1 k1.out).1; obtain ⟨cW, fW⟩ := blk kW.out; have zW := (Array.getElem?_eq_some_iff.1 kW.out).1; obtain ⟨cX, fX⟩ := blk kX.out; have zX := (Array.getElem?_eq_some_iff.1 kX.out).1; obtain ⟨cG, fG⟩ := blk kG.out; have zG := (Array.getElem?_eq_some_iff.1 kG.out).1
    go_wp2_with (first
    | (refine wpE_soft (by rfl) (by rfl) (by rfl) (by rfl) ?_; intro K hK)
    | (refine wpE_field (by rfl) (by rfl) (by rfl) (by kernel_rfl) ?_; intro K hK)
    | (refine wpE_conv (k := .i64) (by rfl) (by rfl) (by rfl) (by rfl) (by kernel_rfl) ?_; intro K hK)
    | (refine wpE_load (by rfl) (by rfl) (by rfl) (by rfl) (by first | trivial | (simp; done) | (simp; omega) | omega) (by first | (simp [*]; done) | go_simp) ?_; intro K hK)
    | (refine wpE_late (by rfl) (by rfl) ?_; intro K hK)
    | (refine wpE_skip (by rfl) (by rfl) ?_)
    | (refine wpE_nil ?_))
    refine (markFifo_in room _ l 1 _ _ _ HX.out (by omega) (by omega) (by omega)).mono ?_
    rintro e w9 ⟨rfl, -, hg9⟩
    clear HX
    replace HW := hid (HW.out.within hg9 (by omega)); replace HG := hid (HG.out.within hg9 (by omega)); replace k1 := hid (look_within hg9 (by omega) k1.out); replace kW := hid (look_within hg9 (by omega) kW.out); replace kX := hid (look_within hg9 (by omega) kX.out); replace kG := hid (look_within hg9 (by omega) kG.out); replace hB := hid (hg9.belowOf hB.out (by omega) (by omega)); have shg9 := hg9.size; clear hg9; clear c1 f1 z1; clear cW fW zW; clear cX fX zX; clear cG fG zG; obtain ⟨c1, f1⟩ := blk k1.out; have z1 := (Array.getElem?_eq_some_iff.1 k1.out).1; obtain ⟨cW, fW⟩ := blk kW.out; have zW := (Array.getElem?_eq_some_iff.1 kW.out).1; obtain ⟨cX, fX⟩ := blk kX.out; have zX := (Array.getElem?_eq_some_iff.1 kX.out).1; obtain ⟨cG, fG⟩ := blk kG.out; have zG := (Array.getElem?_eq_some_iff.1 kG.out).1
    go_wp2_with fail
    refine (eqFifo_any r r _ _ m m _ HG.out.ints HW.out.ints (by omega)).mono ?_
    rintro e w10 ⟨rfl, hb10⟩
    replace HW := hid (HW.out.below hb10); replace HG := hid (HG.out.below hb10); replace k1 := hid (look_below hb10 (by omega) k1.out); replace kW := hid (look_below hb10 (by omega) kW.out); replace kX := hid (look_below hb10 (by omega) kX.out); replace kG := hid (look_below hb10 (by omega) kG.out); replace hB := hid (below_of hB.out hb10); have shb10 := hb10.size; clear hb10; clear c1 f1 z1; clear cW fW zW; clear cX fX zX; clear cG fG zG; obtain ⟨c1, f1⟩ := blk k1.out; have z1 := (Array.getElem?_eq_some_iff.1 k1.out).1; obtain ⟨cW, fW⟩ := blk kW.out; have zW := (Array.getElem?_eq_some_iff.1 kW.out).1; obtain ⟨cX, fX⟩ := blk kX.out; have zX := (Array.getElem?_eq_some_iff.1 kX.out).1; obtain ⟨cG, fG⟩ := blk kG.out; have zG := (Array.getElem?_eq_some_iff.1 kG.out).1
    simp only [decide_true, Bool.and_self]
    go_wp2_with fail
    refine (markFifo_in r _ m 1 _ _ _ HG.out (by omega) (by omega) (by omega)).mono ?_
    rintro e w11 ⟨rfl, HG', hg11⟩
    clear HG
    replace HW := hid (HW.out.within hg11 (by omega)); replace k1 := hid (look_within hg11 (by omega) k1.out); replace kW := hid (look_within hg11 (by omega) kW.out); replace kX := hid (look_within hg11 (by omega) kX.out); replace kG := hid (look_within hg11 (by omega) kG.out); replace hB := hid (hg11.belowOf hB.out (by omega) (by omega)); have shg11 := hg11.size; clear hg11; clear c1 f1 z1; clear cW fW zW; clear cX fX zX; clear cG fG zG; obtain ⟨c1, f1⟩ := blk k1.out; have z1 := (Array.getElem?_eq_some_iff.1 k1.out).1; obtain ⟨cW, fW⟩ := blk kW.out; have zW := (Array.getElem?_eq_some_iff.1 kW.out).1; obtain ⟨cX, fX⟩ := blk kX.out; have zX := (Array.getElem?_eq_some_iff.1 kX.out).1; obtain ⟨cG, fG⟩ := blk kG.out; have zG := (Array.getElem?_eq_some_iff.1 kG.out).1
    have HG := hid HG'
    clear HG'
    go_wp2_with fail
    refine (heldFifo_any r _ m.length 1 _ HG.out.ints (by omega) (by omega) (by omega)).mono ?_
    rintro e w12 ⟨rfl, hb12⟩
    replace HW := hid (HW.out.below hb12); replace HG := hid (HG.out.below hb12); replace k1 := hid (look_below hb12 (by omega) k1.out); replace kW := hid (look_below hb12 (by omega) kW.out); replace kX := hid (look_below hb12 (by omega) kX.out); replace kG := hid (look_below hb12 (by omega) kG.out); replace hB := hid (below_of hB.out hb12); have shb12 := hb12.size; clear hb12; clear c1 f1 z1; clear cW fW zW; clear cX fX zX; clear cG fG zG; obtain ⟨c1, f1⟩ := blk k1.out; have z1 := (Array.getElem?_eq_some_iff.1 k1.out).1; obtain ⟨cW, fW⟩ := blk kW.out; have zW := (Array.getElem?_eq_some_iff.1 kW.out).1; obtain ⟨cX, fX⟩ := blk kX.out; have zX := (Array.getElem?_eq_some_iff.1 kX.out).1; obtain ⟨cG, fG⟩ := blk kG.out; have zG := (Array.getElem?_eq_some_iff.1 kG.out).1
    go_wp2_with fail
    refine (toFifo_any room _ l _ (HV.out.below hB.out) (by omega)).mono ?_
    rintro e w13 ⟨a13, c13, rfl, hown, hb13⟩
    have HX := hid hown.ints
    clear hown
    replace HW := hid (HW.out.below hb13); replace HG := hid (HG.out.below hb13); replace k1 := hid (look_below hb13 (by omega) k1.out); replace kW := hid (look_below hb13 (by omega) kW.out); replace kX := hid (look_below hb13 (by omega) kX.out); replace kG := hid (look_below hb13 (by omega) kG.out); replace hB := hid (below_of hB.out hb13); have shb13 := hb13.size; clear hb13; clear c1 f1 z1; clear cW fW zW; clear cX fX zX; clear cG fG zG; obtain ⟨c1, f1⟩ := blk k1.out; have z1 := (Array.getElem?_eq_some_iff.1 k1.out).1; obtain ⟨cW, fW⟩ := blk kW.out; have zW := (Array.getElem?_eq_some_iff.1 kW.out).1; obtain ⟨cX, fX⟩ := blk kX.out; have zX := (Array.getElem?_eq_some_iff.1 kX.out).1; obtain ⟨cG, fG⟩ := blk kG.out; have zG := (Array.getElem?_eq_some_iff.1 kG.out).1
    go_wp2_with fail
    refine (FifoTake_any room _ l _ HX.out (by omega)).mono ?_
    rintro e w14 ⟨r', m', x', ok', a14, c14, hM', rfl, hb14, hown⟩
    rw [hM.out] at hM'
    simp only [Prod.mk.injEq] at hM'
    obtain ⟨rfl, rfl, rfl, rfl⟩ := hM'
    have HH := hid hown.ints
    clear hown HX
    replace HW := hid (HW.out.below hb14); replace HG := hid (HG.out.below hb14); replace k1 := hid (look_below hb14 (by omega) k1.out); replace kW := hid (look_below hb14 (by omega) kW.out); replace kX := hid (look_below hb14 (by omega) kX.out); replace kG := hid (look_below hb14 (by omega) kG.out); replace hB := hid (below_of hB.out hb14); have shb14 := hb14.size; clear hb14; clear c1 f1 z1; clear cW fW zW; clear cX fX zX; clear cG fG zG; obtain ⟨c1, f1⟩ := blk k1.out; have z1 := (Array.getElem?_eq_some_iff.1 k1.out).1; obtain ⟨cW, fW⟩ := blk kW.out; have zW := (Array.getElem?_eq_some_iff.1 kW.out).1; obtain ⟨cX, fX⟩ := blk kX.out; have zX := (Array.getElem?_eq_some_iff.1 kX.out).1; obtain ⟨cG, fG⟩ := blk kG.out; have zG := (Array.getElem?_eq_some_iff.1 kG.out).1
    go_wp2_with fail
    refine (eqFifo_any r r _ _ m m _ (HH.out.below (below_alloc _ _)) (HW.out.ints.below (below_alloc _ _)) (by omega)).mono ?_
    rintro e w15 ⟨rfl, hb⟩
    obtain ⟨-, hz15, hb15⟩ := entry1 hb
    clear hb HH
    replace HW := hid (HW.out.below hb15); replace HG := hid (HG.out.below hb15); replace k1 := hid (look_below hb15 (by omega) k1.out); replace kW := hid (look_below hb15 (by omega) kW.out); replace kX := hid (look_below hb15 (by omega) kX.out); replace kG := hid (look_below hb15 (by omega) kG.out); replace hB := hid (below_of hB.out hb15); have shb15 := hb15.size; clear hb15; clear c1 f1 z1; clear cW fW zW; clear cX fX zX; clear cG fG zG; obtain ⟨c1, f1⟩ := blk k1.out; have z1 := (Array.getElem?_eq_some_iff.1 k1.out).1; obtain ⟨cW, fW⟩ := blk kW.out; have zW := (Array.getElem?_eq_some_iff.1 kW.out).1; obtain ⟨cX, fX⟩ := blk kX.out; have zX := (Array.getElem?_eq_some_iff.1 kX.out).1; obtain ⟨cG, fG⟩ := blk kG.out; have zG := (Array.getElem?_eq_some_iff.1 kG.out).1
    simp only [decide_true, Bool.and_self]
    go_wp2_with fail
    refine (heldFifo_any r _ m.length 1 _ HG.out.ints (by omega) (by omega) (by omega)).mono ?_
    rintro e w16 ⟨rfl, hb16⟩
    replace k1 := hid (look_below hb16 (by omega) k1.out); replace hB := hid (below_of hB.out hb16); have shb16 := hb16.size; clear hb16; clear c1 f1 z1; obtain ⟨c1, f1⟩ := blk k1.out; have z1 := (Array.getElem?_eq_some_iff.1 k1.out).1
    go_wp2_with fail
    go_ret
    exact ⟨rfl, hB.out⟩

end Go.Proofs.Ytednhgiabpgleaa
