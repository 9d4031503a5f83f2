/-
  RecvPut of the program: what it returns (by hand, over the linked list).
-/
import Derived.Test.YtfgpiecpifckdaaRecvM
namespace Go.Proofs.Ytfgpiecpifckdaa
open Go.RowKit
open Ab
set_option linter.unusedSimpArgs false
set_option linter.unusedVariables false

theorem gotValid_any (x y : Int) (w : World) : Calls Try.prog 124 #[.agg #[.int .i64 x, .int .i64 y]] w fun e w' => e = .returned (.bool (gotB (x, y))) ∧ Below w.heap.size w w' := by
  refine (con_i_gotValid ((x, y, ()), ()) (fun d => d = .l (.v (.bool (gotB (x, y))))) rfl w #[.agg #[.int .i64 x, .int .i64 y]] ⟨⟨_, rfl, rfl, rfl, trivial⟩, trivial⟩).mono ?_
  rintro e w' ⟨d, u, rfl, rfl, hb, bs, h1, _⟩
  obtain ⟨rfl, _⟩ := h1
  exact ⟨rfl, hb⟩
theorem GL.look {w : World} {B r : Nat} {l : List (Int × Int)} (h : GL w B r l) : ∃ a b, w.heap[r]? = some (.cells #[a, b, .int .i64 l.length] 172 (0, 0)) := by
  obtain ⟨ns, h1, _⟩ := h
  exact ⟨_, _, h1⟩

theorem GL.drew {w : World} {B r : Nat} {l : List (Int × Int)} (h : GL w B r l) : GL w.drew B r l := h.keep fun _ _ _ => rfl
set_option maxHeartbeats 1000000 in
theorem RecvPut_bad (r t : Int) (v : Value) (l : List (Int × Int)) (o : Bool) (a x y : Int) (w : World) (hv : Sl w 2 v l.length (EL.gots l).enc) (hl : l.length ≤ 1099511627776) (hok : rcvV ⟨r, t, l, o, a⟩ = false) :
    Calls Try.prog 85 #[.agg #[.int .i64 r, .int .i64 t, v, .bool o, .int .i64 a], .agg #[.int .i64 x, .int .i64 y]] w fun e w' => e = .returned (.tuple #[.agg #[.int .i64 0, .int .i64 0, .slice none 0 0, .bool false, .int .i64 0], .bool false]) ∧ Below w.heap.size w w' := by
  have HOK := hid hok
  obtain ⟨a0, cap, rfl, -⟩ := hv.form
  have HV := hid hv
  clear hv hok
  go_enter Try.func85, Try.ntmps85
  go_wp2_with fail
  refine (RecvValid_any _ _ _ _ _ _ _ (HV.out.below (below_alloc3 _ _ _ _)) hl).mono ?_
  rintro e w1 ⟨rfl, hb1⟩
  rw [HOK.out]
  obtain ⟨k0, k1, k2, hz1, hB⟩ := entry3 hb1
  obtain ⟨c2, f2⟩ := blk k2
  replace hB := hid hB
  clear hb1 k0 k1 k2
  go_wp2
  exact bodyPost_ret (v := .tuple #[.agg #[.int .i64 0, .int .i64 0, .slice none 0 0, .bool false, .int .i64 0], .bool false]) (by simp [results, Try.results85, go_sem, c2]) rfl ⟨rfl, (by repeat (first | (with_reducible exact Hid.out (by assumption)) | (with_reducible assumption) | (with_reducible exact Below.refl _ _) | (with_reducible refine Below.alloc ?_ (by first | omega | (simp; done) | (simp; omega)) _) | (with_reducible refine Below.setCell ?_ (by first | omega | (simp; done) | (simp; omega)) _) | (with_reducible refine Below.drew ?_) | (with_reducible refine below_drewN ?_ _) | exact Below.refl _ _ | assumption | exact Hid.out (by assumption)))⟩

set_option maxHeartbeats 1000000 in
theorem RecvPut_bad2 (r t : Int) (v : Value) (l : List (Int × Int)) (o : Bool) (a x y : Int) (w : World) (hv : Sl w 2 v l.length (EL.gots l).enc) (hl : l.length ≤ 1099511627776) (hok : rcvV ⟨r, t, l, o, a⟩ = true) (hg : gotB (x, y) = false) :
    Calls Try.prog 85 #[.agg #[.int .i64 r, .int .i64 t, v, .bool o, .int .i64 a], .agg #[.int .i64 x, .int .i64 y]] w fun e w' => e = .returned (.tuple #[.agg #[.int .i64 0, .int .i64 0, .slice none 0 0, .bool false, .int .i64 0], .bool false]) ∧ Below w.heap.size w w' := by
  have HOK := hid hok
  have HG := hid hg
  obtain ⟨a0, cap, rfl, -⟩ := hv.form
  have HV := hid hv
  clear hv hok hg
  go_enter Try.func85, Try.ntmps85
  go_wp2_with fail
  refine (RecvValid_any _ _ _ _ _ _ _ (HV.out.below (below_alloc3 _ _ _ _)) hl).mono ?_
  rintro e w1 ⟨rfl, hb1⟩
  rw [HOK.out]
  obtain ⟨k0, k1, k2, hz1, hB⟩ := entry3 hb1
  obtain ⟨c1, f1⟩ := blk k1; replace k1 := hid k1
  replace k2 := hid k2
  replace hB := hid hB
  clear hb1 k0
  go_wp2_with fail
  refine (gotValid_any _ _ _).mono ?_
  rintro e w2 ⟨rfl, hb2⟩
  rw [HG.out]
  first | (replace k2 := hid (look_below hb2 (by first | omega | (simp; done) | (simp; omega)) k2.out)) | (replace k2 := hid (look_below hb2 (by first | omega | (simp; done) | (simp; omega)) (look_old k2.out)))
  replace hB := hid (below_of hB.out hb2)
  clear hb2 c1 f1 k1
  obtain ⟨c2, f2⟩ := blk k2.out; have z2 := (Array.getElem?_eq_some_iff.1 k2.out).1
  go_wp2
  exact bodyPost_ret (v := .tuple #[.agg #[.int .i64 0, .int .i64 0, .slice none 0 0, .bool false, .int .i64 0], .bool false]) (by simp [results, Try.results85, go_sem, c2]) rfl ⟨rfl, (by repeat (first | (with_reducible exact Hid.out (by assumption)) | (with_reducible assumption) | (with_reducible exact Below.refl _ _) | (with_reducible refine Below.alloc ?_ (by first | omega | (simp; done) | (simp; omega)) _) | (with_reducible refine Below.setCell ?_ (by first | omega | (simp; done) | (simp; omega)) _) | (with_reducible refine Below.drew ?_) | (with_reducible refine below_drewN ?_ _) | exact Below.refl _ _ | assumption | exact Hid.out (by assumption)))⟩

set_option maxHeartbeats 1000000 in
theorem RecvPut_room (r t : Int) (v : Value) (l : List (Int × Int)) (o : Bool) (a x y : Int) (w : World) (hv : Sl w 2 v l.length (EL.gots l).enc) (hl : l.length ≤ 100000) (hok : rcvV ⟨r, t, l, o, a⟩ = true) (hg : gotB (x, y) = true) (hroom : (l.length : Int) < r) :
    Calls Try.prog 85 #[.agg #[.int .i64 r, .int .i64 t, v, .bool o, .int .i64 a], .agg #[.int .i64 x, .int .i64 y]] w fun e w' => ∃ a' c, e = .returned (.tuple #[.agg #[.int .i64 r, .int .i64 t, .slice a' (l ++ [(x, y)]).length c, .bool o, .int .i64 0], .bool true]) ∧ Below w.heap.size w w' ∧ OwnG w' w.heap.size (.slice a' (l ++ [(x, y)]).length c) (l ++ [(x, y)]) := by
  have HOK := hid hok
  have HG := hid hg
  obtain ⟨a0, cap, rfl, -⟩ := hv.form
  have HV := hid hv
  have hl2 : (l ++ [(x, y)]).length ≤ 1099511627776 := by simp; omega
  clear hv hok hg
  go_enter Try.func85, Try.ntmps85
  go_wp2_with fail
  refine (RecvValid_any _ _ _ _ _ _ _ (HV.out.below (below_alloc3 _ _ _ _)) (by omega)).mono ?_
  rintro e w1 ⟨rfl, hb1⟩
  rw [HOK.out]
  obtain ⟨k0, k1, k2, hz1, hB⟩ := entry3 hb1
  have HI := hid (HV.out.below hB)
  obtain ⟨c1, f1⟩ := blk k1; replace k1 := hid k1
  replace k0 := hid k0
  replace k2 := hid k2
  replace hB := hid hB
  clear hb1
  go_wp2_with fail
  refine (gotValid_any _ _ _).mono ?_
  rintro e w2 ⟨rfl, hb2⟩
  rw [HG.out]
  have HI2 := hid (HI.out.below hb2)
  first | (replace k0 := hid (look_below hb2 (by first | omega | (simp; done) | (simp; omega)) k0.out)) | (replace k0 := hid (look_below hb2 (by first | omega | (simp; done) | (simp; omega)) (look_old k0.out)))
  first | (replace k1 := hid (look_below hb2 (by first | omega | (simp; done) | (simp; omega)) k1.out)) | (replace k1 := hid (look_below hb2 (by first | omega | (simp; done) | (simp; omega)) (look_old k1.out)))
  first | (replace k2 := hid (look_below hb2 (by first | omega | (simp; done) | (simp; omega)) k2.out)) | (replace k2 := hid (look_below hb2 (by first | omega | (simp; done) | (simp; omega)) (look_old k2.out)))
  replace hB := hid (below_of hB.out hb2)
  have hz2 := hb2.size
  clear hb2 c1 f1
  obtain ⟨c0, f0⟩ := blk k0.out; have z0 := (Array.getElem?_eq_some_iff.1 k0.out).1
  go_wp2_with fail
  refine (gotListOf_any _ l _ HI2.out (by omega)).mono ?_
  rintro e w3 ⟨rr, rfl, hgl, hb3⟩
  have HR := hid hgl
  obtain ⟨ga, gb, hgr⟩ := hgl.look
  have hrr := hgl.lt
  first | (replace k0 := hid (look_below hb3 (by first | omega | (simp; done) | (simp; omega)) k0.out)) | (replace k0 := hid (look_below hb3 (by first | omega | (simp; done) | (simp; omega)) (look_old k0.out)))
  first | (replace k1 := hid (look_below hb3 (by first | omega | (simp; done) | (simp; omega)) k1.out)) | (replace k1 := hid (look_below hb3 (by first | omega | (simp; done) | (simp; omega)) (look_old k1.out)))
  first | (replace k2 := hid (look_below hb3 (by first | omega | (simp; done) | (simp; omega)) k2.out)) | (replace k2 := hid (look_below hb3 (by first | omega | (simp; done) | (simp; omega)) (look_old k2.out)))
  replace hB := hid (below_of hB.out hb3)
  have hz3 := hb3.size
  clear hgl hb3 c0 f0 z0
  obtain ⟨c0, f0⟩ := blk k0.out; have z0 := (Array.getElem?_eq_some_iff.1 k0.out).1
  obtain ⟨c1, f1⟩ := blk k1.out; have z1 := (Array.getElem?_eq_some_iff.1 k1.out).1
  obtain ⟨c9, f9⟩ := blk hgr
  clear hgr
  go_wp2_with fail
  refine wp_region_E (fun _ => True) (.op 0 0 (.op 1 0 (.op 2 0 (.op 3 0 (.op 4 0 (.op 5 0 (.op 6 0 (.nil)))))))) (by kernel_rfl) rfl (by kernel_rfl) (by kernel_rfl) (by kernel_rfl) (fun _ _ d _ _ h => by cases d <;> exact h) ?_
  go_wp2_with (first
    | (refine wpE_soft (by rfl) (by rfl) (by rfl) (by rfl) ?_; intro K hK)
    | (refine wpE_field (by rfl) (by rfl) (by rfl) (by kernel_rfl) ?_; intro K hK)
    | (refine wpE_conv (k := .i64) (by rfl) (by rfl) (by rfl) (by rfl) (by kernel_rfl) ?_; intro K hK)
    | (refine wpE_load (by rfl) (by rfl) (by rfl) (by rfl) (by first | trivial | (simp; done) | (simp; omega) | omega) (by first | (simp [*]; done) | go_simp) ?_; intro K hK)
    | (refine wpE_late (by rfl) (by rfl) ?_; intro K hK)
    | (refine wpE_skip (by rfl) (by rfl) ?_)
    | (refine wpE_nil ?_))
  refine (gput_any rr w2.heap.size l (x, y) _ (GL.drew HR.out) hz3 (by omega)).mono ?_
  rintro e w4 ⟨rfl, hgl4, hb4⟩
  obtain ⟨m, hm⟩ : ∃ m, m = l ++ [(x, y)] := ⟨_, rfl⟩
  rw [← hm] at hgl4 hl2
  have HM := hid hm
  clear hm
  have HR4 := hid hgl4
  replace k0 := hid (look_below hb4 (by omega) (look_drew k0.out))
  replace k2 := hid (look_below hb4 (by omega) (look_drew k2.out))
  have hz4 : w3.heap.size ≤ w4.heap.size := hb4.size
  replace hB := hid (hB.out.drew.trans (hb4.mono (by omega)))
  clear hgl4 hb4 c0 f0 z0 c9 f9
  go_wp2_with fail
  refine (gitems_any rr w2.heap.size m _ HR4.out hl2).mono ?_
  rintro e w5 ⟨a5, c5, rfl, hown, hb5⟩
  first | (replace k0 := hid (look_below hb5 (by first | omega | (simp; done) | (simp; omega)) k0.out)) | (replace k0 := hid (look_below hb5 (by first | omega | (simp; done) | (simp; omega)) (look_old k0.out)))
  first | (replace k2 := hid (look_below hb5 (by first | omega | (simp; done) | (simp; omega)) k2.out)) | (replace k2 := hid (look_below hb5 (by first | omega | (simp; done) | (simp; omega)) (look_old k2.out)))
  have hz5 := hb5.size
  replace hB := hid (below_of hB.out hb5)
  have HO := hid hown
  clear hown hb5
  obtain ⟨c0, f0⟩ := blk k0.out; have z0 := (Array.getElem?_eq_some_iff.1 k0.out).1
  clear f1 c1 z1
  go_upto_region 8 with fail
  clear c0 f0
  have q0 : (w5.setCell ⟨w.heap.size, 2, none⟩ (.slice a5 m.length c5)).heap[w.heap.size]? = some (.cells #[.int .i64 r, .int .i64 t, .slice a5 m.length c5, .bool o, .int .i64 a] 40 (0, 0)) := by simpa using look_set (o := 2) (v := Value.slice a5 m.length c5) k0.out
  replace k2 := hid (look_ne (p := ⟨w.heap.size, 2, none⟩) (v := .slice a5 m.length c5) (by simp) k2.out)
  replace HO := hid (HO.out.set (p := ⟨w.heap.size, 2, none⟩) (by simp; omega) (.slice a5 m.length c5))
  replace hB := hid (hB.out.trans (below_set' w5 w.heap.size 2 (.slice a5 m.length c5)))
  have hz6 : (w5.setCell ⟨w.heap.size, 2, none⟩ (.slice a5 m.length c5)).heap.size = w5.heap.size := size_set _ _ _
  clear k0
  generalize w5.setCell ⟨w.heap.size, 2, none⟩ (.slice a5 m.length c5) = w6 at q0 k2 HO hB hz6 ⊢
  have k0 := hid q0
  clear q0
  obtain ⟨c0, f0⟩ := blk k0.out; have z0 := (Array.getElem?_eq_some_iff.1 k0.out).1
  go_upto_region 9 with fail
  clear c0 f0
  have q0 : (w6.setCell ⟨w.heap.size, 4, none⟩ (.int .i64 0)).heap[w.heap.size]? = some (.cells #[.int .i64 r, .int .i64 t, .slice a5 m.length c5, .bool o, .int .i64 0] 40 (0, 0)) := by simpa using look_set (o := 4) (v := Value.int .i64 0) k0.out
  replace k2 := hid (look_ne (p := ⟨w.heap.size, 4, none⟩) (v := .int .i64 0) (by simp) k2.out)
  replace HO := hid (HO.out.set (p := ⟨w.heap.size, 4, none⟩) (by simp; omega) (.int .i64 0))
  replace hB := hid (hB.out.trans (below_set' w6 w.heap.size 4 (.int .i64 0)))
  have hz7 : (w6.setCell ⟨w.heap.size, 4, none⟩ (.int .i64 0)).heap.size = w6.heap.size := size_set _ _ _
  clear k0
  generalize w6.setCell ⟨w.heap.size, 4, none⟩ (.int .i64 0) = w7 at q0 k2 HO hB hz7 ⊢
  have k0 := hid q0
  clear q0
  obtain ⟨c0, f0⟩ := blk k0.out
  obtain ⟨c2, f2⟩ := blk k2.out
  have z0 : w.heap.size < w7.heap.size := by omega
  have z2 : w.heap.size + 2 < w7.heap.size := by omega
  go_wp2
  obtain rfl := HM.out
  exact bodyPost_ret (v := .tuple #[.agg #[.int .i64 r, .int .i64 t, .slice a5 (l ++ [(x, y)]).length c5, .bool o, .int .i64 0], .bool true]) (by simp [results, Try.results85, go_sem, c2]) rfl ⟨_, _, rfl, (by repeat (first | (with_reducible exact Hid.out (by assumption)) | (with_reducible assumption) | (with_reducible exact Below.refl _ _) | (with_reducible refine Below.alloc ?_ (by first | omega | (simp; done) | (simp; omega)) _) | (with_reducible refine Below.setCell ?_ (by first | omega | (simp; done) | (simp; omega)) _) | (with_reducible refine Below.drew ?_) | (with_reducible refine below_drewN ?_ _) | exact Below.refl _ _ | assumption | exact Hid.out (by assumption))), OwnG.base (base := w4.heap.size) (by repeat (first | (with_reducible exact HO.out) | (with_reducible refine OwnG.set ?_ (by simp; omega) _) | (with_reducible refine OwnG.drew ?_))) (by omega)⟩

set_option maxHeartbeats 1000000 in
theorem RecvPut_full (r t : Int) (v : Value) (l : List (Int × Int)) (o : Bool) (a x y : Int) (w : World) (hv : Sl w 2 v l.length (EL.gots l).enc) (hl : l.length ≤ 100000) (hok : rcvV ⟨r, t, l, o, a⟩ = true) (hg : gotB (x, y) = true) (hroom : (l.length : Int) = r) :
    Calls Try.prog 85 #[.agg #[.int .i64 r, .int .i64 t, v, .bool o, .int .i64 a], .agg #[.int .i64 x, .int .i64 y]] w fun e w' => ∃ a' c, e = .returned (.tuple #[.agg #[.int .i64 r, .int .i64 t, .slice a' l.length c, .bool true, .int .i64 0], .bool true]) ∧ Below w.heap.size w w' ∧ OwnG w' w.heap.size (.slice a' l.length c) l := by
  have HOK := hid hok
  have HG := hid hg
  obtain ⟨a0, cap, rfl, -⟩ := hv.form
  have HV := hid hv
  have hl2 : l.length ≤ 1099511627776 := by omega
  clear hv hok hg
  go_enter Try.func85, Try.ntmps85
  go_wp2_with fail
  refine (RecvValid_any _ _ _ _ _ _ _ (HV.out.below (below_alloc3 _ _ _ _)) (by omega)).mono ?_
  rintro e w1 ⟨rfl, hb1⟩
  rw [HOK.out]
  obtain ⟨k0, k1, k2, hz1, hB⟩ := entry3 hb1
  have HI := hid (HV.out.below hB)
  obtain ⟨c1, f1⟩ := blk k1; replace k1 := hid k1
  replace k0 := hid k0
  replace k2 := hid k2
  replace hB := hid hB
  clear hb1
  go_wp2_with fail
  refine (gotValid_any _ _ _).mono ?_
  rintro e w2 ⟨rfl, hb2⟩
  rw [HG.out]
  have HI2 := hid (HI.out.below hb2)
  first | (replace k0 := hid (look_below hb2 (by first | omega | (simp; done) | (simp; omega)) k0.out)) | (replace k0 := hid (look_below hb2 (by first | omega | (simp; done) | (simp; omega)) (look_old k0.out)))
  first | (replace k1 := hid (look_below hb2 (by first | omega | (simp; done) | (simp; omega)) k1.out)) | (replace k1 := hid (look_below hb2 (by first | omega | (simp; done) | (simp; omega)) (look_old k1.out)))
  first | (replace k2 := hid (look_below hb2 (by first | omega | (simp; done) | (simp; omega)) k2.out)) | (replace k2 := hid (look_below hb2 (by first | omega | (simp; done) | (simp; omega)) (look_old k2.out)))
  replace hB := hid (below_of hB.out hb2)
  have hz2 := hb2.size
  clear hb2 c1 f1
  obtain ⟨c0, f0⟩ := blk k0.out; have z0 := (Array.getElem?_eq_some_iff.1 k0.out).1
  go_wp2_with fail
  refine (gotListOf_any _ l _ HI2.out (by omega)).mono ?_
  rintro e w3 ⟨rr, rfl, hgl, hb3⟩
  have HR := hid hgl
  obtain ⟨ga, gb, hgr⟩ := hgl.look
  have hrr := hgl.lt
  first | (replace k0 := hid (look_below hb3 (by first | omega | (simp; done) | (simp; omega)) k0.out)) | (replace k0 := hid (look_below hb3 (by first | omega | (simp; done) | (simp; omega)) (look_old k0.out)))
  first | (replace k1 := hid (look_below hb3 (by first | omega | (simp; done) | (simp; omega)) k1.out)) | (replace k1 := hid (look_below hb3 (by first | omega | (simp; done) | (simp; omega)) (look_old k1.out)))
  first | (replace k2 := hid (look_below hb3 (by first | omega | (simp; done) | (simp; omega)) k2.out)) | (replace k2 := hid (look_below hb3 (by first | omega | (simp; done) | (simp; omega)) (look_old k2.out)))
  replace hB := hid (below_of hB.out hb3)
  have hz3 := hb3.size
  clear hgl hb3 c0 f0 z0
  obtain ⟨c0, f0⟩ := blk k0.out; have z0 := (Array.getElem?_eq_some_iff.1 k0.out).1
  obtain ⟨c1, f1⟩ := blk k1.out; have z1 := (Array.getElem?_eq_some_iff.1 k1.out).1
  obtain ⟨c9, f9⟩ := blk hgr
  clear hgr
  go_wp2_with fail
  refine wp_region_E (fun _ => True) (.op 0 0 (.op 1 0 (.op 2 0 (.op 3 0 (.op 4 0 (.op 5 0 (.op 6 0 (.nil)))))))) (by kernel_rfl) rfl (by kernel_rfl) (by kernel_rfl) (by kernel_rfl) (fun _ _ d _ _ h => by cases d <;> exact h) ?_
  go_wp2_with (first
    | (refine wpE_soft (by rfl) (by rfl) (by rfl) (by rfl) ?_; intro K hK)
    | (refine wpE_field (by rfl) (by rfl) (by rfl) (by kernel_rfl) ?_; intro K hK)
    | (refine wpE_conv (k := .i64) (by rfl) (by rfl) (by rfl) (by rfl) (by kernel_rfl) ?_; intro K hK)
    | (refine wpE_load (by rfl) (by rfl) (by rfl) (by rfl) (by first | trivial | (simp; done) | (simp; omega) | omega) (by first | (simp [*]; done) | go_simp) ?_; intro K hK)
    | (refine wpE_late (by rfl) (by rfl) ?_; intro K hK)
    | (refine wpE_skip (by rfl) (by rfl) ?_)
    | (refine wpE_nil ?_))
  go_upto_region 7 with fail
  have q0 : (w3.setCell ⟨w.heap.size, 3, none⟩ (.bool true)).drew.heap[w.heap.size]? = some (.cells #[.int .i64 r, .int .i64 t, .slice a0 l.length cap, .bool true, .int .i64 a] 40 (0, 0)) := by simpa using look_drew (look_set (o := 3) (v := Value.bool true) k0.out)
  replace k2 := hid (look_drew (look_ne (p := ⟨w.heap.size, 3, none⟩) (v := .bool true) (by simp) k2.out))
  have HR4 := hid (GL.keep (w' := (w3.setCell ⟨w.heap.size, 3, none⟩ (.bool true)).drew) HR.out (fun b hb _ => heap_setCell_other w3 ⟨w.heap.size, 3, none⟩ b (.bool true) (by simp; omega)))
  replace hB := hid ((hB.out.trans (below_set' w3 w.heap.size 3 (.bool true))).drew)
  have hz4 : (w3.setCell ⟨w.heap.size, 3, none⟩ (.bool true)).drew.heap.size = w3.heap.size := size_set _ _ _
  clear k0 c0 f0 z0 c9 f9
  generalize (w3.setCell ⟨w.heap.size, 3, none⟩ (.bool true)).drew = w4 at q0 k2 HR4 hB hz4 ⊢
  have k0 := hid q0
  clear q0
  go_wp2_with fail
  refine (gitems_any rr w2.heap.size l _ HR4.out hl2).mono ?_
  rintro e w5 ⟨a5, c5, rfl, hown, hb5⟩
  first | (replace k0 := hid (look_below hb5 (by first | omega | (simp; done) | (simp; omega)) k0.out)) | (replace k0 := hid (look_below hb5 (by first | omega | (simp; done) | (simp; omega)) (look_old k0.out)))
  first | (replace k2 := hid (look_below hb5 (by first | omega | (simp; done) | (simp; omega)) k2.out)) | (replace k2 := hid (look_below hb5 (by first | omega | (simp; done) | (simp; omega)) (look_old k2.out)))
  have hz5 := hb5.size
  replace hB := hid (below_of hB.out hb5)
  have HO := hid hown
  clear hown hb5
  obtain ⟨c0, f0⟩ := blk k0.out; have z0 := (Array.getElem?_eq_some_iff.1 k0.out).1
  clear f1 c1 z1
  go_upto_region 8 with fail
  clear c0 f0
  have q0 : (w5.setCell ⟨w.heap.size, 2, none⟩ (.slice a5 l.length c5)).heap[w.heap.size]? = some (.cells #[.int .i64 r, .int .i64 t, .slice a5 l.length c5, .bool true, .int .i64 a] 40 (0, 0)) := by simpa using look_set (o := 2) (v := Value.slice a5 l.length c5) k0.out
  replace k2 := hid (look_ne (p := ⟨w.heap.size, 2, none⟩) (v := .slice a5 l.length c5) (by simp) k2.out)
  replace HO := hid (HO.out.set (p := ⟨w.heap.size, 2, none⟩) (by simp; omega) (.slice a5 l.length c5))
  replace hB := hid (hB.out.trans (below_set' w5 w.heap.size 2 (.slice a5 l.length c5)))
  have hz6 : (w5.setCell ⟨w.heap.size, 2, none⟩ (.slice a5 l.length c5)).heap.size = w5.heap.size := size_set _ _ _
  clear k0
  generalize w5.setCell ⟨w.heap.size, 2, none⟩ (.slice a5 l.length c5) = w6 at q0 k2 HO hB hz6 ⊢
  have k0 := hid q0
  clear q0
  obtain ⟨c0, f0⟩ := blk k0.out; have z0 := (Array.getElem?_eq_some_iff.1 k0.out).1
  go_upto_region 9 with fail
  clear c0 f0
  have q0 : (w6.setCell ⟨w.heap.size, 4, none⟩ (.int .i64 0)).heap[w.heap.size]? = some (.cells #[.int .i64 r, .int .i64 t, .slice a5 l.length c5, .bool true, .int .i64 0] 40 (0, 0)) := by simpa using look_set (o := 4) (v := Value.int .i64 0) k0.out
  replace k2 := hid (look_ne (p := ⟨w.heap.size, 4, none⟩) (v := .int .i64 0) (by simp) k2.out)
  replace HO := hid (HO.out.set (p := ⟨w.heap.size, 4, none⟩) (by simp; omega) (.int .i64 0))
  replace hB := hid (hB.out.trans (below_set' w6 w.heap.size 4 (.int .i64 0)))
  have hz7 : (w6.setCell ⟨w.heap.size, 4, none⟩ (.int .i64 0)).heap.size = w6.heap.size := size_set _ _ _
  clear k0
  generalize w6.setCell ⟨w.heap.size, 4, none⟩ (.int .i64 0) = w7 at q0 k2 HO hB hz7 ⊢
  have k0 := hid q0
  clear q0
  obtain ⟨c0, f0⟩ := blk k0.out
  obtain ⟨c2, f2⟩ := blk k2.out
  have z0 : w.heap.size < w7.heap.size := by omega
  have z2 : w.heap.size + 2 < w7.heap.size := by omega
  go_wp2
  exact bodyPost_ret (v := .tuple #[.agg #[.int .i64 r, .int .i64 t, .slice a5 l.length c5, .bool true, .int .i64 0], .bool true]) (by simp [results, Try.results85, go_sem, c2]) rfl ⟨_, _, rfl, (by repeat (first | (with_reducible exact Hid.out (by assumption)) | (with_reducible assumption) | (with_reducible exact Below.refl _ _) | (with_reducible refine Below.alloc ?_ (by first | omega | (simp; done) | (simp; omega)) _) | (with_reducible refine Below.setCell ?_ (by first | omega | (simp; done) | (simp; omega)) _) | (with_reducible refine Below.drew ?_) | (with_reducible refine below_drewN ?_ _) | exact Below.refl _ _ | assumption | exact Hid.out (by assumption))), OwnG.base (base := w4.heap.size) (by repeat (first | (with_reducible exact HO.out) | (with_reducible refine OwnG.set ?_ (by simp; omega) _) | (with_reducible refine OwnG.drew ?_))) (by omega)⟩


theorem con_i_RecvPut : Con Try.prog 85 [.inr [.int, .int, .gots, .bool, .int], .inr [.int, .int]] (fun ⟨⟨r, t, l, o, a, _⟩, ⟨x, y, _⟩, _⟩ K => K (rputR ⟨r, t, l, o, a⟩ (x, y)).d) := by
  rintro ⟨⟨r, t, l, o, a, _⟩, ⟨x, y, _⟩, _⟩ K hK w vs hr
  replace hK : K (rputR ⟨r, t, l, o, a⟩ (x, y)).d := hK
  obtain ⟨v, rfl, hv, hl⟩ : ∃ v, vs = #[.agg #[.int .i64 r, .int .i64 t, v, .bool o, .int .i64 a], .agg #[.int .i64 x, .int .i64 y]] ∧ Sl w 2 v l.length (EL.gots l).enc ∧ l.length ≤ 1099511627776 := by
    cases hvs : vs.toList with
    | nil => rw [hvs] at hr; exact hr.elim
    | cons z rest =>
      rw [hvs] at hr
      match rest, hr with
      | [z2], ⟨⟨us, ex, hu⟩, ⟨us2, ex2, hu2⟩, _⟩ =>
        subst ex ex2
        obtain ⟨v, e, h1, h2⟩ := rcv_arg hu
        have e2 : us2.toList = [.int .i64 x, .int .i64 y] := by
          generalize us2.toList = q at hu2
          match q, hu2 with
          | [q1, q2], ⟨g1, g2, _⟩ => rw [show q1 = _ from g1, show q2 = _ from g2]
        exact ⟨v, Array.toList_inj.1 (by rw [hvs, show us = #[.int .i64 r, .int .i64 t, v, .bool o, .int .i64 a] from Array.toList_inj.1 e, show us2 = #[.int .i64 x, .int .i64 y] from Array.toList_inj.1 e2]), h1, h2⟩
  have none0 : ∀ (w' : World), Below w.heap.size w w' → rputR ⟨r, t, l, o, a⟩ (x, y) = ⟨rcv0, false⟩ → ∃ d v, Ending.returned (.tuple #[.agg #[.int .i64 0, .int .i64 0, .slice none 0 0, .bool false, .int .i64 0], .bool false]) = .returned v ∧ K d ∧ Below w.heap.size w w' ∧ ∃ bs, frV w' w.heap.size d v bs ∧ bs.Nodup := by
    intro w' hb he
    rw [he] at hK
    exact ⟨_, _, rfl, hK, hb, [], ⟨_, rfl, [], [], rfl, ⟨_, rfl, [], [], rfl, ⟨rfl, rfl, rfl⟩, [], [], rfl, ⟨rfl, rfl, rfl⟩, [], [], rfl, ⟨World.ownsRow_nil _ _ _ _, Nat.zero_le _, rfl⟩, [], [], rfl, ⟨rfl, rfl, rfl⟩, [], [], rfl, ⟨rfl, rfl, rfl⟩, rfl⟩,
      [], [], rfl, ⟨rfl, rfl, rfl⟩, rfl⟩, List.nodup_nil⟩
  have some0 : ∀ (w' : World) (a' : Option Addr) (c : Nat) (m : List (Int × Int)) (o' : Bool), Below w.heap.size w w' → OwnG w' w.heap.size (.slice a' m.length c) m → m.length ≤ 1099511627776 → rputR ⟨r, t, l, o, a⟩ (x, y) = ⟨⟨r, t, m, o', 0⟩, true⟩ →
      ∃ d v, Ending.returned (.tuple #[.agg #[.int .i64 r, .int .i64 t, .slice a' m.length c, .bool o', .int .i64 0], .bool true]) = .returned v ∧ K d ∧ Below w.heap.size w w' ∧ ∃ bs, frV w' w.heap.size d v bs ∧ bs.Nodup := by
    intro w' a' c m o' hb ho hm he
    rw [he] at hK
    exact ⟨_, _, rfl, hK, hb, (Value.slice a' m.length c).ownBlock.toList, ⟨_, rfl, (Value.slice a' m.length c).ownBlock.toList, [], (List.append_nil _).symm, ⟨_, rfl, [], _, rfl, ⟨rfl, rfl, rfl⟩, [], _, rfl, ⟨rfl, rfl, rfl⟩, _, [], (List.append_nil _).symm, ⟨ho, hm, rfl⟩, [], [], rfl, ⟨rfl, rfl, rfl⟩, [], [], rfl, ⟨rfl, rfl, rfl⟩, rfl⟩,
        [], [], rfl, ⟨rfl, rfl, rfl⟩, rfl⟩, by cases (Value.slice a' m.length c).ownBlock <;> simp⟩
  cases hok : rcvV ⟨r, t, l, o, a⟩ with
  | false =>
    refine (RecvPut_bad r t v l o a x y w hv hl hok).mono ?_
    rintro e w' ⟨rfl, hb⟩
    exact none0 w' hb (by simp [rputR, hok])
  | true =>
    have hbd := rcvV_bd hok
    dsimp only at hbd
    cases hg : gotB (x, y) with
    | false =>
      refine (RecvPut_bad2 r t v l o a x y w hv hl hok hg).mono ?_
      rintro e w' ⟨rfl, hb⟩
      exact none0 w' hb (by simp [rputR, hok, hg])
    | true =>
      by_cases hroom : (l.length : Int) < r
      · refine (RecvPut_room r t v l o a x y w hv (by omega) hok hg hroom).mono ?_
        rintro e w' ⟨a', c, rfl, hb, ho⟩
        exact some0 w' a' c _ o hb ho (by simp; omega) (by simp [rputR, hok, hg, rputV, hroom])
      · refine (RecvPut_full r t v l o a x y w hv (by omega) hok hg (by omega)).mono ?_
        rintro e w' ⟨a', c, rfl, hb, ho⟩
        exact some0 w' a' c _ true hb ho (by omega) (by simp [rputR, hok, hg, rputV, hroom])
def c_i_RecvPut : CS := csOf [.inr [.int, .int, .gots, .bool, .int], .inr [.int, .int]] (fun ⟨⟨r, t, l, o, a, _⟩, ⟨x, y, _⟩, _⟩ K => K (rputR ⟨r, t, l, o, a⟩ (x, y)).d)
theorem c_i_RecvPut_ok : CSok Try.prog 85 c_i_RecvPut := cs_ok (by kernel_rfl) con_i_RecvPut

end Go.Proofs.Ytfgpiecpifckdaa
