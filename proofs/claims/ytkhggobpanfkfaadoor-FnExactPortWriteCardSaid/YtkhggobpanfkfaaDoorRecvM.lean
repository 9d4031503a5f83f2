/-
  RecvTake, RecvPut and recvCopy of the program: what they return (by hand, over the linked list).
-/
import Derived.Test.YtkhggobpanfkfaaDoorGot
import Derived.Test.YtkhggobpanfkfaaDoorR1
import Derived.Deep.Cut
import Derived.Deep.CutRange
namespace Go.Proofs.YtkhggobpanfkfaaDoor
open Go.RowKit
open Ab
set_option linter.unusedSimpArgs false
set_option linter.unusedVariables false

theorem RecvValid_any (r t : Int) (v : Value) (l : List (Int × Int)) (o : Bool) (a : Int) (w : World) (hv : Sl w 2 v l.length (EL.gots l).enc) (hl : l.length ≤ 1099511627776) (hg : Gw w) :
    Calls Tryd.prog 77 #[.agg #[.int .i64 r, .int .i64 t, v, .bool o, .int .i64 a]] w fun e w' => e = .returned (.bool (rcvV ⟨r, t, l, o, a⟩)) ∧ Below w.heap.size w w' := by
  refine (con_i_RecvValid ((r, t, l, o, a, ()), ()) (fun d => d = .l (.v (.bool (rcvV ⟨r, t, l, o, a⟩)))) rfl w #[.agg #[.int .i64 r, .int .i64 t, v, .bool o, .int .i64 a]] ⟨⟨_, rfl, rfl, rfl, ⟨hv, hl⟩, rfl, rfl, trivial⟩, trivial⟩ hg).mono ?_
  rintro e w' ⟨d, u, rfl, rfl, hb, bs, h1, _⟩
  obtain ⟨rfl, _⟩ := h1
  exact ⟨rfl, hb⟩
theorem below_alloc3 (w : World) (o o' o2 : Obj) : Below w.heap.size w (((w.alloc o).alloc o').alloc o2) := (((Below.refl _ _).alloc (Nat.le_refl _) o).alloc (by simp) o').alloc (by simp; omega) o2
theorem OwnG.base {w : World} {base base' : Nat} {v : Value} {l : List (Int × Int)} (h : OwnG w base v l) (hb : base' ≤ base) : OwnG w base' v l := owns_base h hb
theorem OwnG.set {w : World} {base : Nat} {v : Value} {l : List (Int × Int)} (h : OwnG w base v l) {p : Addr} (hp : p.block < base) (u : Value) : OwnG (w.setCell p u) base v l := ownsRow_setCell_below h hp u
theorem OwnG.below {w w' : World} {base : Nat} {v : Value} {l : List (Int × Int)} (h : OwnG w base v l) (hb : Below w.heap.size w w') : OwnG w' base v l := owns_below h hb
theorem OwnG.drew {w : World} {base : Nat} {v : Value} {l : List (Int × Int)} (h : OwnG w base v l) : OwnG w.drew base v l := h

theorem Ex.ddrew {p : Nat → Prop} {w w' : World} (h : Ex p w w') : Ex p w.drew w'.drew := h
theorem below_set' (w : World) (b o : Nat) (v : Value) : Below b w (w.setCell ⟨b, o, none⟩ v) := ⟨rfl, rfl, rfl, by simp, fun k hk => heap_setCell_other w ⟨b, o, none⟩ k v (by simp; omega)⟩

set_option maxHeartbeats 1000000 in
theorem RecvTake_some (r t : Int) (v : Value) (g : Int × Int) (l : List (Int × Int)) (o : Bool) (a : Int) (w : World) (hv : Sl w 2 v (g :: l).length (EL.gots (g :: l)).enc) (hl : (g :: l).length ≤ 1099511627776) (hok : rcvV ⟨r, t, g :: l, o, a⟩ = true) (hgw : Gw w) :
    Calls Tryd.prog 42 #[.agg #[.int .i64 r, .int .i64 t, v, .bool o, .int .i64 a]] w fun e w' => ∃ a' c, e = .returned (.tuple #[.agg #[.int .i64 r, .int .i64 t, .slice a' l.length c, .bool o, .int .i64 0], .agg #[.int .i64 g.1, .int .i64 g.2], .bool true]) ∧ Below w.heap.size w w' ∧ OwnG w' w.heap.size (.slice a' l.length c) l := by
  have HOK := hid hok
  obtain ⟨a0, cap, rfl, -⟩ := hv.form
  have HV := hid hv
  have hl2 : l.length ≤ 1099511627776 := by simp at hl; omega
  clear hv hok
  go_enter Tryd.func42, Tryd.ntmps42
  go_wp2_with fail
  refine (RecvValid_any _ _ _ _ _ _ _ (HV.out.below (below_alloc3 _ _ _ _)) hl (hgw.below (below_alloc3 _ _ _ _))).mono ?_
  rintro e w1 ⟨rfl, hb1⟩
  rw [HOK.out]
  obtain ⟨k0, k1, k2, hz1, hB⟩ := entry3 hb1
  have HI := hid (HV.out.below hB)
  obtain ⟨c0, f0⟩ := blk k0; replace k0 := hid k0
  replace k1 := hid k1
  replace k2 := hid k2
  replace hB := hid hB
  clear hb1
  go_wp2_with fail
  refine (gotListOf_any _ (g :: l) _ HI.out hl).mono ?_
  rintro e w2 ⟨rr, rfl, hgl, hb2⟩
  have HR := hid hgl
  have hrr := hgl.lt
  first | (replace k0 := hid (look_below hb2 (by first | omega | (simp; done) | (simp; omega)) k0.out)) | (replace k0 := hid (look_below hb2 (by first | omega | (simp; done) | (simp; omega)) (look_old k0.out)))
  first | (replace k1 := hid (look_below hb2 (by first | omega | (simp; done) | (simp; omega)) k1.out)) | (replace k1 := hid (look_below hb2 (by first | omega | (simp; done) | (simp; omega)) (look_old k1.out)))
  first | (replace k2 := hid (look_below hb2 (by first | omega | (simp; done) | (simp; omega)) k2.out)) | (replace k2 := hid (look_below hb2 (by first | omega | (simp; done) | (simp; omega)) (look_old k2.out)))
  replace hB := hid (below_of hB.out hb2)
  have hz2 := hb2.size
  clear hgl hb2 c0 f0
  go_wp2_with fail
  refine (gtake_cons rr w1.heap.size g l _ HR.out hz2 hl2).mono ?_
  rintro e w3 ⟨rfl, hgl, hb3⟩
  have HR3 := hid hgl
  have hz3 := hb3.size
  first | (replace k0 := hid (look_below hb3 (by first | omega | (simp; done) | (simp; omega)) k0.out)) | (replace k0 := hid (look_below hb3 (by first | omega | (simp; done) | (simp; omega)) (look_old k0.out)))
  first | (replace k1 := hid (look_below hb3 (by first | omega | (simp; done) | (simp; omega)) k1.out)) | (replace k1 := hid (look_below hb3 (by first | omega | (simp; done) | (simp; omega)) (look_old k1.out)))
  first | (replace k2 := hid (look_below hb3 (by first | omega | (simp; done) | (simp; omega)) k2.out)) | (replace k2 := hid (look_below hb3 (by first | omega | (simp; done) | (simp; omega)) (look_old k2.out)))
  replace hB := hid ((hB.out.trans (hb3.mono (by omega))))
  clear hgl hb3
  obtain ⟨c0, f0⟩ := blk k0.out; have z0 := (Array.getElem?_eq_some_iff.1 k0.out).1
  obtain ⟨c1, f1⟩ := blk k1.out; have z1 := (Array.getElem?_eq_some_iff.1 k1.out).1
  obtain ⟨c2, f2⟩ := blk k2.out; have z2 := (Array.getElem?_eq_some_iff.1 k2.out).1
  go_wp2_with fail
  refine (gitems_any rr w1.heap.size l _ (HR3.out.below (below_alloc _ _)) hl2).mono ?_
  rintro e w4 ⟨a4, c4, rfl, hown, hb4⟩
  have k6 := hid (look_below hb4 (by simp) (look_new (w := w3) rfl))
  first | (replace k0 := hid (look_below hb4 (by first | omega | (simp; done) | (simp; omega)) k0.out)) | (replace k0 := hid (look_below hb4 (by first | omega | (simp; done) | (simp; omega)) (look_old k0.out)))
  first | (replace k1 := hid (look_below hb4 (by first | omega | (simp; done) | (simp; omega)) k1.out)) | (replace k1 := hid (look_below hb4 (by first | omega | (simp; done) | (simp; omega)) (look_old k1.out)))
  first | (replace k2 := hid (look_below hb4 (by first | omega | (simp; done) | (simp; omega)) k2.out)) | (replace k2 := hid (look_below hb4 (by first | omega | (simp; done) | (simp; omega)) (look_old k2.out)))
  have hz4 := hb4.size
  replace hB := hid (below_of (hB.out.alloc (by omega) _) hb4)
  have HO := hid hown
  clear hown hb4
  obtain ⟨c0, f0⟩ := blk k0.out; have z0 := (Array.getElem?_eq_some_iff.1 k0.out).1
  obtain ⟨c1, f1⟩ := blk k1.out; have z1 := (Array.getElem?_eq_some_iff.1 k1.out).1
  obtain ⟨c2, f2⟩ := blk k2.out; have z2 := (Array.getElem?_eq_some_iff.1 k2.out).1
  obtain ⟨c6, f6⟩ := blk k6.out; have z6 := (Array.getElem?_eq_some_iff.1 k6.out).1
  simp only [size_alloc] at hz4 HO
  clear c1 f1 c2 f2 c6 f6
  go_upto_region 8 with fail
  clear c0 f0
  have q0 : (w4.setCell ⟨w.heap.size, 2, none⟩ (.slice a4 l.length c4)).heap[w.heap.size]? = some (.cells #[.int .i64 r, .int .i64 t, .slice a4 l.length c4, .bool o, .int .i64 a] 38 (0, 0)) := by simpa using look_set (o := 2) (v := Value.slice a4 l.length c4) k0.out
  replace k1 := hid (look_ne (p := ⟨w.heap.size, 2, none⟩) (v := .slice a4 l.length c4) (by simp) k1.out)
  replace k2 := hid (look_ne (p := ⟨w.heap.size, 2, none⟩) (v := .slice a4 l.length c4) (by simp) k2.out)
  replace k6 := hid (look_ne (p := ⟨w.heap.size, 2, none⟩) (v := .slice a4 l.length c4) (by simp; omega) k6.out)
  replace HO := hid (HO.out.set (p := ⟨w.heap.size, 2, none⟩) (by simp; omega) (.slice a4 l.length c4))
  replace hB := hid (hB.out.trans (below_set' w4 w.heap.size 2 (.slice a4 l.length c4)))
  have hz5 : (w4.setCell ⟨w.heap.size, 2, none⟩ (.slice a4 l.length c4)).heap.size = w4.heap.size := size_set _ _ _
  clear k0
  generalize w4.setCell ⟨w.heap.size, 2, none⟩ (.slice a4 l.length c4) = w5 at q0 k1 k2 k6 HO hB hz5 ⊢
  have k0 := hid q0
  clear q0
  obtain ⟨c0, f0⟩ := blk k0.out; have z0 := (Array.getElem?_eq_some_iff.1 k0.out).1
  go_upto_region 9 with fail
  clear c0 f0
  have q0 : (w5.setCell ⟨w.heap.size, 4, none⟩ (.int .i64 0)).heap[w.heap.size]? = some (.cells #[.int .i64 r, .int .i64 t, .slice a4 l.length c4, .bool o, .int .i64 0] 38 (0, 0)) := by simpa using look_set (o := 4) (v := Value.int .i64 0) k0.out
  replace k1 := hid (look_ne (p := ⟨w.heap.size, 4, none⟩) (v := .int .i64 0) (by simp) k1.out)
  replace k2 := hid (look_ne (p := ⟨w.heap.size, 4, none⟩) (v := .int .i64 0) (by simp) k2.out)
  replace k6 := hid (look_ne (p := ⟨w.heap.size, 4, none⟩) (v := .int .i64 0) (by simp; omega) k6.out)
  replace HO := hid (HO.out.set (p := ⟨w.heap.size, 4, none⟩) (by simp; omega) (.int .i64 0))
  replace hB := hid (hB.out.trans (below_set' w5 w.heap.size 4 (.int .i64 0)))
  have hz6 : (w5.setCell ⟨w.heap.size, 4, none⟩ (.int .i64 0)).heap.size = w5.heap.size := size_set _ _ _
  clear k0
  generalize w5.setCell ⟨w.heap.size, 4, none⟩ (.int .i64 0) = w6 at q0 k1 k2 k6 HO hB hz6 ⊢
  have k0 := hid q0
  clear q0
  have z0 : w.heap.size < w6.heap.size := by omega
  have z1 : w.heap.size + 1 < w6.heap.size := by omega
  have z2 : w.heap.size + 2 < w6.heap.size := by omega
  have z6 : w3.heap.size < w6.heap.size := by omega
  obtain ⟨c0, f0⟩ := blk k0.out
  obtain ⟨c1, f1⟩ := blk k1.out
  obtain ⟨c2, f2⟩ := blk k2.out
  obtain ⟨c6, f6⟩ := blk k6.out
  refine wp_region_E (fun b => b ≠ w.heap.size + 1) (.op 0 0 (.op 1 0 (.op 2 1 (.op 3 2 (.op 4 2 (.nil)))))) (by kernel_rfl) rfl (by kernel_rfl) (by kernel_rfl) (by kernel_rfl) (fun _ _ d _ _ h => by cases d <;> exact h) ?_
  go_wp2_with (first
    | (refine wpE_soft (by rfl) (by rfl) (by rfl) (by rfl) ?_; intro K hK)
    | (refine wpE_field (by rfl) (by rfl) (by rfl) (by kernel_rfl) ?_; intro K hK)
    | (refine wpE_conv (k := .i64) (by rfl) (by rfl) (by rfl) (by rfl) (by kernel_rfl) ?_; intro K hK)
    | (refine wpE_load (by rfl) (by rfl) (by rfl) (by rfl) (by first | trivial | (simp; done) | (simp; omega) | omega) (by first | (simp [*]; done) | go_simp) ?_; intro K hK)
    | (refine wpE_late (by rfl) (by rfl) ?_; intro K hK)
    | (refine wpE_skip (by rfl) (by rfl) ?_)
    | (refine wpE_nil ?_))
  refine wpE_eff (by rfl) (by rfl) ?_; intro K hK; go_wp2_with fail; refine ⟨(by repeat (first | (with_reducible exact Ex.refl _ _) | (with_reducible refine Ex.setTrans _ _ (by simp) ?_) | (with_reducible refine Ex.ddrew ?_))), ?_⟩
  go_wp2_with (first
    | (refine wpE_soft (by rfl) (by rfl) (by rfl) (by rfl) ?_; intro K hK)
    | (refine wpE_field (by rfl) (by rfl) (by rfl) (by kernel_rfl) ?_; intro K hK)
    | (refine wpE_conv (k := .i64) (by rfl) (by rfl) (by rfl) (by rfl) (by kernel_rfl) ?_; intro K hK)
    | (refine wpE_load (by rfl) (by rfl) (by rfl) (by rfl) (by first | trivial | (simp; done) | (simp; omega) | omega) (by first | (simp [*]; done) | go_simp) ?_; intro K hK)
    | (refine wpE_late (by rfl) (by rfl) ?_; intro K hK)
    | (refine wpE_skip (by rfl) (by rfl) ?_)
    | (refine wpE_nil ?_))
  exact bodyPost_ret (v := .tuple #[.agg #[.int .i64 r, .int .i64 t, .slice a4 l.length c4, .bool o, .int .i64 0], .agg #[.int .i64 g.1, .int .i64 g.2], .bool true]) (by simp [results, Tryd.results42, go_sem, c1, c2]) rfl ⟨_, _, rfl, (by repeat (first | (with_reducible exact Hid.out (by assumption)) | (with_reducible assumption) | (with_reducible exact Below.refl _ _) | (with_reducible refine Below.alloc ?_ (by first | omega | (simp; done) | (simp; omega)) _) | (with_reducible refine Below.setCell ?_ (by first | omega | (simp; done) | (simp; omega)) _) | (with_reducible refine Below.drew ?_) | (with_reducible refine below_drewN ?_ _) | exact Below.refl _ _ | assumption | exact Hid.out (by assumption))), OwnG.base (base := w3.heap.size + 1) (by repeat (first | (with_reducible exact HO.out) | (with_reducible refine OwnG.set ?_ (by simp; omega) _) | (with_reducible refine OwnG.drew ?_))) (by omega)⟩

set_option maxHeartbeats 1000000 in
theorem RecvTake_bad (r t : Int) (v : Value) (l : List (Int × Int)) (o : Bool) (a : Int) (w : World) (hv : Sl w 2 v l.length (EL.gots l).enc) (hl : l.length ≤ 1099511627776) (hok : rcvV ⟨r, t, l, o, a⟩ = false) (hgw : Gw w) :
    Calls Tryd.prog 42 #[.agg #[.int .i64 r, .int .i64 t, v, .bool o, .int .i64 a]] w fun e w' => e = .returned (.tuple #[.agg #[.int .i64 0, .int .i64 0, .slice none 0 0, .bool false, .int .i64 0], .agg #[.int .i64 0, .int .i64 0], .bool false]) ∧ Below w.heap.size w w' := by
  have HOK := hid hok
  obtain ⟨a0, cap, rfl, -⟩ := hv.form
  have HV := hid hv
  clear hv hok
  go_enter Tryd.func42, Tryd.ntmps42
  go_wp2_with fail
  refine (RecvValid_any _ _ _ _ _ _ _ (HV.out.below (below_alloc3 _ _ _ _)) hl (hgw.below (below_alloc3 _ _ _ _))).mono ?_
  rintro e w1 ⟨rfl, hb1⟩
  rw [HOK.out]
  obtain ⟨k0, k1, k2, hz1, hB⟩ := entry3 hb1
  obtain ⟨c1, f1⟩ := blk k1
  obtain ⟨c2, f2⟩ := blk k2
  replace hB := hid hB
  clear hb1 k0 k1 k2
  go_wp2
  exact bodyPost_ret (v := .tuple #[.agg #[.int .i64 0, .int .i64 0, .slice none 0 0, .bool false, .int .i64 0], .agg #[.int .i64 0, .int .i64 0], .bool false]) (by simp [results, Tryd.results42, go_sem, c1, c2]) rfl ⟨rfl, (by repeat (first | (with_reducible exact Hid.out (by assumption)) | (with_reducible assumption) | (with_reducible exact Below.refl _ _) | (with_reducible refine Below.alloc ?_ (by first | omega | (simp; done) | (simp; omega)) _) | (with_reducible refine Below.setCell ?_ (by first | omega | (simp; done) | (simp; omega)) _) | (with_reducible refine Below.drew ?_) | (with_reducible refine below_drewN ?_ _) | exact Below.refl _ _ | assumption | exact Hid.out (by assumption)))⟩

set_option maxHeartbeats 1000000 in
theorem RecvTake_nil (r t : Int) (v : Value) (o : Bool) (a : Int) (w : World) (hv : Sl w 2 v ([] : List (Int × Int)).length (EL.gots []).enc) (hok : rcvV ⟨r, t, [], o, a⟩ = true) (hgw : Gw w) :
    Calls Tryd.prog 42 #[.agg #[.int .i64 r, .int .i64 t, v, .bool o, .int .i64 a]] w fun e w' => e = .returned (.tuple #[.agg #[.int .i64 0, .int .i64 0, .slice none 0 0, .bool false, .int .i64 0], .agg #[.int .i64 0, .int .i64 0], .bool false]) ∧ Below w.heap.size w w' := by
  have HOK := hid hok
  obtain ⟨a0, cap, rfl, -⟩ := hv.form
  have HV := hid hv
  clear hv hok
  go_enter Tryd.func42, Tryd.ntmps42
  go_wp2_with fail
  refine (RecvValid_any _ _ _ _ _ _ _ (HV.out.below (below_alloc3 _ _ _ _)) (by simp) (hgw.below (below_alloc3 _ _ _ _))).mono ?_
  rintro e w1 ⟨rfl, hb1⟩
  rw [HOK.out]
  obtain ⟨k0, k1, k2, hz1, hB⟩ := entry3 hb1
  have HI := hid (HV.out.below hB)
  obtain ⟨c0, f0⟩ := blk k0; replace k0 := hid k0
  replace k1 := hid k1
  replace k2 := hid k2
  replace hB := hid hB
  clear hb1
  go_wp2_with fail
  refine (gotListOf_any _ [] _ HI.out (by simp)).mono ?_
  rintro e w2 ⟨rr, rfl, hgl, hb2⟩
  have HR := hid hgl
  first | (replace k0 := hid (look_below hb2 (by first | omega | (simp; done) | (simp; omega)) k0.out)) | (replace k0 := hid (look_below hb2 (by first | omega | (simp; done) | (simp; omega)) (look_old k0.out)))
  first | (replace k1 := hid (look_below hb2 (by first | omega | (simp; done) | (simp; omega)) k1.out)) | (replace k1 := hid (look_below hb2 (by first | omega | (simp; done) | (simp; omega)) (look_old k1.out)))
  first | (replace k2 := hid (look_below hb2 (by first | omega | (simp; done) | (simp; omega)) k2.out)) | (replace k2 := hid (look_below hb2 (by first | omega | (simp; done) | (simp; omega)) (look_old k2.out)))
  replace hB := hid (below_of hB.out hb2)
  have hz2 := hb2.size
  clear hgl hb2 c0 f0
  go_wp2_with fail
  refine (gtake_nil rr w1.heap.size _ HR.out hz2).mono ?_
  rintro e w3 ⟨rfl, hb3⟩
  have hz3 := hb3.size
  first | (replace k1 := hid (look_below hb3 (by first | omega | (simp; done) | (simp; omega)) k1.out)) | (replace k1 := hid (look_below hb3 (by first | omega | (simp; done) | (simp; omega)) (look_old k1.out)))
  first | (replace k2 := hid (look_below hb3 (by first | omega | (simp; done) | (simp; omega)) k2.out)) | (replace k2 := hid (look_below hb3 (by first | omega | (simp; done) | (simp; omega)) (look_old k2.out)))
  replace hB := hid ((hB.out.trans (hb3.mono (by omega))))
  clear hb3
  obtain ⟨c1, f1⟩ := blk k1.out; have z1 := (Array.getElem?_eq_some_iff.1 k1.out).1
  obtain ⟨c2, f2⟩ := blk k2.out; have z2 := (Array.getElem?_eq_some_iff.1 k2.out).1
  go_wp2
  exact bodyPost_ret (v := .tuple #[.agg #[.int .i64 0, .int .i64 0, .slice none 0 0, .bool false, .int .i64 0], .agg #[.int .i64 0, .int .i64 0], .bool false]) (by simp [results, Tryd.results42, go_sem, c1, c2, z1, z2]) rfl ⟨rfl, (by repeat (first | (with_reducible exact Hid.out (by assumption)) | (with_reducible assumption) | (with_reducible exact Below.refl _ _) | (with_reducible refine Below.alloc ?_ (by first | omega | (simp; done) | (simp; omega)) _) | (with_reducible refine Below.setCell ?_ (by first | omega | (simp; done) | (simp; omega)) _) | (with_reducible refine Below.drew ?_) | (with_reducible refine below_drewN ?_ _) | exact Below.refl _ _ | assumption | exact Hid.out (by assumption)))⟩

/-- The argument of a function on receivers. -/
theorem rcv_arg {w : World} {r t : Int} {l : List (Int × Int)} {o : Bool} {a : Int} {us : List Value} (h : rds w [.int, .int, .gots, .bool, .int] (r, t, l, o, a, ()) us) : ∃ v, us = [.int .i64 r, .int .i64 t, v, .bool o, .int .i64 a] ∧ Sl w 2 v l.length (EL.gots l).enc ∧ l.length ≤ 1099511627776 := by
  match us, h with
  | [x1, x2, x3, x4, x5], ⟨h1, h2, ⟨h3, h3'⟩, h4, h5, _⟩ => exact ⟨x3, by rw [show x1 = _ from h1, show x2 = _ from h2, show x4 = _ from h4, show x5 = _ from h5], h3, h3'⟩
theorem con_i_RecvTake : Con Tryd.prog 42 [.inr [.int, .int, .gots, .bool, .int]] (fun ⟨⟨r, t, l, o, a, _⟩, _⟩ K => K (rtakeR ⟨r, t, l, o, a⟩).d) := by
  rintro ⟨⟨r, t, l, o, a, _⟩, _⟩ K hK w vs hr hg
  replace hK : K (rtakeR ⟨r, t, l, o, a⟩).d := hK
  obtain ⟨v, rfl, hv, hl⟩ : ∃ v, vs = #[.agg #[.int .i64 r, .int .i64 t, v, .bool o, .int .i64 a]] ∧ Sl w 2 v l.length (EL.gots l).enc ∧ l.length ≤ 1099511627776 := by
    cases hvs : vs.toList with
    | nil => rw [hvs] at hr; exact hr.elim
    | cons x rest =>
      rw [hvs] at hr
      match rest, hr with
      | [], ⟨⟨us, ex, hu⟩, _⟩ =>
        subst ex
        obtain ⟨v, e, h1, h2⟩ := rcv_arg hu
        exact ⟨v, Array.toList_inj.1 (by rw [hvs, show us = #[.int .i64 r, .int .i64 t, v, .bool o, .int .i64 a] from Array.toList_inj.1 e]), h1, h2⟩
  have none0 : ∀ (w' : World), Below w.heap.size w w' → rtakeR ⟨r, t, l, o, a⟩ = ⟨rcv0, (0, 0), false⟩ → ∃ d v, Ending.returned (.tuple #[.agg #[.int .i64 0, .int .i64 0, .slice none 0 0, .bool false, .int .i64 0], .agg #[.int .i64 0, .int .i64 0], .bool false]) = .returned v ∧ K d ∧ Below w.heap.size w w' ∧ ∃ bs, frV w' w.heap.size d v bs ∧ bs.Nodup := by
    intro w' hb he
    rw [he] at hK
    exact ⟨_, _, rfl, hK, hb, [], ⟨_, rfl, [], [], rfl, ⟨_, rfl, [], [], rfl, ⟨rfl, rfl, rfl⟩, [], [], rfl, ⟨rfl, rfl, rfl⟩, [], [], rfl, ⟨World.ownsRow_nil _ _ _ _, Nat.zero_le _, rfl⟩, [], [], rfl, ⟨rfl, rfl, rfl⟩, [], [], rfl, ⟨rfl, rfl, rfl⟩, rfl⟩,
      [], [], rfl, ⟨_, rfl, [], [], rfl, ⟨rfl, rfl, rfl⟩, [], [], rfl, ⟨rfl, rfl, rfl⟩, rfl⟩, [], [], rfl, ⟨rfl, rfl, rfl⟩, rfl⟩, List.nodup_nil⟩
  cases hok : rcvV ⟨r, t, l, o, a⟩ with
  | false =>
    refine (RecvTake_bad r t v l o a w hv hl hok hg).mono ?_
    rintro e w' ⟨rfl, hb⟩
    exact none0 w' hb (by simp [rtakeR, hok])
  | true =>
    cases l with
    | nil =>
      refine (RecvTake_nil r t v o a w hv hok hg).mono ?_
      rintro e w' ⟨rfl, hb⟩
      exact none0 w' hb (by simp [rtakeR, hok])
    | cons g l =>
      refine (RecvTake_some r t v g l o a w hv hl hok hg).mono ?_
      rintro e w' ⟨a', c, rfl, hb, ho⟩
      have he : rtakeR ⟨r, t, g :: l, o, a⟩ = ⟨⟨r, t, l, o, 0⟩, g, true⟩ := by simp [rtakeR, hok]
      rw [he] at hK
      refine ⟨_, _, rfl, hK, hb, (Value.slice a' l.length c).ownBlock.toList, ⟨_, rfl, (Value.slice a' l.length c).ownBlock.toList, [], (List.append_nil _).symm, ⟨_, rfl, [], _, rfl, ⟨rfl, rfl, rfl⟩, [], _, rfl, ⟨rfl, rfl, rfl⟩, _, [], (List.append_nil _).symm, ⟨ho, ?_, rfl⟩, [], [], rfl, ⟨rfl, rfl, rfl⟩, [], [], rfl, ⟨rfl, rfl, rfl⟩, rfl⟩,
        [], [], rfl, ⟨_, rfl, [], [], rfl, ⟨rfl, rfl, rfl⟩, [], [], rfl, ⟨rfl, rfl, rfl⟩, rfl⟩, [], [], rfl, ⟨rfl, rfl, rfl⟩, rfl⟩, by cases (Value.slice a' l.length c).ownBlock <;> simp⟩
      simp at hl
      show l.length ≤ 1099511627776
      omega
def c_i_RecvTake : CS := csOf [.inr [.int, .int, .gots, .bool, .int]] (fun ⟨⟨r, t, l, o, a, _⟩, _⟩ K => K (rtakeR ⟨r, t, l, o, a⟩).d)
theorem c_i_RecvTake_ok : CSok Tryd.prog 42 c_i_RecvTake := cs_ok (by kernel_rfl) con_i_RecvTake

end Go.Proofs.YtkhggobpanfkfaaDoor
