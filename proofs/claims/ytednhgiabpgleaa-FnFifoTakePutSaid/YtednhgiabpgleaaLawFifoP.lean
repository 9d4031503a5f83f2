/-
  The walk of the law FnFifoTakePut.
-/
import Derived.Test.YtednhgiabpgleaaLawFifo
import Derived.Test.YtednhgiabpgleaaFifoP
namespace Go.Proofs.Ytednhgiabpgleaa
open Go.RowKit

theorem fifoB_mono {room : Int} {l m : List Int} (h : fifoB room l = true) (h2 : (m.length : Int) ≤ room) (h3 : allB m = true) : fifoB room m = true := by
  simp only [fifoB, Bool.and_eq_true, decide_eq_true_eq] at h ⊢
  exact ⟨⟨h.1.1, h2⟩, h3⟩
theorem allB_drop_app {l : List Int} (h : allB l = true) (k : Nat) {b : Int} (hb : byteB b = true) : allB (l.drop k ++ [b]) = true := by
  simp only [allB, List.all_append, List.all_cons, List.all_nil, Bool.and_true, Bool.and_eq_true, List.all_eq_true] at h ⊢
  exact ⟨fun x hx => h x (List.mem_of_mem_drop hx), hb⟩
theorem fifoB_all {room : Int} {l : List Int} (h : fifoB room l = true) : allB l = true ∧ (l.length : Int) ≤ room := by
  simp only [fifoB, Bool.and_eq_true, decide_eq_true_eq] at h
  exact ⟨h.2, h.1.2⟩

set_option maxRecDepth 10000 in
set_option maxHeartbeats 1600000 in
theorem FnFifoTakePut_any (v : Value) (w : World) (h : Code w v) :
    Calls Try.prog 4 #[v] w fun e w' => e = .returned (.bool true) ∧ Below w.heap.size w w' := by
  obtain ⟨a, n, cap, hv, hc, hr⟩ := h
  have HC := hid (show Code w v from ⟨a, n, cap, hv, hc, hr⟩)
  clear hr
  by_cases hbig : 1048576 < n
  · subst hv
    go_enter Try.func4, Try.ntmps4
    go_wp2
    go_ret
    exact ⟨rfl, Below.refl _ _⟩
  · have hsmall : ∃ a n cap, v = .slice a n cap ∧ n ≤ 1048576 := ⟨a, n, cap, hv, by omega⟩
    subst hv
    go_enter Try.func4, Try.ntmps4
    go_wp2_with fail
    refine (DrawFifoTake_any _ _ HC.out hsmall).mono ?_
    rintro e w1 ⟨room, a1, _, c1, l, rfl, rfl, hown, hn20, hB⟩
    have HI := hid hown.ints
    have hz := hB.size
    replace hB := hid hB
    clear hown hsmall HC
    go_wp2_with fail
    refine (FifoTake_any room _ l _ (HI.out.below (below_alloc _ _)) (by omega)).mono ?_
    rintro e w2 ⟨r, m, x, ok, a2, c2, hM, rfl, hb2, hown2⟩
    obtain ⟨k3, hz2, hb⟩ := entry1 hb2
    replace HI := hid (HI.out.below hb)
    have HJ := hid hown2.ints
    replace hB := hid (below_of hB.out hb)
    replace k3 := hid k3
    clear hb hb2 hown2
    obtain ⟨c3, f3⟩ := blk k3.out; have z3 := (Array.getElem?_eq_some_iff.1 k3.out).1
    go_wp2_with fail
    refine (sFifoTake_any room _ l _ (HI.out.below (below_alloc _ _)) (by omega)).mono ?_
    rintro e w3 ⟨r', m', x', ok', a3, d3, hM', rfl, hb3, hown3⟩
    rw [hM] at hM'
    simp only [Prod.mk.injEq] at hM'
    obtain ⟨rfl, rfl, rfl, rfl⟩ := hM'
    obtain ⟨k4, hz3, hb⟩ := entry1 hb3
    replace HI := hid (HI.out.below hb)
    replace HJ := hid (HJ.out.below hb)
    have HL := hid hown3.ints
    replace hB := hid (below_of hB.out hb)
    replace k3 := hid (look_below hb (by omega) k3.out)
    replace k4 := hid k4
    clear hb hb3 hown3 c3 f3 z3
    have hm := takeM_len _ _ hM
    obtain ⟨c3, f3⟩ := blk k3.out; have z3 := (Array.getElem?_eq_some_iff.1 k3.out).1
    obtain ⟨c4, f4⟩ := blk k4.out; have z4 := (Array.getElem?_eq_some_iff.1 k4.out).1
    go_wp2_with fail
    refine (sameFifo_any r r _ _ m m _ (HJ.out.below (below_alloc _ _)) (HL.out.below (below_alloc _ _)) (by omega)).mono ?_
    rintro e w4 ⟨rfl, hb4⟩
    obtain ⟨k5, hz4, hb⟩ := entry1 hb4
    replace HI := hid (HI.out.below hb)
    replace HJ := hid (HJ.out.below hb)
    replace HL := hid (HL.out.below hb)
    replace hB := hid (below_of hB.out hb)
    replace k3 := hid (look_below hb (by omega) k3.out)
    replace k4 := hid (look_below hb (by omega) k4.out)
    replace k5 := hid k5
    clear hb hb4 c3 f3 z3 c4 f4 z4
    obtain ⟨c3, f3⟩ := blk k3.out; have z3 := (Array.getElem?_eq_some_iff.1 k3.out).1
    obtain ⟨c4, f4⟩ := blk k4.out; have z4 := (Array.getElem?_eq_some_iff.1 k4.out).1
    obtain ⟨c5, f5⟩ := blk k5.out; have z5 := (Array.getElem?_eq_some_iff.1 k5.out).1
    simp only [decide_true, Bool.and_self]
    rcases takeM_cases room l with h1 | ⟨y, n', rfl, hok, h1⟩
    all_goals
      rw [h1] at hM
      simp only [Prod.mk.injEq] at hM
      obtain ⟨rfl, rfl, rfl, rfl⟩ := hM
    · go_wp2_with fail
      refine (sameFifo_any 0 0 _ _ [] [] _ HJ.out HL.out (by simp)).mono ?_
      rintro e w5 ⟨rfl, hb⟩
      replace hB := hid (below_of hB.out hb)
      go_wp2_with fail
      go_ret
      exact ⟨rfl, hB.out⟩
    · have hvalid : fifoB room n' = true := fifoB_tail hok
      obtain ⟨hall, -⟩ := fifoB_all hvalid
      obtain ⟨-, hroom⟩ := fifoB_all hok
      simp only [List.length_cons] at hroom hn20
      have hput : putM room n' 7 = (room, n' ++ [7], true) := by simp [putM, hvalid, show byteB 7 = true from rfl]; omega
      have HP := hid hput
      have hq : Hid (∀ wx, Below w4.heap.size w4 wx → ∀ k, k ≤ n'.length → ∃ g off, a1 = some ⟨g, off, none⟩ ∧ wx.cell? ⟨g, off + k, none⟩ = some (.int .i64 ((y :: n').getD k 0))) := fun wx hb k hk => by
        obtain ⟨a', cap', he, hc'⟩ := (HI.out.below hb).form
        simp only [Value.slice.injEq, true_and] at he
        obtain ⟨rfl, rfl⟩ := he
        exact hc' k (by simp; omega)
      clear hput HL k5 c5 f5 z5 HI h1
      simp only [List.length_cons] at c3
      replace k3 := hid k3.out
      go_wp2_with fail
      refine (FifoPut_any room _ n' 7 _ HJ.out (by omega)).mono ?_
      rintro e w5 ⟨r, m, ok, a5, d5, hM, rfl, hb5, hown⟩
      rw [HP.out] at hM
      simp only [Prod.mk.injEq] at hM
      obtain ⟨rfl, rfl, rfl⟩ := hM
      have HO := hid hown
      replace k3 := hid (look_below hb5 (by omega) k3.out)
      replace hB := hid (below_of hB.out hb5)
      replace hq := hid (fun wx hb => hq.out wx (below_of hb5 hb))
      have hz5 := hb5.size
      have HV := hid hvalid
      clear c3 f3 z3 hb5 hown k4 c4 f4 z4 HJ HP hvalid
      obtain ⟨L, hL⟩ : ∃ L, L = n'.length := ⟨_, rfl⟩
      simp only [List.length_append, List.length_cons, List.length_nil, Nat.zero_add]
      simp only [List.length_cons] at k3
      rw [← hL] at k3 hq hroom hn20 ⊢
      have HL := hid hL
      clear hL
      go_wp2_with fail
      go_loopw [12] (fun i wr => ∃ (k : Nat) (a : Option Addr) (c : Nat), k ≤ L ∧ i = .int .i64 ((k : Int) + 1) ∧ wr.heap[w5.heap.size]? = some (.cells #[.int .i64 room, .slice a (L - k + 1) c] 25 (0, 0)) ∧ OwnI wr w.heap.size (.slice a (L - k + 1) c) (n'.drop k ++ [7]) ∧ (∀ j, (Value.slice a (L - k + 1) c).ownBlock = some j → j ≠ w5.heap.size) ∧
          Below w.heap.size w wr ∧ Below w5.heap.size w5 wr) (fun i _ => L + 1 - (intOf i).toNat)
      case atStart =>
        refine ⟨0, a5, d5, Nat.zero_le _, rfl, ?_, ?_, ?_, (by repeat (first | exact Below.refl _ _ | assumption | exact Hid.out (by assumption) | refine Below.drew ?_ | refine below_drewN ?_ _ | refine Below.alloc ?_ (by first | omega | (simp; done) | (simp; omega)) _ | refine Below.setCell ?_ (by first | omega | (simp; done) | (simp; omega)) _)), ?_⟩
        · rw [Nat.sub_zero, HL.out]; exact look_new rfl
        · have := (HO.out.alloc (.cells #[.int .i64 room, .slice a5 (L + 1) d5] 25)).base (base' := w.heap.size) (by omega)
          simpa [HL.out] using this
        · intro j hj; have := (HO.out.lt j (by simpa [HL.out] using hj)).2; omega
        · exact below_alloc _ _
      case round =>
        obtain ⟨k, a, c, hk, rfl, kx, hO, -, hB, hB5⟩ := hrel
        have hI := hO.ints
        clear hO
        replace k3 := hid (look_below hB5 (by omega) k3.out)
        have hzr := hB5.size
        replace kx := hid kx
        replace hI := hid hI
        replace hB := hid hB
        have HB5 := hid hB5
        clear hB5
        obtain ⟨c3, f3⟩ := blk k3.out; have z3 := (Array.getElem?_eq_some_iff.1 k3.out).1
        obtain ⟨cx, fx⟩ := blk kx.out; have zx := (Array.getElem?_eq_some_iff.1 kx.out).1
        by_cases hlt : k < L
        · have hu : n'.drop k = n'.getD k 0 :: n'.drop (k + 1) := by
            have hL := HL.out
            rw [List.drop_eq_getElem_cons (by omega)]
            simp [List.getD, show k < n'.length by omega]
          obtain ⟨g, off, rfl, hcell⟩ := hq.out _ HB5.out (k + 1) (by omega)
          have hcell' : wr.cell? ⟨g, off + (k + 1), none⟩ = some (.int .i64 (n'.getD k 0)) := by rw [hcell]; simp
          have hc1 : k + 1 < L + 1 := by omega
          have HC := hid hcell'
          have hI' := hI.out
          rw [hu, List.cons_append] at hI'
          replace hI := hid hI'
          have hfv : fifoB room (n'.getD k 0 :: (n'.drop (k + 1) ++ [7])) = true := fifoB_mono hok (by have hL := HL.out; simp; omega) (by have := allB_drop_app hall k (b := 7) rfl; rwa [hu] at this)
          have hlen : (n'.drop (k + 1) ++ [7]).length = L - (k + 1) + 1 := by have hL := HL.out; simp; omega
          clear hcell hcell' hI' hu
          generalize n'.getD k 0 = u at hI hfv HC
          go_wp2_with fail
          refine (FifoTake_some room _ u (n'.drop (k + 1) ++ [7]) _ hI.out hfv).mono ?_
          rintro e wt ⟨at', ct, rfl, hbt, hot⟩
          rw [hlen] at hot ⊢
          have hcell := (hbt.cell (p := ⟨g, off + (k + 1), none⟩) (World.block_lt_of_cell? wr _ HC.out)).trans HC.out
          have hgl := World.block_lt_of_cell? wt _ hcell
          have hzt := hbt.size
          replace k3 := hid (look_below hbt (by omega) k3.out)
          replace kx := hid (look_below hbt (by omega) kx.out)
          replace hB := hid (below_of hB.out hbt)
          replace HB5 := hid (below_of HB5.out hbt)
          have hIt := hid hot
          have zr := zx
          have hzB := hB.out.size
          clear c3 f3 z3 cx fx zx hbt hot
          obtain ⟨c3, f3⟩ := blk k3.out; have z3 := (Array.getElem?_eq_some_iff.1 k3.out).1
          obtain ⟨cx, fx⟩ := blk kx.out; have zx := (Array.getElem?_eq_some_iff.1 kx.out).1
          go_wp2_with fail
          go_roundw
          case rel =>
            exact ⟨k + 1, at', ct, by omega, by go_num, look_old (look_set (look_set kx.out)), ((OwnI.set (hIt.out.set zr _) zr _).alloc _).base (by omega), fun j hj => by have := (hIt.out.lt j hj).1; omega, (by repeat (first | exact Below.refl _ _ | assumption | exact Hid.out (by assumption) | refine Below.drew ?_ | refine below_drewN ?_ _ | refine Below.alloc ?_ (by first | omega | (simp; done) | (simp; omega)) _ | refine Below.setCell ?_ (by first | omega | (simp; done) | (simp; omega)) _)), (by repeat (first | exact Below.refl _ _ | assumption | exact Hid.out (by assumption) | refine Below.drew ?_ | refine below_drewN ?_ _ | refine Below.alloc ?_ (by first | omega | (simp; done) | (simp; omega)) _ | refine Below.setCell ?_ (by first | omega | (simp; done) | (simp; omega)) _))⟩
          case measure => simp [intOf]; omega
        · obtain rfl : k = L := by omega
          clear hq hlt
          have hI7 := hI.out
          rw [HL.out, List.drop_length, List.nil_append] at hI7
          have h7 : fifoB room [7] = true := fifoB_mono hok (by simp; omega) rfl
          replace hI := hid hI7
          have kx' := kx.out
          simp only [Nat.sub_self, Nat.zero_add] at hI kx'
          replace kx := hid kx'
          clear hI7 kx' cx fx zx
          obtain ⟨cx, fx⟩ := blk kx.out; have zx := (Array.getElem?_eq_some_iff.1 kx.out).1
          go_wp2_with fail
          refine (FifoTake_some room _ 7 [] _ hI.out h7).mono ?_
          rintro e wt ⟨at', ct, rfl, hbt, hot⟩
          replace hB := hid (below_of hB.out hbt)
          have hzB := hB.out.size
          go_wp2_with fail
          go_ret
          exact ⟨rfl, (by repeat (first | exact Below.refl _ _ | assumption | exact Hid.out (by assumption) | refine Below.drew ?_ | refine below_drewN ?_ _ | refine Below.alloc ?_ (by first | omega | (simp; done) | (simp; omega)) _ | refine Below.setCell ?_ (by first | omega | (simp; done) | (simp; omega)) _))⟩

end Go.Proofs.Ytednhgiabpgleaa
