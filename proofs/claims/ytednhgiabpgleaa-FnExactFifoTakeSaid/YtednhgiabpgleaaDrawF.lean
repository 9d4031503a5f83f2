/-
  The drawn queues: l6Open, l91Fifo, DrawFifoTake.
-/
import Derived.Test.YtednhgiabpgleaaPick
namespace Go.Proofs.Ytednhgiabpgleaa
open Go.RowKit

/-- The argument of a law: a slice of bytes that came in. -/
def Code (w : World) (v : Value) : Prop := ∃ a n cap, v = .slice a n cap ∧ n ≤ cap ∧ RdB w.heap.size w a n

set_option maxHeartbeats 400000 in
theorem l6Open_any (v : Value) (w : World) (h : Code w v) (hl : ∃ a n cap, v = .slice a n cap ∧ n ≤ 1048576) :
    Calls Try.prog 56 #[v] w fun e w' => ∃ r, e = .returned (.pointer (some ⟨r, 0, none⟩)) ∧ w.heap.size ≤ r ∧ Rd w.heap.size w' r 0 ∧ Below w.heap.size w w' := by
  obtain ⟨a, n, cap, rfl, hc, hr⟩ := h
  obtain ⟨_, _, _, he, hl⟩ := hl
  simp only [Value.slice.injEq] at he
  obtain ⟨rfl, rfl, rfl⟩ := he
  have HR := hid hr
  clear hr
  by_cases hn : 2000 < n
  · go_enter Try.func56, Try.ntmps56
    go_wp2
    go_ret
    refine ⟨_, rfl, Nat.le_refl _, ⟨a, 2000, cap, look_new rfl, Nat.le_refl _, Nat.le_refl _, ?_⟩, below_alloc _ _⟩
    exact fun k hk => RdB.mono HR.out (fun g hg _ => (below_alloc w _).block g hg) k (by omega)
  · go_enter Try.func56, Try.ntmps56
    go_wp2
    go_ret
    exact ⟨_, rfl, Nat.le_refl _, ⟨a, n, cap, look_new rfl, Nat.le_refl _, by omega, RdB.mono HR.out (fun g hg _ => (below_alloc w _).block g hg)⟩, below_alloc _ _⟩

/-- What a queue that is being drawn is: the queue in block Q, the result in block w.heap.size, the reader in r. -/
structure StQ (B r Q : Nat) (w : World) (room : Int) (a : Option Addr) (n c : Nat) (l : List Int) (p : Nat) (wr : World) : Prop where
  q : wr.heap[Q]? = some (.cells #[.int .i64 room, .slice a n c] 25 (0, 0))
  len : l.length = n
  o : OwnI wr (w.heap.size + 1) (.slice a n c) l
  j : ∀ j, (Value.slice a n c).ownBlock = some j → j ≠ Q
  z : wr.heap[w.heap.size]? = some (.cells #[.int .i64 0, .slice none 0 0] 25 (0, 0))
  rd : Rd B wr r p
  g : w.grownBy wr (some r)

section
variable {B r Q : Nat} {w : World} {room : Int} {a : Option Addr} {n c : Nat} {l : List Int} {p : Nat} {wr : World}
theorem StQ.pick (h : StQ B r Q w room a n c l p wr) (hQ : w.heap.size < Q) (hr : r < w.heap.size) {p' : Nat} {w' : World} (hrd : Rd B w' r p') (hg : wr.grownBy w' (some r)) : StQ B r Q w room a n c l p' w' :=
  ⟨look_grown hg (by first | omega | (simp; done) | (simp; omega)) h.q, h.len, h.o.grown hg (.inr fun e => by have := h.o.lt _ e; omega), h.j, look_grown hg (by first | omega | (simp; done) | (simp; omega)) h.z, hrd, grown_trans h.g hg⟩
theorem StQ.alloc (h : StQ B r Q w room a n c l p wr) (o : Obj) : StQ B r Q w room a n c l p (wr.alloc o) :=
  ⟨look_old h.q, h.len, h.o.alloc o, h.j, look_old h.z, h.rd.below (below_alloc _ _), grown_alloc h.g o⟩
theorem StQ.drew (h : StQ B r Q w room a n c l p wr) : StQ B r Q w room a n c l p wr.drew :=
  ⟨h.q, h.len, h.o, h.j, h.z, h.rd, grown_drew h.g⟩
theorem StQ.lt (h : StQ B r Q w room a n c l p wr) : Q < wr.heap.size := (Array.getElem?_eq_some_iff.1 h.q).1
theorem StQ.row (h : StQ B r Q w room a n c l p wr) : ∀ j, (Value.slice a n c).ownBlock = some j → w.heap.size + 1 ≤ j := fun j hj => (h.o.lt j hj).1
/-- An append, and its store. -/
theorem StQ.app (h : StQ B r Q w room a n c l p wr) (hQ : w.heap.size < Q) (hr : r < w.heap.size) (hB : B ≤ r) {z : Int} {a2 : Option Addr} {c2 : Nat} {w4 : World} (hown : OwnI w4 (w.heap.size + 1) (.slice a2 (n + 1) c2) (l ++ [z])) (hg : wr.grownBy w4 (Value.slice a n c).ownBlock)
    (hb : (Value.slice a2 (n + 1) c2).ownBlock = (Value.slice a n c).ownBlock ∨ (Value.slice a2 (n + 1) c2).ownBlock = some wr.heap.size) :
    w4.heap[Q]? = some (.cells #[.int .i64 room, .slice a n c] 25 (0, 0)) ∧ StQ B r Q w room a2 (n + 1) c2 (l ++ [z]) p (w4.setCell ⟨Q, 1, none⟩ (.slice a2 (n + 1) c2)) := by
  have hB2 := h.row
  have hlt := h.lt
  have hQ2 := h.j
  have kQ := look_grown hg (fun e => hQ2 _ e.symm rfl) h.q
  refine ⟨kQ, ⟨look_set kQ, by simp [h.len], OwnI.set_ne hown ?_ _, ?_, look_ne (by simp; omega) (look_grown hg (fun e => by have := hB2 _ e.symm; omega) h.z), ?_, ?_⟩⟩
  · exact fun j hj => hb.elim (fun e => hQ2 j (e ▸ hj)) (fun e => by rw [e] at hj; simp at hj; omega)
  · exact fun j hj => hb.elim (fun e => hQ2 j (e ▸ hj)) (fun e => by rw [e] at hj; simp at hj; omega)
  · exact (h.rd.grown hg (fun e => by have := hB2 _ e.symm; omega) (fun j hj => by have := hB2 j hj; omega)).set (by simp; omega) (by simp; omega) _
  · exact grown_new (grown_own h.g hg (fun j hj => by have := hB2 j hj; omega)) (by simp; omega) _
/-- The result is written: from the queue in Q. -/
theorem StQ.finish0 (h : StQ B r Q w room a n c l p wr) (hr : r < w.heap.size) (hB : B ≤ r) (hn : n ≤ 20) {p0 : Nat} (hp : p ≤ p0) :
    ∃ (room' : Int) (a' : Option Addr) (n' c' : Nat) (l' : List Int) (p' : Nat), Ending.returned (.agg #[.int .i64 room, .slice a n c]) = .returned (.agg #[.int .i64 room', .slice a' n' c']) ∧ n' = l'.length ∧ OwnI ((wr.setCell ⟨w.heap.size, 0, none⟩ (.int .i64 room)).setCell ⟨w.heap.size, 1, none⟩ (.slice a n c)) w.heap.size (.slice a' n' c') l' ∧ n' ≤ 20 ∧
      Rd B ((wr.setCell ⟨w.heap.size, 0, none⟩ (.int .i64 room)).setCell ⟨w.heap.size, 1, none⟩ (.slice a n c)) r p' ∧ p' ≤ p0 ∧ w.grownBy ((wr.setCell ⟨w.heap.size, 0, none⟩ (.int .i64 room)).setCell ⟨w.heap.size, 1, none⟩ (.slice a n c)) (some r) :=
  ⟨room, a, n, c, l, p, rfl, h.len.symm, OwnI.base (OwnI.set (OwnI.set h.o (by simp) _) (by simp) _) (by omega), hn, (h.rd.set (by simp; omega) (by simp; omega) _).set (by simp; omega) (by simp; omega) _, hp, grown_new (grown_new h.g (by simp) _) (by simp) _⟩
theorem StQ.finish (h : StQ B r Q w room a n c l p wr) (hQ : w.heap.size < Q) (hr : r < w.heap.size) (hB : B ≤ r) (hn : n ≤ 20) {p0 : Nat} (hp : p ≤ p0) {x : Int} :
    ∃ (room' : Int) (a' : Option Addr) (n' c' : Nat) (l' : List Int) (p' : Nat), Ending.returned (.agg #[.int .i64 x, .slice a n c]) = .returned (.agg #[.int .i64 room', .slice a' n' c']) ∧ n' = l'.length ∧ OwnI (((wr.setCell ⟨Q, 0, none⟩ (.int .i64 x)).setCell ⟨w.heap.size, 0, none⟩ (.int .i64 x)).setCell ⟨w.heap.size, 1, none⟩ (.slice a n c)) w.heap.size (.slice a' n' c') l' ∧ n' ≤ 20 ∧
      Rd B (((wr.setCell ⟨Q, 0, none⟩ (.int .i64 x)).setCell ⟨w.heap.size, 0, none⟩ (.int .i64 x)).setCell ⟨w.heap.size, 1, none⟩ (.slice a n c)) r p' ∧ p' ≤ p0 ∧ w.grownBy (((wr.setCell ⟨Q, 0, none⟩ (.int .i64 x)).setCell ⟨w.heap.size, 0, none⟩ (.int .i64 x)).setCell ⟨w.heap.size, 1, none⟩ (.slice a n c)) (some r) :=
  ⟨x, a, n, c, l, p, rfl, h.len.symm, OwnI.base (OwnI.set (OwnI.set (OwnI.set_ne h.o h.j _) (by simp) _) (by simp) _) (by omega), hn, ((h.rd.set (by simp; omega) (by simp; omega) _).set (by simp; omega) (by simp; omega) _).set (by simp; omega) (by simp; omega) _, hp, grown_new (grown_new (grown_new h.g (by simp; omega) _) (by simp) _) (by simp) _⟩
end

set_option maxHeartbeats 1600000 in
theorem l91Fifo_any (B r p : Nat) (w : World) (h : Rd B w r p) (hp : p ≤ 1000000) :
    Calls Try.prog 55 #[.pointer (some ⟨r, 0, none⟩)] w fun e w' => ∃ (room : Int) (a : Option Addr) (n c : Nat) (l : List Int) (p' : Nat), e = .returned (.agg #[.int .i64 room, .slice a n c]) ∧ n = l.length ∧ OwnI w' w.heap.size (.slice a n c) l ∧ n ≤ 20 ∧
      Rd B w' r p' ∧ p' ≤ p + 40 ∧ w.grownBy w' (some r) := by
  have HR := hid h
  obtain ⟨hBr, hrw⟩ := h.lt
  clear h
  go_enter Try.func55, Try.ntmps55
  go_wp2_with fail
  refine (pick_any B r p 8 _ (HR.out.below (below_alloc _ _)) (by omega) (by omega)).mono ?_
  rintro e w1 ⟨x, rfl, hx0, hx1, hrd, hg⟩
  have HR1 := hid hrd
  have hz1 := hg.size
  simp at hz1
  have k0 := hid (look_grown hg (by first | omega | (simp; done) | (simp; omega)) (look_new (w := w) rfl))
  have hG := hid (grown_trans (grown_of_below (below_alloc w _) (some r)) hg)
  clear hrd hg
  go_wp2_with fail
  refine (pick_any B r (p + 1) _ _ (by repeat (first | exact HR1.out | refine Rd.set ?_ (by first | omega | (simp; done) | (simp; omega)) (by first | omega | (simp; done) | (simp; omega)) _ | exact Rd.below (w := _) (by assumption) (below_alloc _ _) | refine Rd.below ?_ (below_alloc _ _))) (by omega) (by omega)).mono ?_
  rintro e w2 ⟨y, rfl, hy0, hy1, hrd, hg⟩
  obtain ⟨n, rfl⟩ := Int.eq_ofNat_of_zero_le hy0
  have hn : n ≤ 10 := by omega
  obtain ⟨room, hroom⟩ : ∃ room, room = 1 + x := ⟨_, rfl⟩
  have hz2 := hg.size
  simp at hz2
  have kQ := look_grown hg (k := w1.heap.size + 1) (by first | omega | (simp; done) | (simp; omega)) (look_new (by first | omega | (simp; done) | (simp; omega)))
  rw [← hroom] at kQ
  have kL := look_grown hg (k := w1.heap.size) (by first | omega | (simp; done) | (simp; omega)) (look_old (look_new rfl))
  have hS : StQ B r (w1.heap.size + 1) w room (some ⟨w1.heap.size, 0, none⟩) 0 0 [] (p + 2) w2 :=
    ⟨kQ, rfl, ⟨rfl, .inr ⟨w1.heap.size, 0, _, rfl, by omega, kL, Nat.le_refl _, Nat.zero_le _, by simp, rfl⟩⟩, by intro j hj; simp [Value.ownBlock] at hj; omega, look_grown hg (k := w.heap.size) (by first | omega | (simp; done) | (simp; omega)) (look_old (look_old k0.out)), hrd, grown_trans hG.out (grown_trans (grown_of_below (below_alloc2 w1 _ _) (some r)) hg)⟩
  obtain ⟨Q, hQ⟩ : ∃ Q, Q = w1.heap.size + 1 := ⟨_, rfl⟩
  rw [← hQ] at hS
  have HS := hid hS
  have hQw : w.heap.size < Q := by omega
  clear hrd hg kL hroom k0 hy1 hy0 hx1 kQ hS hG HR1
  rw [← hQ]
  clear hQ
  go_wp2_with fail
  go_loopw [5] (fun i wr => ∃ (k : Nat) (a : Option Addr) (c : Nat) (l : List Int), k ≤ n ∧ i = .int .i64 k ∧ StQ B r Q w room a k c l (p + 2 + k) wr) (fun i _ => n - (intOf i).toNat)
  case atStart => exact ⟨0, _, _, [], Nat.zero_le _, rfl, HS.out⟩
  case round =>
    obtain ⟨k, a, c, l, hk, rfl, hS⟩ := hrel
    have kQ := hid hS.q
    obtain ⟨cQ, fQ⟩ := blk kQ.out; have zQ := (Array.getElem?_eq_some_iff.1 kQ.out).1
    have hQl := hS.lt
    replace hS := hid hS
    by_cases hlt : k < n
    · go_wp2_with fail
      refine wp_region_E (fun b => b = Q) (.op 0 0 (.op 1 0 (.op 2 0 (.op 3 1 (.op 4 1 (.op 5 1 (.op 6 0 (.op 7 2 (.nil))))))))) (by kernel_rfl) rfl (by kernel_rfl) (by kernel_rfl) (by kernel_rfl) (fun _ _ d _ _ h => by cases d <;> exact h) ?_
      go_wp2_with (first
    | (refine wpE_soft (by rfl) (by rfl) (by rfl) (by rfl) ?_; intro K hK)
    | (refine wpE_field (by rfl) (by rfl) (by rfl) (by kernel_rfl) ?_; intro K hK)
    | (refine wpE_conv (k := .i64) (by rfl) (by rfl) (by rfl) (by rfl) (by kernel_rfl) ?_; intro K hK)
    | (refine wpE_load (by rfl) (by rfl) (by rfl) (by rfl) (by first | trivial | (simp; done) | (simp; omega) | omega) (by first | (simp [*]; done) | go_simp) ?_; intro K hK)
    | (refine wpE_late (by rfl) (by rfl) ?_; intro K hK)
    | (refine wpE_skip (by rfl) (by rfl) ?_)
    | (refine wpE_nil ?_))
      refine wpE_eff (by rfl) (by rfl) ?_; intro K hK
      go_wp2_with fail
      refine (pick_any B r (p + 2 + k) 256 _ (by exact hS.out.rd) (by omega) (by omega)).mono ?_
      rintro e w3 ⟨z, rfl, hz0, hz1, hrd, hg⟩
      have hQr : Q ≠ r := by omega
      have hrw3 := hg.size
      simp only [size_drew] at hrw3
      go_wp2_with fail
      refine ⟨Ex.grown hg (fun j hj _ hp => hQr (hp ▸ (Option.some.inj hj).symm)), ?_⟩
      replace hS := hid (hS.out.pick hQw hrw hrd (grown_undrew hg))
      clear hg hrd cQ fQ
      refine wpE_eff (by rfl) (by rfl) ?_; intro K hK; go_wp2_with fail; refine ⟨(by first | exact Ex.alloc _ _ _ | exact (Ex.alloc _ _ _).drew), ?_⟩
      refine wpE_eff (by rfl) (by rfl) ?_; intro K hK
      refine wp_append_ints (.tmp 22) (.tmp 25) rfl (w.heap.size + 1) (.slice a k c) l rfl (hS.out.o.alloc _) _ [z] rfl (Ints.lit1 w3 _) (by simp; have := hS.out.len; omega) (by have := hS.out.g.size; simp; omega) ?_
      intro a2 c2 w4 hown2 hg2 hblk
      have hlen : (l ++ [z]).length = k + 1 := by have := hS.out.len; simp; omega
      rw [hlen] at hown2 hblk ⊢
      refine hK _ _ ⟨Ex.grown hg2 (fun j hj _ hp => hS.out.j j hj hp), ?_⟩
      obtain ⟨kQ', hS'⟩ := (hS.out.alloc _).app hQw hrw hBr hown2 hg2 hblk
      replace kQ := hid kQ'
      replace hS := hid hS'
      clear kQ' hS' hown2 hg2 hblk
      obtain ⟨cQ, fQ⟩ := blk kQ.out; have zQ := (Array.getElem?_eq_some_iff.1 kQ.out).1
      go_wp2_with (first
    | (refine wpE_soft (by rfl) (by rfl) (by rfl) (by rfl) ?_; intro K hK)
    | (refine wpE_field (by rfl) (by rfl) (by rfl) (by kernel_rfl) ?_; intro K hK)
    | (refine wpE_conv (k := .i64) (by rfl) (by rfl) (by rfl) (by rfl) (by kernel_rfl) ?_; intro K hK)
    | (refine wpE_load (by rfl) (by rfl) (by rfl) (by rfl) (by first | trivial | (simp; done) | (simp; omega) | omega) (by first | (simp [*]; done) | go_simp) ?_; intro K hK)
    | (refine wpE_late (by rfl) (by rfl) ?_; intro K hK)
    | (refine wpE_skip (by rfl) (by rfl) ?_)
    | (refine wpE_nil ?_))
      go_roundw
      case rel => exact ⟨k + 1, a2, c2, l ++ [z], by omega, by go_num, hS.out⟩
      case measure => simp [intOf]; omega
    · obtain rfl : k = n := by omega
      clear hk hlt cQ fQ
      go_wp2_with fail
      refine (pick_any B r (p + 2 + k) 30 _ (by exact hS.out.rd) (by omega) (by omega)).mono ?_
      rintro e w3 ⟨z, rfl, hz0, hz1, hrd, hg⟩
      have hQr : Q ≠ r := by omega
      have hrw3 := hg.size
      replace hS := hid (hS.out.pick hQw hrw hrd (by first | exact hg | exact grown_undrew hg))
      clear hg hrd
      by_cases h0 : z = 0
      · subst h0
        go_wp2_with fail
        refine (pick_any B r (p + 2 + k + 1) 3 _ ((hS.out.alloc _).rd) (by omega) (by omega)).mono ?_
        rintro e w4 ⟨y, rfl, hy0, hy1, hrd, hg⟩
        have hy : y = 0 ∨ y = 1 ∨ y = 2 := by omega
        have kL := look_grown hg (k := w3.heap.size) (by first | omega | (simp; done) | (simp; omega)) (look_new rfl)
        obtain ⟨cL, fL⟩ := blk kL
        replace hS := hid ((hS.out.alloc _).pick hQw hrw hrd hg)
        clear hg hrd kL hy0 hy1
        replace kQ := hid hS.out.q
        have k0 := hid hS.out.z
        obtain ⟨cQ, fQ⟩ := blk kQ.out; have zQ := (Array.getElem?_eq_some_iff.1 kQ.out).1
        obtain ⟨c0, f0⟩ := blk k0.out; have z0 := (Array.getElem?_eq_some_iff.1 k0.out).1
        have hlen := hS.out.len
        have hrow := hid hS.out.row
        rcases hy with rfl | rfl | rfl
        all_goals
          go_wp2_with fail
        · exact bodyPost_ret (v := .agg #[.int .i64 0, .slice a k c]) (by simp [results, Try.results55, go_sem, c0]) rfl (hS.out.finish hQw hrw hBr (by omega) (by omega))
        · exact bodyPost_ret (v := .agg #[.int .i64 16, .slice a k c]) (by simp [results, Try.results55, go_sem, c0]) rfl (hS.out.finish hQw hrw hBr (by omega) (by omega))
        · exact bodyPost_ret (v := .agg #[.int .i64 17, .slice a k c]) (by simp [results, Try.results55, go_sem, c0]) rfl (hS.out.finish hQw hrw hBr (by omega) (by omega))
      · have h0' : (z == 0) = false := by rw [beq_eq_false_iff_ne]; omega
        replace kQ := hid hS.out.q
        have k0 := hid hS.out.z
        obtain ⟨cQ, fQ⟩ := blk kQ.out; have zQ := (Array.getElem?_eq_some_iff.1 kQ.out).1
        by_cases h1 : z = 1
        · subst h1
          go_wp2_with fail
          have hrow : Hid (∀ j, (Value.slice a k c).ownBlock = some j → j < w3.heap.size) := fun j hj => (hS.out.o.lt j hj).2
          have hlen := hS.out.len
          refine wp_region_E (fun b => b = Q ∨ w3.heap.size ≤ b) (.op 0 0 (.op 1 0 (.op 3 0 (.fork 2 1 (.op 4 1 (.op 5 0 (.op 6 0 (.op 7 1 (.op 8 1 (.op 9 0 (.op 10 2 (.nil)))))))) 4 1 (.op 2 1 (.op 5 0 (.op 6 0 (.op 7 1 (.op 8 1 (.op 9 0 (.op 10 2 (.nil)))))))))))) (by kernel_rfl) rfl (by kernel_rfl) (by kernel_rfl) (by kernel_rfl) (fun _ _ d _ _ h => by cases d <;> exact h) ?_
          go_wp2_with (first
    | (refine wpE_soft (by rfl) (by rfl) (by rfl) (by rfl) ?_; intro K hK)
    | (refine wpE_field (by rfl) (by rfl) (by rfl) (by kernel_rfl) ?_; intro K hK)
    | (refine wpE_conv (k := .i64) (by rfl) (by rfl) (by rfl) (by rfl) (by kernel_rfl) ?_; intro K hK)
    | (refine wpE_load (by rfl) (by rfl) (by rfl) (by rfl) (by first | trivial | (simp; done) | (simp; omega) | omega) (by first | (simp [*]; done) | go_simp) ?_; intro K hK)
    | (refine wpE_late (by rfl) (by rfl) ?_; intro K hK)
    | (refine wpE_skip (by rfl) (by rfl) ?_)
    | (refine wpE_nil ?_))
          have lit3 : ∀ y : Nat, y < 3 → ∃ u : Int, #[Value.int .i64 (-1), .int .i64 5, .int .i64 256][y]? = some (.int .i64 u) := by
            intro y hy
            have : y = 0 ∨ y = 1 ∨ y = 2 := by omega
            rcases this with rfl | rfl | rfl <;> exact ⟨_, rfl⟩
          refine wpE_fork (by rfl) (by rfl) (by rfl) (by rfl) ?one ?two
          case' one =>
            intro K hK
            go_wp2_with fail
            refine ⟨Ex.drew (Ex.alloc _ _ _), ?_⟩
            refine wpE_eff (by rfl) (by rfl) ?_; intro K hK
            go_wp2_with fail
            refine (pick_any B r (p + 2 + k + 1) 3 _ (by exact (hS.out.alloc (.cells #[.int .i64 (-1), .int .i64 5, .int .i64 256] 3)).rd) (by omega) (by omega)).mono ?_
            rintro e w4 ⟨y, rfl, hy0, hy1, hrd, hg⟩
            obtain ⟨y, rfl⟩ := Int.eq_ofNat_of_zero_le hy0
            obtain ⟨u, hu⟩ := lit3 y (by omega)
            have hzw := hg.size
            simp only [size_drew, size_alloc] at hzw
            have kL := look_grown hg (k := w3.heap.size) (by first | omega | (simp; done) | (simp; omega)) (look_new (w := w3) rfl)
            have hcell := ((blk kL).1 y).trans hu
            go_wp2_with fail
            refine ⟨Ex.grown hg (fun j hj hlt hp => by have := Option.some.inj hj; simp at hlt; omega), ?_⟩
            replace hS := hid ((hS.out.alloc (.cells #[.int .i64 (-1), .int .i64 5, .int .i64 256] 3)).pick hQw hrw hrd (grown_undrew hg))
            clear hg hrd hu kL
          case' two =>
            intro K hK
            go_wp2_with fail
            refine (pick_any B r (p + 2 + k + 1) 3 _ (by exact hS.out.rd) (by omega) (by omega)).mono ?_
            rintro e w4 ⟨y, rfl, hy0, hy1, hrd, hg⟩
            obtain ⟨y, rfl⟩ := Int.eq_ofNat_of_zero_le hy0
            obtain ⟨u, hu⟩ := lit3 y (by omega)
            have hzw := hg.size
            simp only [size_drew] at hzw
            go_wp2_with fail
            refine ⟨Ex.grown hg (fun j hj hlt hp => by have := Option.some.inj hj; simp at hlt; omega), ?_⟩
            refine wpE_eff (by rfl) (by rfl) ?_; intro K hK; go_wp2_with fail; refine ⟨(by first | exact Ex.alloc _ _ _ | exact (Ex.alloc _ _ _).drew), ?_⟩
            have kL := look_new (w := w4) (o := .cells #[.int .i64 (-1), .int .i64 5, .int .i64 256] 3) (k := w4.heap.size) rfl
            have hcell := ((blk kL).1 y).trans hu
            replace hS := hid ((hS.out.pick hQw hrw hrd (grown_undrew hg)).alloc (.cells #[.int .i64 (-1), .int .i64 5, .int .i64 256] 3))
            clear hg hrd hu kL
          all_goals
            clear cQ fQ kQ k0
            go_wp2_with (first
    | (refine wpE_soft (by rfl) (by rfl) (by rfl) (by rfl) ?_; intro K hK)
    | (refine wpE_field (by rfl) (by rfl) (by rfl) (by kernel_rfl) ?_; intro K hK)
    | (refine wpE_conv (k := .i64) (by rfl) (by rfl) (by rfl) (by rfl) (by kernel_rfl) ?_; intro K hK)
    | (refine wpE_load (by rfl) (by rfl) (by rfl) (by rfl) (by first | trivial | (simp; done) | (simp; omega) | omega) (by first | (simp [*]; done) | go_simp) ?_; intro K hK)
    | (refine wpE_late (by rfl) (by rfl) ?_; intro K hK)
    | (refine wpE_skip (by rfl) (by rfl) ?_)
    | (refine wpE_nil ?_))
            refine wpE_eff (by rfl) (by rfl) ?_; intro K hK; go_wp2_with fail; refine ⟨(by first | exact Ex.alloc _ _ _ | exact (Ex.alloc _ _ _).drew), ?_⟩
            refine wpE_eff (by rfl) (by rfl) ?_; intro K hK
            refine wp_append_ints (.tmp 41) (.tmp 47) rfl (w.heap.size + 1) (.slice a k c) l rfl (hS.out.o.alloc _) _ [u] rfl (Ints.lit1' (by simp) _) (by simp; omega) (by simp; omega) ?_
            intro a2 c2 w5 hown2 hg2 hblk
            have hlen2 : ∀ z, (l ++ [z]).length = k + 1 := by intro z; simp; omega
            rw [hlen2] at hown2 hblk ⊢
            refine hK _ _ ⟨Ex.grown hg2 (fun j hj _ hp => by have h1 := hS.out.j j hj; have h2 := hrow.out j hj; omega), ?_⟩
            obtain ⟨kQ, hS'⟩ := (hS.out.alloc _).app hQw hrw hBr hown2 hg2 hblk
            replace kQ := hid kQ
            have k0 := hid hS'.z
            replace hS := hid hS'
            clear hS' hown2 hg2 hblk
            obtain ⟨cQ, fQ⟩ := blk kQ.out; have zQ := (Array.getElem?_eq_some_iff.1 kQ.out).1
            obtain ⟨c0, f0⟩ := blk k0.out; have z0 := (Array.getElem?_eq_some_iff.1 k0.out).1
            go_wp2_with (first
    | (refine wpE_soft (by rfl) (by rfl) (by rfl) (by rfl) ?_; intro K hK)
    | (refine wpE_field (by rfl) (by rfl) (by rfl) (by kernel_rfl) ?_; intro K hK)
    | (refine wpE_conv (k := .i64) (by rfl) (by rfl) (by rfl) (by rfl) (by kernel_rfl) ?_; intro K hK)
    | (refine wpE_load (by rfl) (by rfl) (by rfl) (by rfl) (by first | trivial | (simp; done) | (simp; omega) | omega) (by first | (simp [*]; done) | go_simp) ?_; intro K hK)
    | (refine wpE_late (by rfl) (by rfl) ?_; intro K hK)
    | (refine wpE_skip (by rfl) (by rfl) ?_)
    | (refine wpE_nil ?_))
            exact bodyPost_ret (v := .agg #[.int .i64 room, .slice a2 (k + 1) c2]) (by simp [results, Try.results55, go_sem, c0]) rfl (hS.out.finish0 hrw hBr (by omega) (by omega))
        · have h1' : (z == 1) = false := by rw [beq_eq_false_iff_ne]; omega
          obtain ⟨c0, f0⟩ := blk k0.out; have z0 := (Array.getElem?_eq_some_iff.1 k0.out).1
          go_wp2_with fail
          exact bodyPost_ret (v := .agg #[.int .i64 room, .slice a k c]) (by simp [results, Try.results55, go_sem, c0]) rfl (hS.out.finish0 hrw hBr (by omega) (by omega))

set_option maxHeartbeats 400000 in
theorem DrawFifoTake_any (v : Value) (w : World) (h : Code w v) (hl : ∃ a n cap, v = .slice a n cap ∧ n ≤ 1048576) :
    Calls Try.prog 16 #[v] w fun e w' => ∃ (room : Int) (a : Option Addr) (n c : Nat) (l : List Int), e = .returned (.agg #[.int .i64 room, .slice a n c]) ∧ n = l.length ∧ OwnI w' w.heap.size (.slice a n c) l ∧ n ≤ 20 ∧ Below w.heap.size w w' := by
  obtain ⟨a, n, cap, rfl, hc, hr⟩ := h
  have HC := hid (show Code (w.alloc (.cells #[.int .i64 0, .slice none 0 0] 25)) (.slice a n cap) from ⟨a, n, cap, rfl, hc, (RdB.mono hr (fun g hg _ => (below_alloc w _).block g hg)).up (by simp)⟩)
  clear hr
  go_enter Try.func16, Try.ntmps16
  go_wp2_with fail
  refine (l6Open_any _ _ HC.out hl).mono ?_
  rintro e w1 ⟨r, rfl, hr, hrd, hb1⟩
  obtain ⟨k0, hz1, hB⟩ := entry1 hb1
  have HR := hid hrd
  replace k0 := hid k0
  replace hB := hid hB
  clear hb1 hrd
  simp only [size_alloc] at hr
  go_wp2_with fail
  refine (l91Fifo_any _ r 0 _ HR.out (by omega)).mono ?_
  rintro e w2 ⟨room, a2, _, c2, l, p', rfl, rfl, hown, hn20, _, _, hg⟩
  replace k0 := hid (look_grown hg (by simp; omega) k0.out)
  replace hB := hid (below_of_grown hB.out hg (by omega) (by omega))
  obtain ⟨c0, f0⟩ := blk k0.out; have z0 := (Array.getElem?_eq_some_iff.1 k0.out).1
  replace hown := hid hown
  clear hg
  go_wp2_with fail
  exact bodyPost_ret (v := .agg #[.int .i64 room, .slice a2 l.length c2]) (by simp [results, Try.results16, go_sem, c0]) rfl ⟨room, a2, l.length, c2, l, rfl, rfl, OwnI.base (OwnI.set (OwnI.set hown.out (by simp; omega) _) (by simp; omega) _) (by omega), hn20, (by repeat (first | exact Below.refl _ _ | assumption | exact Hid.out (by assumption) | refine Below.drew ?_ | refine below_drewN ?_ _ | refine Below.alloc ?_ (by first | omega | (simp; done) | (simp; omega)) _ | refine Below.setCell ?_ (by first | omega | (simp; done) | (simp; omega)) _))⟩

end Go.Proofs.Ytednhgiabpgleaa
