/-
  A byte that came is taken at last, by the abstract walk.
-/
import Derived.Test.YtednhgiabpgleaaR4
import Derived.Test.YtednhgiabpgleaaRecvP
namespace Go.Proofs.Ytednhgiabpgleaa
open Go.RowKit
open Ab
set_option linter.unusedSimpArgs false
set_option linter.unusedVariables false

theorem rput_ok {r t : Int} {g : Int × Int} {m : List (Int × Int)} {o : Bool} {a : Int} (h : rcvV ⟨r, t, g :: m, o, a⟩ = true) :
    rputR ⟨r, t, m, o, 0⟩ (77, 0) = ⟨⟨r, t, m ++ [(77, 0)], o, 0⟩, true⟩ ∧ rcvV ⟨r, t, m ++ [(77, 0)], o, 0⟩ = true := by
  have hv := rtake_valid h
  have hb := rcvV_bd h
  dsimp only at hb
  obtain ⟨h1, h2, h3, h4, h5⟩ := hb
  simp only [List.length_cons] at h3
  have hg : gotB (77, 0) = true := rfl
  have hroom : (m.length : Int) < r := by omega
  refine ⟨by simp [rputR, hv, hg, rputV, hroom], rcvV_yes h1 h2 (by simp; omega) (by omega) ?_⟩
  simp only [allG, List.all_cons, Bool.and_eq_true] at h5
  simp only [allG, List.all_append, h5.2, List.all_cons, List.all_nil, hg, Bool.and_self]
theorem rcvV_drop {r t : Int} {q : List (Int × Int)} {o : Bool} (h : rcvV ⟨r, t, q, o, 0⟩ = true) (k : Nat) : rcvV ⟨r, t, q.drop k, o, 0⟩ = true := by
  have hb := rcvV_bd h
  dsimp only at hb
  obtain ⟨h1, h2, h3, h4, h5⟩ := hb
  refine rcvV_yes h1 h2 (by simp; omega) h4 ?_
  simp only [allG, List.all_eq_true] at h5 ⊢
  exact fun x hx => h5 x (List.mem_of_mem_drop hx)
theorem rtake_drop {r t : Int} {q : List (Int × Int)} {o : Bool} {k : Nat} (h : rcvV ⟨r, t, q.drop k, o, 0⟩ = true) (hk : k < q.length) :
    rtakeR ⟨r, t, q.drop k, o, 0⟩ = ⟨⟨r, t, q.drop (k + 1), o, 0⟩, q.getD k (0, 0), true⟩ ∧ rcvV ⟨r, t, q.drop (k + 1), o, 0⟩ = true := by
  have e : q.drop k = q.getD k (0, 0) :: q.drop (k + 1) := by rw [List.drop_eq_getElem_cons hk]; simp [List.getD, hk]
  rw [e] at h ⊢
  exact ⟨by unfold rtakeR; rw [if_pos h], rtake_valid h⟩

def env_l_FnRecvTakePut : Env := [(28, c_s_DrawRecvTake), (29, c_i_RecvTake), (30, c_s_RecvTake), (31, c_l_sameRecv), (34, c_i_RecvPut)]
theorem env_l_FnRecvTakePut_ok : EnvOk Try.prog env_l_FnRecvTakePut := envAll_ok ⟨c_s_DrawRecvTake_ok, c_i_RecvTake_ok, c_s_RecvTake_ok, c_l_sameRecv_ok, c_i_RecvPut_ok, trivial⟩
def tr_l_FnRecvTakePut : Nat → Tr := fun n => match n with
  | _ => .nil
set_option maxRecDepth 100000 in
set_option maxHeartbeats 2000000 in
theorem con_l_FnRecvTakePut : Con Try.prog 7 [.inl .bytes] (fun _ K => K (.l (.v (.bool true)))) := by
  refine con_ofN (TR := tr_l_FnRecvTakePut) tab_ok mixed_ok env_l_FnRecvTakePut_ok Try.func7 rfl ?_
  rintro ⟨(c : List UInt8), _⟩ K hK ⟨hl, _⟩
  replace hl : c.length ≤ 1099511627776 := hl
  repeat' ((conv => whnf); first
   | (refine Side.mk ?_ ?_; focus (first | omega | kernel_rfl | with_reducible assumption | with_reducible exact rngI (by omega) | with_reducible exact rngB (by omega) | (dsimp only [EL.len]; first | omega | with_reducible exact rngI (by omega) | with_reducible exact rngB (by omega)) | exact rfl | (simp only [EL.len, EL.sz, EL.take, EL.drop, maxL, List.length_append, List.length_nil, List.length_cons, List.length_drop, List.length_take, List.nil_append]; omega) | (simp only [EL.len, EL.sz, EL.take, EL.drop, maxL, List.length_append, List.length_nil, List.length_cons, List.length_drop, List.length_take, List.nil_append] at *; omega) | (refine ⟨?_, ?_⟩ <;> omega) | exact ⟨rfl, trivial⟩ | exact ⟨rfl, rfl, trivial⟩ | exact ⟨⟨rfl, rfl, rfl, rfl⟩, trivial⟩ | (refine ⟨?_, ?_, ?_⟩ <;> first | omega | with_reducible exact rngI (by omega) | with_reducible exact rngB (by omega))))
   | (refine Fork.mk ?_ ?_; (intro K' hF; (conv at hF => whnf); (repeat ((first | (have hs := side_l hF; replace hF := side_r hF) | (replace hF := fork_r hF)); (conv at hF => whnf))); replace hF := end_r hF))
   | (refine End.mk ?_; exact hF)
   | refine End.mk ?_
   | refine brT ?_
   | refine brF ?_
   | (refine brT' ?_ ?_; focus with_reducible assumption)
   | (refine brF' ?_ ?_; focus with_reducible assumption)
   | (refine Br.mk ?_ ?_ <;> (intro hb; have h := hb; (try simp only [decide_eq_true_eq, decide_eq_false_iff_not, Bool.not_eq_true', Bool.not_eq_false', Bool.not_eq_eq_eq_not, Bool.not_true, Bool.not_false, ge_iff_le, gt_iff_lt, Bool.and_eq_true, Bool.and_eq_false_iff, Bool.or_eq_true, Bool.or_eq_false_iff, beq_self_eq_true, not_true_eq_false, and_self, Bool.true_eq_false, Bool.false_eq_true, not_false_eq_true] at h); (try dsimp only [EL.len] at h); (try (exfalso; first | omega | exact Bool.noConfusion (h.symm.trans (by with_reducible assumption : _ = true)) | exact Bool.noConfusion (h.symm.trans (by with_reducible assumption : _ = false))))))
   | (refine fun (y : Int) (h0 : 0 ≤ y) h1 => ?_))
  · (refine Exists.intro _ (And.intro ?_ hK); repeat' (first | (refine Side.mk ?_ ?_; focus (first | with_reducible exact rfl | exact Eq.refl true | exact Eq.refl false)) | (refine Side.mk ?_ ?_) | exact True.intro))
  intro r t l o a h1
  by_cases hok : (rtakeR ⟨r, t, l, o, a⟩).ok = true
  · obtain ⟨hv, g, m, e, hr⟩ := rtake_ok hok
    have e : l = g :: m := e
    subst e
    dsimp only at hr
    obtain ⟨hp1, hp2⟩ := rput_ok hv
    have hbd := rcvV_bd hv
    dsimp only at hbd
    simp only [List.length_cons] at h1 hbd
    have e2 : (rtakeR ⟨r, t, g :: m, o, a⟩).r = ⟨r, t, m, o, 0⟩ := by rw [hr]
    obtain ⟨q, hq⟩ : ∃ q, q = m ++ [(77, 0)] := ⟨_, rfl⟩
    rw [← hq] at hp1 hp2
    have hql : q.length = m.length + 1 := by rw [hq]; simp
    have hqg : q.getD m.length (0, 0) = (77, 0) := by rw [hq]; simp
    clear hq
    have e3 : rputR (rtakeR ⟨r, t, g :: m, o, a⟩).r (77, 0) = ⟨⟨r, t, q, o, 0⟩, true⟩ := by rw [e2]; exact hp1
    have e4 : (rputR (rtakeR ⟨r, t, g :: m, o, a⟩).r (77, 0)).r.items.length = q.length := by rw [e3]
    repeat' ((conv => whnf); first
   | (refine Side.mk ?_ ?_; focus (first | omega | kernel_rfl | with_reducible assumption | with_reducible exact rngI (by omega) | with_reducible exact rngB (by omega) | (dsimp only [EL.len]; first | omega | with_reducible exact rngI (by omega) | with_reducible exact rngB (by omega)) | exact rfl | (simp only [EL.len, EL.sz, EL.take, EL.drop, maxL, List.length_append, List.length_nil, List.length_cons, List.length_drop, List.length_take, List.nil_append]; omega) | (simp only [EL.len, EL.sz, EL.take, EL.drop, maxL, List.length_append, List.length_nil, List.length_cons, List.length_drop, List.length_take, List.nil_append] at *; omega) | (refine ⟨?_, ?_⟩ <;> omega) | exact ⟨rfl, trivial⟩ | exact ⟨rfl, rfl, trivial⟩ | exact ⟨⟨rfl, rfl, rfl, rfl⟩, trivial⟩ | (refine ⟨?_, ?_, ?_⟩ <;> first | omega | with_reducible exact rngI (by omega) | with_reducible exact rngB (by omega))))
   | (refine Fork.mk ?_ ?_; (intro K' hF; (conv at hF => whnf); (repeat ((first | (have hs := side_l hF; replace hF := side_r hF) | (replace hF := fork_r hF)); (conv at hF => whnf))); replace hF := end_r hF))
   | (refine End.mk ?_; exact hF)
   | refine End.mk ?_
   | refine brT ?_
   | refine brF ?_
   | (refine brT' ?_ ?_; focus with_reducible assumption)
   | (refine brF' ?_ ?_; focus with_reducible assumption)
   | (refine Br.mk ?_ ?_ <;> (intro hb; have h := hb; (try simp only [decide_eq_true_eq, decide_eq_false_iff_not, Bool.not_eq_true', Bool.not_eq_false', Bool.not_eq_eq_eq_not, Bool.not_true, Bool.not_false, ge_iff_le, gt_iff_lt, Bool.and_eq_true, Bool.and_eq_false_iff, Bool.or_eq_true, Bool.or_eq_false_iff, beq_self_eq_true, not_true_eq_false, and_self, Bool.true_eq_false, Bool.false_eq_true, not_false_eq_true] at h); (try dsimp only [EL.len] at h); (try (exfalso; first | omega | exact Bool.noConfusion (h.symm.trans (by with_reducible assumption : _ = true)) | exact Bool.noConfusion (h.symm.trans (by with_reducible assumption : _ = false))))))
   | (refine fun (y : Int) (h0 : 0 ≤ y) h1 => ?_))
    · (refine Exists.intro _ (And.intro ?_ hK); repeat' (first | (refine Side.mk ?_ ?_; focus (first | with_reducible exact rfl | exact Eq.refl true | exact Eq.refl false)) | (refine Side.mk ?_ ?_) | exact True.intro))
      simp [hr]
    · exfalso
      rcases h with h | h | h <;> exact h.elim
    refine LoopG.inv {s : Nat × Rcv × (Int × Int) × Bool // s.1 ≤ q.length ∧ s.2.1 = ⟨r, t, q.drop s.1, o, 0⟩ ∧ s.2.2.2 = true ∧ (s.1 = q.length → s.2.2.1 = (77, 0))} (fun ⟨(k, _, _, b), _⟩ => [(70, .j), (74, .j), (14, .l (.v (.int .i64 k))), (11, .l (.v (.bool b)))])
      (fun ⟨(_, x, lst, _), _⟩ => [(8, .r 0 45 (.gots x.items)), (9, .b [.v (.int .i64 x.room), .v (.int .i64 x.trig), .s 8 0, .v (.bool x.lost), .v (.int .i64 x.age)] 42), (10, .b [.v (.int .i64 lst.1), .v (.int .i64 lst.2)] 45)]) (fun ⟨(k, _, _), _⟩ => q.length - k)
      ⟨(0, (rputR (rtakeR ⟨r, t, g :: m, o, a⟩).r (77, 0)).r, (0, 0), (rputR (rtakeR ⟨r, t, g :: m, o, a⟩).r (77, 0)).ok), Nat.zero_le _, by rw [e3]; rfl, by rw [e3], fun e => by exfalso; have : (0 : Nat) = q.length := e; omega⟩ [0, 1, 2, 3, 4, 5, 6, 7, 8, 9, 10] ?_ ?_
    · repeat' (first | (refine Side.mk ?_ ?_; focus (first | kernel_rfl | exact rfl | exact ⟨rfl, trivial⟩ | exact ⟨rfl, rfl, trivial⟩)) | exact True.intro)
    rintro ⟨⟨k, ⟨xr, xt, xl, xo, xa⟩, ⟨l1, l2⟩, b⟩, hk, hx, hb', hlast⟩
    have gk : k ≤ q.length := hk
    have gx : (⟨xr, xt, xl, xo, xa⟩ : Rcv) = ⟨r, t, q.drop k, o, 0⟩ := hx
    have gb : b = true := hb'
    have gl : k = q.length → (l1, l2) = ((77 : Int), (0 : Int)) := hlast
    have gv : rcvV ⟨xr, xt, xl, xo, xa⟩ = true := by rw [gx]; exact rcvV_drop hp2 k
    have gd : k < q.length → rtakeR ⟨xr, xt, xl, xo, xa⟩ = ⟨⟨r, t, q.drop (k + 1), o, 0⟩, q.getD k (0, 0), true⟩ := fun hlt => by rw [gx]; exact (rtake_drop (rcvV_drop hp2 k) hlt).1
    have gll : xl.length = q.length - k := by simp only [Rcv.mk.injEq] at gx; rw [gx.2.2.1]; simp
    repeat' ((conv => whnf); first
   | (refine Side.mk ?_ ?_; focus (first | omega | kernel_rfl | with_reducible assumption | with_reducible exact rngI (by omega) | with_reducible exact rngB (by omega) | (dsimp only [EL.len]; first | omega | with_reducible exact rngI (by omega) | with_reducible exact rngB (by omega)) | exact rfl | (simp only [EL.len, EL.sz, EL.take, EL.drop, maxL, List.length_append, List.length_nil, List.length_cons, List.length_drop, List.length_take, List.nil_append]; omega) | (simp only [EL.len, EL.sz, EL.take, EL.drop, maxL, List.length_append, List.length_nil, List.length_cons, List.length_drop, List.length_take, List.nil_append] at *; omega) | (refine ⟨?_, ?_⟩ <;> omega) | exact ⟨rfl, trivial⟩ | exact ⟨rfl, rfl, trivial⟩ | exact ⟨⟨rfl, rfl, rfl, rfl⟩, trivial⟩ | (refine ⟨?_, ?_, ?_⟩ <;> first | omega | with_reducible exact rngI (by omega) | with_reducible exact rngB (by omega))))
   | (refine Fork.mk ?_ ?_; (intro K' hF; (conv at hF => whnf); (repeat ((first | (have hs := side_l hF; replace hF := side_r hF) | (replace hF := fork_r hF)); (conv at hF => whnf))); replace hF := end_r hF))
   | (refine End.mk ?_; exact hF)
   | refine End.mk ?_
   | refine brT ?_
   | refine brF ?_
   | (refine brT' ?_ ?_; focus with_reducible assumption)
   | (refine brF' ?_ ?_; focus with_reducible assumption)
   | (refine Br.mk ?_ ?_ <;> (intro hb; have h := hb; (try simp only [decide_eq_true_eq, decide_eq_false_iff_not, Bool.not_eq_true', Bool.not_eq_false', Bool.not_eq_eq_eq_not, Bool.not_true, Bool.not_false, ge_iff_le, gt_iff_lt, Bool.and_eq_true, Bool.and_eq_false_iff, Bool.or_eq_true, Bool.or_eq_false_iff, beq_self_eq_true, not_true_eq_false, and_self, Bool.true_eq_false, Bool.false_eq_true, not_false_eq_true] at h); (try dsimp only [EL.len] at h); (try (exfalso; first | omega | exact Bool.noConfusion (h.symm.trans (by with_reducible assumption : _ = true)) | exact Bool.noConfusion (h.symm.trans (by with_reducible assumption : _ = false))))))
   | (refine fun (y : Int) (h0 : 0 ≤ y) h1 => ?_))
    · have hlt : k < q.length := by rw [← e4]; exact Int.ofNat_lt.1 h
      have g1 := gd hlt
      have n1 : (rtakeR ⟨xr, xt, xl, xo, xa⟩).r = ⟨r, t, q.drop (k + 1), o, 0⟩ := by rw [g1]
      have n2 : (rtakeR ⟨xr, xt, xl, xo, xa⟩).ok = true := by rw [g1]
      have n3 : k + 1 = q.length → (rtakeR ⟨xr, xt, xl, xo, xa⟩).g = (77, 0) := fun e => by
        rw [g1]
        have : k = m.length := by omega
        rw [this]
        exact hqg
      (refine Exists.intro ⟨(k + 1, (rtakeR ⟨xr, xt, xl, xo, xa⟩).r, (rtakeR ⟨xr, xt, xl, xo, xa⟩).g, (rtakeR ⟨xr, xt, xl, xo, xa⟩).ok), hlt, n1, n2, n3⟩ (Exists.intro [0, 1, 2, 3, 4, 5, 6, 7, 11, 9, 10] (And.intro ?_ ?_)))
      · show q.length - (k + 1) < q.length - k
        omega
      · repeat' (first | (refine Side.mk ?_ ?_; focus (first | kernel_rfl | exact rfl | exact ⟨rfl, trivial⟩ | exact ⟨rfl, rfl, trivial⟩)) | exact True.intro)
    · have hge : ¬ (k : Int) < ((rputR (rtakeR ⟨r, t, g :: m, o, a⟩).r (77, 0)).r.items.length : Int) := by assumption
      rw [e4] at hge
      have hx0 : xl = [] := List.eq_nil_of_length_eq_zero (by omega)
      (refine Exists.intro _ (And.intro ?_ hK); repeat' (first | (refine Side.mk ?_ ?_; focus (first | with_reducible exact rfl | exact Eq.refl true | exact Eq.refl false)) | (refine Side.mk ?_ ?_) | exact True.intro))
      simp [hx0, EL.len]
    · exfalso
      have hge : ¬ (k : Int) < ((rputR (rtakeR ⟨r, t, g :: m, o, a⟩).r (77, 0)).r.items.length : Int) := by assumption
      rw [e4] at hge
      have h77 := gl (by omega)
      rcases h with h | h | h
      · exact h (congrArg Prod.fst h77)
      · exact h (congrArg Prod.snd h77)
      · exact h
  · replace hok : (rtakeR ⟨r, t, l, o, a⟩).ok = false := by simpa using hok
    repeat' ((conv => whnf); first
   | (refine Side.mk ?_ ?_; focus (first | omega | kernel_rfl | with_reducible assumption | with_reducible exact rngI (by omega) | with_reducible exact rngB (by omega) | (dsimp only [EL.len]; first | omega | with_reducible exact rngI (by omega) | with_reducible exact rngB (by omega)) | exact rfl | (simp only [EL.len, EL.sz, EL.take, EL.drop, maxL, List.length_append, List.length_nil, List.length_cons, List.length_drop, List.length_take, List.nil_append]; omega) | (simp only [EL.len, EL.sz, EL.take, EL.drop, maxL, List.length_append, List.length_nil, List.length_cons, List.length_drop, List.length_take, List.nil_append] at *; omega) | (refine ⟨?_, ?_⟩ <;> omega) | exact ⟨rfl, trivial⟩ | exact ⟨rfl, rfl, trivial⟩ | exact ⟨⟨rfl, rfl, rfl, rfl⟩, trivial⟩ | (refine ⟨?_, ?_, ?_⟩ <;> first | omega | with_reducible exact rngI (by omega) | with_reducible exact rngB (by omega))))
   | (refine Fork.mk ?_ ?_; (intro K' hF; (conv at hF => whnf); (repeat ((first | (have hs := side_l hF; replace hF := side_r hF) | (replace hF := fork_r hF)); (conv at hF => whnf))); replace hF := end_r hF))
   | (refine End.mk ?_; exact hF)
   | refine End.mk ?_
   | refine brT ?_
   | refine brF ?_
   | (refine brT' ?_ ?_; focus with_reducible assumption)
   | (refine brF' ?_ ?_; focus with_reducible assumption)
   | (refine Br.mk ?_ ?_ <;> (intro hb; have h := hb; (try simp only [decide_eq_true_eq, decide_eq_false_iff_not, Bool.not_eq_true', Bool.not_eq_false', Bool.not_eq_eq_eq_not, Bool.not_true, Bool.not_false, ge_iff_le, gt_iff_lt, Bool.and_eq_true, Bool.and_eq_false_iff, Bool.or_eq_true, Bool.or_eq_false_iff, beq_self_eq_true, not_true_eq_false, and_self, Bool.true_eq_false, Bool.false_eq_true, not_false_eq_true] at h); (try dsimp only [EL.len] at h); (try (exfalso; first | omega | exact Bool.noConfusion (h.symm.trans (by with_reducible assumption : _ = true)) | exact Bool.noConfusion (h.symm.trans (by with_reducible assumption : _ = false))))))
   | (refine fun (y : Int) (h0 : 0 ≤ y) h1 => ?_))
    all_goals first
      | (exfalso; rcases h with h | h | h <;> exact h.elim)
      | ((refine Exists.intro _ (And.intro ?_ hK); repeat' (first | (refine Side.mk ?_ ?_; focus (first | with_reducible exact rfl | exact Eq.refl true | exact Eq.refl false)) | (refine Side.mk ?_ ?_) | exact True.intro)); simp)

set_option maxRecDepth 100000 in
set_option maxHeartbeats 2000000 in
theorem law_l_FnRecvTakePut (v : Value) (w : World) (h : CodeB w v) : Calls Try.prog 7 #[v] w fun e w2 => e = .returned (.bool true) ∧ Below w.heap.size w w2 := by
  refine law_ofN (TR := tr_l_FnRecvTakePut) tab_ok mixed_ok env_l_FnRecvTakePut_ok Try.func7 rfl (fun a n c hn => ?_) con_l_FnRecvTakePut v w h
  repeat' ((conv => whnf); first
   | (refine Side.mk ?_ ?_; focus (first | omega | kernel_rfl | with_reducible assumption | with_reducible exact rngI (by omega) | with_reducible exact rngB (by omega) | (dsimp only [EL.len]; first | omega | with_reducible exact rngI (by omega) | with_reducible exact rngB (by omega)) | exact rfl | (simp only [EL.len, EL.sz, EL.take, EL.drop, maxL, List.length_append, List.length_nil, List.length_cons, List.length_drop, List.length_take, List.nil_append]; omega) | (simp only [EL.len, EL.sz, EL.take, EL.drop, maxL, List.length_append, List.length_nil, List.length_cons, List.length_drop, List.length_take, List.nil_append] at *; omega) | (refine ⟨?_, ?_⟩ <;> omega) | exact ⟨rfl, trivial⟩ | exact ⟨rfl, rfl, trivial⟩ | exact ⟨⟨rfl, rfl, rfl, rfl⟩, trivial⟩ | (refine ⟨?_, ?_, ?_⟩ <;> first | omega | with_reducible exact rngI (by omega) | with_reducible exact rngB (by omega))))
   | (refine Fork.mk ?_ ?_; (intro K' hF; (conv at hF => whnf); (repeat ((first | (have hs := side_l hF; replace hF := side_r hF) | (replace hF := fork_r hF)); (conv at hF => whnf))); replace hF := end_r hF))
   | (refine End.mk ?_; exact hF)
   | refine End.mk ?_
   | refine brT ?_
   | refine brF ?_
   | (refine brT' ?_ ?_; focus with_reducible assumption)
   | (refine brF' ?_ ?_; focus with_reducible assumption)
   | (refine Br.mk ?_ ?_ <;> (intro hb; have h := hb; (try simp only [decide_eq_true_eq, decide_eq_false_iff_not, Bool.not_eq_true', Bool.not_eq_false', Bool.not_eq_eq_eq_not, Bool.not_true, Bool.not_false, ge_iff_le, gt_iff_lt, Bool.and_eq_true, Bool.and_eq_false_iff, Bool.or_eq_true, Bool.or_eq_false_iff, beq_self_eq_true, not_true_eq_false, and_self, Bool.true_eq_false, Bool.false_eq_true, not_false_eq_true] at h); (try dsimp only [EL.len] at h); (try (exfalso; first | omega | exact Bool.noConfusion (h.symm.trans (by with_reducible assumption : _ = true)) | exact Bool.noConfusion (h.symm.trans (by with_reducible assumption : _ = false))))))
   | (refine fun (y : Int) (h0 : 0 ≤ y) h1 => ?_))
  all_goals first | exact rfl | omega

end Go.Proofs.Ytednhgiabpgleaa
