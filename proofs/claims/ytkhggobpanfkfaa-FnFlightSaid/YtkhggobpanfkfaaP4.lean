/-
  Ports: what is valid, copies, the status; by the abstract walk.
-/
import Derived.Test.YtkhggobpanfkfaaP3
import Derived.Test.YtkhggobpanfkfaaR3
namespace Go.Proofs.Ytkhggobpanfkfaa
open Go.RowKit
open Ab
set_option linter.unusedSimpArgs false
set_option linter.unusedVariables false

def env_i_endsOf : Env := []
theorem env_i_endsOf_ok : EnvOk Try.prog env_i_endsOf := envAll_ok trivial
def tr_i_endsOf : Nat → Tr := fun n => match n with
  | _ => .nil
def c_i_endsOf : CS := csN tab env_i_endsOf tr_i_endsOf Try.f77
theorem c_i_endsOf_ok : CSok Try.prog 77 c_i_endsOf := csN_ok tab_ok mixed_ok env_i_endsOf_ok Try.func77 (by kernel_rfl)

def env_i_portEnds_valid : Env := [(92, c_i_RecvValid), (93, c_i_SendValid)]
theorem env_i_portEnds_valid_ok : EnvOk Try.prog env_i_portEnds_valid := envAll_ok ⟨c_i_RecvValid_ok, c_i_SendValid_ok, trivial⟩
def tr_i_portEnds_valid : Nat → Tr := fun n => match n with
  | _ => .nil
set_option maxRecDepth 100000 in
set_option maxHeartbeats 2000000 in
theorem con_i_portEnds_valid : Con Try.prog 78 [.inr [.int, .int, .gots, .bool, .int, .int, .ints, .int, .int]] (fun ⟨⟨rr, rt, rl, ro, ra, sr, sl, ss, sf, _⟩, _⟩ K => K (.l (.v (.bool (rcvV ⟨rr, rt, rl, ro, ra⟩ && sndV ⟨sr, sl, ss, sf⟩))))) := by
  refine con_ofN (TR := tr_i_portEnds_valid) tab_ok mixed_ok env_i_portEnds_valid_ok Try.func78 rfl ?_
  rintro ⟨⟨(rr : Int), (rt : Int), (rl : List (Int × Int)), (ro : Bool), (ra : Int), (sr : Int), (sl : List Int), (ss : Int), (sf : Int), _⟩, _⟩ K hK _
  replace hK : K (.l (.v (.bool (rcvV ⟨rr, rt, rl, ro, ra⟩ && sndV ⟨sr, sl, ss, sf⟩)))) := hK
  repeat' ((conv => whnf); (first | (refine Side.mk ?_ ?_; focus (first | omega | with_reducible assumption | kernel_rfl | exact rfl | (with_reducible first | omega | exact rngI (by omega) | (and_intros <;> first | trivial | omega | exact rngI (by omega))) | (dsimp only [EL.len]; with_reducible first | omega | exact rngI (by omega) | (and_intros <;> first | trivial | omega | exact rngI (by omega))) | with_reducible exact rngB (by omega) | with_reducible exact rngI ⟨by decide, by decide⟩ | exact ⟨rfl, trivial⟩ | exact ⟨rfl, rfl, trivial⟩ | exact ⟨⟨rfl, rfl, rfl, rfl⟩, trivial⟩ | (show (_ : Int) ≤ _ ∧ (_ : Int) ≤ _; omega) | (show (_ : Int) ≤ _; omega) | (simp only [EL.len, EL.sz, EL.take, EL.drop, maxL, la, ln, lc, ld, lt, ls, lna]; with_reducible first | omega | exact rngI (by omega) | (and_intros <;> first | trivial | omega | exact rngI (by omega))) | (simp only [EL.len, EL.sz, EL.take, EL.drop, maxL, la, ln, lc, ld, lt, ls, lna] at *; with_reducible first | omega | exact rngI (by omega) | (and_intros <;> first | trivial | omega | exact rngI (by omega))))) | (refine End.mk ?_; exact hF) | refine End.mk ?_ | refine brT ?_ | refine brF ?_ | (refine brT' ?_ ?_; focus with_reducible assumption) | (refine brF' ?_ ?_; focus with_reducible assumption) | (refine Br.mk ?_ ?_ <;> (intro hb; have h := hb; (try simp only [decide_eq_true_eq, decide_eq_false_iff_not, Bool.not_eq_true', Bool.not_eq_false', Bool.not_eq_eq_eq_not, Bool.not_true, Bool.not_false, ge_iff_le, gt_iff_lt, Bool.and_eq_true, Bool.and_eq_false_iff, Bool.or_eq_true, Bool.or_eq_false_iff, beq_self_eq_true, not_true_eq_false, and_self, Bool.true_eq_false, Bool.false_eq_true, not_false_eq_true] at h); (try dsimp only [EL.len] at h); (try (exfalso; first | omega | exact bnF h (by with_reducible assumption) | exact bnT h (by with_reducible assumption))))) | (refine fun (y : Int) (h0 : 0 ≤ y) h1 => ?_)))
  all_goals
    (refine Exists.intro _ (And.intro ?_ hK); repeat' (first | (refine Side.mk ?_ ?_; focus (first | with_reducible exact rfl | exact Eq.refl true | exact Eq.refl false)) | (refine Side.mk ?_ ?_) | exact True.intro))
    simp [*]
def c_i_portEnds_valid : CS := csOf [.inr [.int, .int, .gots, .bool, .int, .int, .ints, .int, .int]] (fun ⟨⟨rr, rt, rl, ro, ra, sr, sl, ss, sf, _⟩, _⟩ K => K (.l (.v (.bool (rcvV ⟨rr, rt, rl, ro, ra⟩ && sndV ⟨sr, sl, ss, sf⟩)))))
theorem c_i_portEnds_valid_ok : CSok Try.prog 78 c_i_portEnds_valid := cs_ok (by kernel_rfl) con_i_portEnds_valid



def env_i_PortValid : Env := [(76, c_i_FormatValid), (77, c_i_endsOf), (78, c_i_portEnds_valid)]
theorem env_i_PortValid_ok : EnvOk Try.prog env_i_PortValid := envAll_ok ⟨c_i_FormatValid_ok, c_i_endsOf_ok, c_i_portEnds_valid_ok, trivial⟩
def tr_i_PortValid : Nat → Tr := fun n => match n with
  | _ => .nil
set_option maxRecDepth 100000 in
set_option maxHeartbeats 2000000 in
theorem con_i_PortValid : Con Try.prog 53 [.inr [.int, .int, .int, .int, .int, .int, .int, .gots, .bool, .int, .int, .ints, .int, .int, .bool, .bool, .bool, .bool]] (fun ⟨⟨fb, fq, fst, pe, pc, rr, rt, rl, ro, ra, sr, sl, ss, sf, mc, mh, mcc, mhc, _⟩, _⟩ K => K (.l (.v (.bool (prtV ⟨⟨fb, fq, fst⟩, pe, pc, ⟨rr, rt, rl, ro, ra⟩, ⟨sr, sl, ss, sf⟩, ⟨mc, mh, mcc, mhc⟩⟩))))) := by
  refine con_ofN (TR := tr_i_PortValid) tab_ok mixed_ok env_i_PortValid_ok Try.func53 rfl ?_
  rintro ⟨⟨(fb : Int), (fq : Int), (fst : Int), (pe : Int), (pc : Int), (rr : Int), (rt : Int), (rl : List (Int × Int)), (ro : Bool), (ra : Int), (sr : Int), (sl : List Int), (ss : Int), (sf : Int), (mc : Bool), (mh : Bool), (mcc : Bool), (mhc : Bool), _⟩, _⟩ K hK _
  replace hK : K (.l (.v (.bool (prtV ⟨⟨fb, fq, fst⟩, pe, pc, ⟨rr, rt, rl, ro, ra⟩, ⟨sr, sl, ss, sf⟩, ⟨mc, mh, mcc, mhc⟩⟩)))) := hK
  repeat' ((conv => whnf); (first | (refine Side.mk ?_ ?_; focus (first | omega | with_reducible assumption | kernel_rfl | exact rfl | (with_reducible first | omega | exact rngI (by omega) | (and_intros <;> first | trivial | omega | exact rngI (by omega))) | (dsimp only [EL.len]; with_reducible first | omega | exact rngI (by omega) | (and_intros <;> first | trivial | omega | exact rngI (by omega))) | with_reducible exact rngB (by omega) | with_reducible exact rngI ⟨by decide, by decide⟩ | exact ⟨rfl, trivial⟩ | exact ⟨rfl, rfl, trivial⟩ | exact ⟨⟨rfl, rfl, rfl, rfl⟩, trivial⟩ | (show (_ : Int) ≤ _ ∧ (_ : Int) ≤ _; omega) | (show (_ : Int) ≤ _; omega) | (simp only [EL.len, EL.sz, EL.take, EL.drop, maxL, la, ln, lc, ld, lt, ls, lna]; with_reducible first | omega | exact rngI (by omega) | (and_intros <;> first | trivial | omega | exact rngI (by omega))) | (simp only [EL.len, EL.sz, EL.take, EL.drop, maxL, la, ln, lc, ld, lt, ls, lna] at *; with_reducible first | omega | exact rngI (by omega) | (and_intros <;> first | trivial | omega | exact rngI (by omega))))) | (refine End.mk ?_; exact hF) | refine End.mk ?_ | refine brT ?_ | refine brF ?_ | (refine brT' ?_ ?_; focus with_reducible assumption) | (refine brF' ?_ ?_; focus with_reducible assumption) | (refine Br.mk ?_ ?_ <;> (intro hb; have h := hb; (try simp only [decide_eq_true_eq, decide_eq_false_iff_not, Bool.not_eq_true', Bool.not_eq_false', Bool.not_eq_eq_eq_not, Bool.not_true, Bool.not_false, ge_iff_le, gt_iff_lt, Bool.and_eq_true, Bool.and_eq_false_iff, Bool.or_eq_true, Bool.or_eq_false_iff, beq_self_eq_true, not_true_eq_false, and_self, Bool.true_eq_false, Bool.false_eq_true, not_false_eq_true] at h); (try dsimp only [EL.len] at h); (try (exfalso; first | omega | exact bnF h (by with_reducible assumption) | exact bnT h (by with_reducible assumption))))) | (refine fun (y : Int) (h0 : 0 ≤ y) h1 => ?_)))
  all_goals
    (refine Exists.intro _ (And.intro ?_ hK); repeat' (first | (refine Side.mk ?_ ?_; focus (first | with_reducible exact rfl | exact Eq.refl true | exact Eq.refl false)) | (refine Side.mk ?_ ?_) | exact True.intro))
    first
    | (simp_all [prtV]; done)
    | (simp_all [prtV]; intros; omega)
def c_i_PortValid : CS := csOf [.inr [.int, .int, .int, .int, .int, .int, .int, .gots, .bool, .int, .int, .ints, .int, .int, .bool, .bool, .bool, .bool]] (fun ⟨⟨fb, fq, fst, pe, pc, rr, rt, rl, ro, ra, sr, sl, ss, sf, mc, mh, mcc, mhc, _⟩, _⟩ K => K (.l (.v (.bool (prtV ⟨⟨fb, fq, fst⟩, pe, pc, ⟨rr, rt, rl, ro, ra⟩, ⟨sr, sl, ss, sf⟩, ⟨mc, mh, mcc, mhc⟩⟩)))))
theorem c_i_PortValid_ok : CSok Try.prog 53 c_i_PortValid := cs_ok (by kernel_rfl) con_i_PortValid

def env_s_PortValid : Env := [(72, c_s_FormatValid), (45, c_s_l6In), (73, c_s_RecvValid), (74, c_s_SendValid)]
theorem env_s_PortValid_ok : EnvOk Try.prog env_s_PortValid := envAll_ok ⟨c_s_FormatValid_ok, c_s_l6In_ok, c_s_RecvValid_ok, c_s_SendValid_ok, trivial⟩
def tr_s_PortValid : Nat → Tr := fun n => match n with
  | _ => .nil
set_option maxRecDepth 100000 in
set_option maxHeartbeats 2000000 in
theorem con_s_PortValid : Con Try.prog 46 [.inr [.int, .int, .int, .int, .int, .int, .int, .gots, .bool, .int, .int, .ints, .int, .int, .bool, .bool, .bool, .bool]] (fun ⟨⟨fb, fq, fst, pe, pc, rr, rt, rl, ro, ra, sr, sl, ss, sf, mc, mh, mcc, mhc, _⟩, _⟩ K => K (.l (.v (.bool (prtV ⟨⟨fb, fq, fst⟩, pe, pc, ⟨rr, rt, rl, ro, ra⟩, ⟨sr, sl, ss, sf⟩, ⟨mc, mh, mcc, mhc⟩⟩))))) := by
  refine con_ofN (TR := tr_s_PortValid) tab_ok mixed_ok env_s_PortValid_ok Try.func46 rfl ?_
  rintro ⟨⟨(fb : Int), (fq : Int), (fst : Int), (pe : Int), (pc : Int), (rr : Int), (rt : Int), (rl : List (Int × Int)), (ro : Bool), (ra : Int), (sr : Int), (sl : List Int), (ss : Int), (sf : Int), (mc : Bool), (mh : Bool), (mcc : Bool), (mhc : Bool), _⟩, _⟩ K hK _
  replace hK : K (.l (.v (.bool (prtV ⟨⟨fb, fq, fst⟩, pe, pc, ⟨rr, rt, rl, ro, ra⟩, ⟨sr, sl, ss, sf⟩, ⟨mc, mh, mcc, mhc⟩⟩)))) := hK
  repeat' ((conv => whnf); (first | (refine Side.mk ?_ ?_; focus (first | omega | with_reducible assumption | kernel_rfl | exact rfl | (with_reducible first | omega | exact rngI (by omega) | (and_intros <;> first | trivial | omega | exact rngI (by omega))) | (dsimp only [EL.len]; with_reducible first | omega | exact rngI (by omega) | (and_intros <;> first | trivial | omega | exact rngI (by omega))) | with_reducible exact rngB (by omega) | with_reducible exact rngI ⟨by decide, by decide⟩ | exact ⟨rfl, trivial⟩ | exact ⟨rfl, rfl, trivial⟩ | exact ⟨⟨rfl, rfl, rfl, rfl⟩, trivial⟩ | (show (_ : Int) ≤ _ ∧ (_ : Int) ≤ _; omega) | (show (_ : Int) ≤ _; omega) | (simp only [EL.len, EL.sz, EL.take, EL.drop, maxL, la, ln, lc, ld, lt, ls, lna]; with_reducible first | omega | exact rngI (by omega) | (and_intros <;> first | trivial | omega | exact rngI (by omega))) | (simp only [EL.len, EL.sz, EL.take, EL.drop, maxL, la, ln, lc, ld, lt, ls, lna] at *; with_reducible first | omega | exact rngI (by omega) | (and_intros <;> first | trivial | omega | exact rngI (by omega))))) | (refine End.mk ?_; exact hF) | refine End.mk ?_ | refine brT ?_ | refine brF ?_ | (refine brT' ?_ ?_; focus with_reducible assumption) | (refine brF' ?_ ?_; focus with_reducible assumption) | (refine Br.mk ?_ ?_ <;> (intro hb; have h := hb; (try simp only [decide_eq_true_eq, decide_eq_false_iff_not, Bool.not_eq_true', Bool.not_eq_false', Bool.not_eq_eq_eq_not, Bool.not_true, Bool.not_false, ge_iff_le, gt_iff_lt, Bool.and_eq_true, Bool.and_eq_false_iff, Bool.or_eq_true, Bool.or_eq_false_iff, beq_self_eq_true, not_true_eq_false, and_self, Bool.true_eq_false, Bool.false_eq_true, not_false_eq_true] at h); (try dsimp only [EL.len] at h); (try (exfalso; first | omega | exact bnF h (by with_reducible assumption) | exact bnT h (by with_reducible assumption))))) | (refine fun (y : Int) (h0 : 0 ≤ y) h1 => ?_)))
  all_goals
    (refine Exists.intro _ (And.intro ?_ hK); repeat' (first | (refine Side.mk ?_ ?_; focus (first | with_reducible exact rfl | exact Eq.refl true | exact Eq.refl false)) | (refine Side.mk ?_ ?_) | exact True.intro))
    first
    | (simp_all [prtV]; done)
    | (simp_all [prtV]; intros; omega)
def c_s_PortValid : CS := csOf [.inr [.int, .int, .int, .int, .int, .int, .int, .gots, .bool, .int, .int, .ints, .int, .int, .bool, .bool, .bool, .bool]] (fun ⟨⟨fb, fq, fst, pe, pc, rr, rt, rl, ro, ra, sr, sl, ss, sf, mc, mh, mcc, mhc, _⟩, _⟩ K => K (.l (.v (.bool (prtV ⟨⟨fb, fq, fst⟩, pe, pc, ⟨rr, rt, rl, ro, ra⟩, ⟨sr, sl, ss, sf⟩, ⟨mc, mh, mcc, mhc⟩⟩)))))
theorem c_s_PortValid_ok : CSok Try.prog 46 c_s_PortValid := cs_ok (by kernel_rfl) con_s_PortValid

def env_i_portCopy : Env := [(79, c_i_recvCopy), (80, c_i_sendCopy)]
theorem env_i_portCopy_ok : EnvOk Try.prog env_i_portCopy := envAll_ok ⟨c_i_recvCopy_ok, c_i_sendCopy_ok, trivial⟩
def tr_i_portCopy : Nat → Tr := fun n => match n with
  | _ => .nil
set_option maxRecDepth 100000 in
set_option maxHeartbeats 2000000 in
theorem con_i_portCopy : Con Try.prog 56 [.inr [.int, .int, .int, .int, .int, .int, .int, .gots, .bool, .int, .int, .ints, .int, .int, .bool, .bool, .bool, .bool]] (fun ⟨⟨fb, fq, fst, pe, pc, rr, rt, rl, ro, ra, sr, sl, ss, sf, mc, mh, mcc, mhc, _⟩, _⟩ K => K (.a (Prt.d ⟨⟨fb, fq, fst⟩, pe, pc, ⟨rr, rt, rl, ro, ra⟩, ⟨sr, sl, ss, sf⟩, ⟨mc, mh, mcc, mhc⟩⟩))) := by
  refine con_ofN (TR := tr_i_portCopy) tab_ok mixed_ok env_i_portCopy_ok Try.func56 rfl ?_
  rintro ⟨⟨(fb : Int), (fq : Int), (fst : Int), (pe : Int), (pc : Int), (rr : Int), (rt : Int), (rl : List (Int × Int)), (ro : Bool), (ra : Int), (sr : Int), (sl : List Int), (ss : Int), (sf : Int), (mc : Bool), (mh : Bool), (mcc : Bool), (mhc : Bool), _⟩, _⟩ K hK ⟨⟨_, _, _, _, _, _, _, hrl, _, _, _, hsl, _⟩, _⟩
  replace hK : K (.a (Prt.d ⟨⟨fb, fq, fst⟩, pe, pc, ⟨rr, rt, rl, ro, ra⟩, ⟨sr, sl, ss, sf⟩, ⟨mc, mh, mcc, mhc⟩⟩)) := hK
  replace hrl : rl.length ≤ 1099511627776 := hrl
  replace hsl : sl.length ≤ 1099511627776 := hsl
  repeat' ((conv => whnf); (first | (refine Side.mk ?_ ?_; focus (first | omega | with_reducible assumption | kernel_rfl | exact rfl | (with_reducible first | omega | exact rngI (by omega) | (and_intros <;> first | trivial | omega | exact rngI (by omega))) | (dsimp only [EL.len]; with_reducible first | omega | exact rngI (by omega) | (and_intros <;> first | trivial | omega | exact rngI (by omega))) | with_reducible exact rngB (by omega) | with_reducible exact rngI ⟨by decide, by decide⟩ | exact ⟨rfl, trivial⟩ | exact ⟨rfl, rfl, trivial⟩ | exact ⟨⟨rfl, rfl, rfl, rfl⟩, trivial⟩ | (show (_ : Int) ≤ _ ∧ (_ : Int) ≤ _; omega) | (show (_ : Int) ≤ _; omega) | (simp only [EL.len, EL.sz, EL.take, EL.drop, maxL, la, ln, lc, ld, lt, ls, lna]; with_reducible first | omega | exact rngI (by omega) | (and_intros <;> first | trivial | omega | exact rngI (by omega))) | (simp only [EL.len, EL.sz, EL.take, EL.drop, maxL, la, ln, lc, ld, lt, ls, lna] at *; with_reducible first | omega | exact rngI (by omega) | (and_intros <;> first | trivial | omega | exact rngI (by omega))))) | (refine End.mk ?_; exact hF) | refine End.mk ?_ | refine brT ?_ | refine brF ?_ | (refine brT' ?_ ?_; focus with_reducible assumption) | (refine brF' ?_ ?_; focus with_reducible assumption) | (refine Br.mk ?_ ?_ <;> (intro hb; have h := hb; (try simp only [decide_eq_true_eq, decide_eq_false_iff_not, Bool.not_eq_true', Bool.not_eq_false', Bool.not_eq_eq_eq_not, Bool.not_true, Bool.not_false, ge_iff_le, gt_iff_lt, Bool.and_eq_true, Bool.and_eq_false_iff, Bool.or_eq_true, Bool.or_eq_false_iff, beq_self_eq_true, not_true_eq_false, and_self, Bool.true_eq_false, Bool.false_eq_true, not_false_eq_true] at h); (try dsimp only [EL.len] at h); (try (exfalso; first | omega | exact bnF h (by with_reducible assumption) | exact bnT h (by with_reducible assumption))))) | (refine fun (y : Int) (h0 : 0 ≤ y) h1 => ?_)))
  (refine Exists.intro _ (And.intro ?_ hK); repeat' (first | (refine Side.mk ?_ ?_; focus (first | with_reducible exact rfl | exact Eq.refl true | exact Eq.refl false)) | (refine Side.mk ?_ ?_) | exact True.intro)); all_goals (first | exact rfl | (simp; done))
def c_i_portCopy : CS := csOf [.inr [.int, .int, .int, .int, .int, .int, .int, .gots, .bool, .int, .int, .ints, .int, .int, .bool, .bool, .bool, .bool]] (fun ⟨⟨fb, fq, fst, pe, pc, rr, rt, rl, ro, ra, sr, sl, ss, sf, mc, mh, mcc, mhc, _⟩, _⟩ K => K (.a (Prt.d ⟨⟨fb, fq, fst⟩, pe, pc, ⟨rr, rt, rl, ro, ra⟩, ⟨sr, sl, ss, sf⟩, ⟨mc, mh, mcc, mhc⟩⟩)))
theorem c_i_portCopy_ok : CSok Try.prog 56 c_i_portCopy := cs_ok (by kernel_rfl) con_i_portCopy

def env_s_l15Copy : Env := []
theorem env_s_l15Copy_ok : EnvOk Try.prog env_s_l15Copy := envAll_ok trivial
def tr_s_l15Copy : Nat → Tr := fun n => match n with
  | _ => .nil
set_option maxRecDepth 100000 in
set_option maxHeartbeats 2000000 in
theorem con_s_l15Copy : Con Try.prog 48 [.inr [.int, .int, .int, .int, .int, .int, .int, .gots, .bool, .int, .int, .ints, .int, .int, .bool, .bool, .bool, .bool]] (fun ⟨⟨fb, fq, fst, pe, pc, rr, rt, rl, ro, ra, sr, sl, ss, sf, mc, mh, mcc, mhc, _⟩, _⟩ K => K (.a (Prt.d ⟨⟨fb, fq, fst⟩, pe, pc, ⟨rr, rt, rl, ro, ra⟩, ⟨sr, sl, ss, sf⟩, ⟨mc, mh, mcc, mhc⟩⟩))) := by
  refine con_ofN (TR := tr_s_l15Copy) tab_ok mixed_ok env_s_l15Copy_ok Try.func48 rfl ?_
  rintro ⟨⟨(fb : Int), (fq : Int), (fst : Int), (pe : Int), (pc : Int), (rr : Int), (rt : Int), (rl : List (Int × Int)), (ro : Bool), (ra : Int), (sr : Int), (sl : List Int), (ss : Int), (sf : Int), (mc : Bool), (mh : Bool), (mcc : Bool), (mhc : Bool), _⟩, _⟩ K hK ⟨⟨_, _, _, _, _, _, _, hrl, _, _, _, hsl, _⟩, _⟩
  replace hK : K (.a (Prt.d ⟨⟨fb, fq, fst⟩, pe, pc, ⟨rr, rt, rl, ro, ra⟩, ⟨sr, sl, ss, sf⟩, ⟨mc, mh, mcc, mhc⟩⟩)) := hK
  replace hrl : rl.length ≤ 1099511627776 := hrl
  replace hsl : sl.length ≤ 1099511627776 := hsl
  repeat' ((conv => whnf); (first | (refine Side.mk ?_ ?_; focus (first | omega | with_reducible assumption | kernel_rfl | exact rfl | (with_reducible first | omega | exact rngI (by omega) | (and_intros <;> first | trivial | omega | exact rngI (by omega))) | (dsimp only [EL.len]; with_reducible first | omega | exact rngI (by omega) | (and_intros <;> first | trivial | omega | exact rngI (by omega))) | with_reducible exact rngB (by omega) | with_reducible exact rngI ⟨by decide, by decide⟩ | exact ⟨rfl, trivial⟩ | exact ⟨rfl, rfl, trivial⟩ | exact ⟨⟨rfl, rfl, rfl, rfl⟩, trivial⟩ | (show (_ : Int) ≤ _ ∧ (_ : Int) ≤ _; omega) | (show (_ : Int) ≤ _; omega) | (simp only [EL.len, EL.sz, EL.take, EL.drop, maxL, la, ln, lc, ld, lt, ls, lna]; with_reducible first | omega | exact rngI (by omega) | (and_intros <;> first | trivial | omega | exact rngI (by omega))) | (simp only [EL.len, EL.sz, EL.take, EL.drop, maxL, la, ln, lc, ld, lt, ls, lna] at *; with_reducible first | omega | exact rngI (by omega) | (and_intros <;> first | trivial | omega | exact rngI (by omega))))) | (refine End.mk ?_; exact hF) | refine End.mk ?_ | refine brT ?_ | refine brF ?_ | (refine brT' ?_ ?_; focus with_reducible assumption) | (refine brF' ?_ ?_; focus with_reducible assumption) | (refine Br.mk ?_ ?_ <;> (intro hb; have h := hb; (try simp only [decide_eq_true_eq, decide_eq_false_iff_not, Bool.not_eq_true', Bool.not_eq_false', Bool.not_eq_eq_eq_not, Bool.not_true, Bool.not_false, ge_iff_le, gt_iff_lt, Bool.and_eq_true, Bool.and_eq_false_iff, Bool.or_eq_true, Bool.or_eq_false_iff, beq_self_eq_true, not_true_eq_false, and_self, Bool.true_eq_false, Bool.false_eq_true, not_false_eq_true] at h); (try dsimp only [EL.len] at h); (try (exfalso; first | omega | exact bnF h (by with_reducible assumption) | exact bnT h (by with_reducible assumption))))) | (refine fun (y : Int) (h0 : 0 ≤ y) h1 => ?_)))
  (refine Exists.intro _ (And.intro ?_ hK); repeat' (first | (refine Side.mk ?_ ?_; focus (first | with_reducible exact rfl | exact Eq.refl true | exact Eq.refl false)) | (refine Side.mk ?_ ?_) | exact True.intro)); all_goals (first | exact rfl | (simp; done))
def c_s_l15Copy : CS := csOf [.inr [.int, .int, .int, .int, .int, .int, .int, .gots, .bool, .int, .int, .ints, .int, .int, .bool, .bool, .bool, .bool]] (fun ⟨⟨fb, fq, fst, pe, pc, rr, rt, rl, ro, ra, sr, sl, ss, sf, mc, mh, mcc, mhc, _⟩, _⟩ K => K (.a (Prt.d ⟨⟨fb, fq, fst⟩, pe, pc, ⟨rr, rt, rl, ro, ra⟩, ⟨sr, sl, ss, sf⟩, ⟨mc, mh, mcc, mhc⟩⟩)))
theorem c_s_l15Copy_ok : CSok Try.prog 48 c_s_l15Copy := cs_ok (by kernel_rfl) con_s_l15Copy

def env_s_l15Status : Env := [(133, c_s_RecvStatus), (134, c_s_SendStatus)]
theorem env_s_l15Status_ok : EnvOk Try.prog env_s_l15Status := envAll_ok ⟨c_s_RecvStatus_ok, c_s_SendStatus_ok, trivial⟩
def tr_s_l15Status : Nat → Tr := fun n => match n with
  | 1 => .op 0 0 (.op 1 0 (.op 3 0 (.op 4 0 (.op 2 1 (.op 5 1 (.op 6 1 (.op 7 2 (.nil))))))))
  | _ => .nil
set_option maxRecDepth 100000 in
set_option maxHeartbeats 2000000 in
theorem con_s_l15Status : Con Try.prog 123 [.inr [.int, .int, .int, .int, .int, .int, .int, .gots, .bool, .int, .int, .ints, .int, .int, .bool, .bool, .bool, .bool]] (fun ⟨⟨fb, fq, fst, pe, pc, rr, rt, rl, ro, ra, sr, sl, ss, sf, mc, mh, mcc, mhc, _⟩, _⟩ K => Side (rng .i64 (rstatN ⟨rr, rt, rl, ro, ra⟩ + statN ⟨sr, sl, ss, sf⟩)) <| K (.l (.v (.int .i64 (rstatN ⟨rr, rt, rl, ro, ra⟩ + statN ⟨sr, sl, ss, sf⟩))))) := by
  refine con_ofN (TR := tr_s_l15Status) tab_ok mixed_ok env_s_l15Status_ok Try.func123 rfl ?_
  rintro ⟨⟨(fb : Int), (fq : Int), (fst : Int), (pe : Int), (pc : Int), (rr : Int), (rt : Int), (rl : List (Int × Int)), (ro : Bool), (ra : Int), (sr : Int), (sl : List Int), (ss : Int), (sf : Int), (mc : Bool), (mh : Bool), (mcc : Bool), (mhc : Bool), _⟩, _⟩ K ⟨hv, hK⟩ _
  replace hK : K (.l (.v (.int .i64 (rstatN ⟨rr, rt, rl, ro, ra⟩ + statN ⟨sr, sl, ss, sf⟩)))) := hK
  replace hv : rng .i64 (rstatN ⟨rr, rt, rl, ro, ra⟩ + statN ⟨sr, sl, ss, sf⟩) := hv
  repeat' ((conv => whnf); (first | (refine Side.mk ?_ ?_; focus (first | omega | with_reducible assumption | kernel_rfl | exact rfl | (with_reducible first | omega | exact rngI (by omega) | (and_intros <;> first | trivial | omega | exact rngI (by omega))) | (dsimp only [EL.len]; with_reducible first | omega | exact rngI (by omega) | (and_intros <;> first | trivial | omega | exact rngI (by omega))) | with_reducible exact rngB (by omega) | with_reducible exact rngI ⟨by decide, by decide⟩ | exact ⟨rfl, trivial⟩ | exact ⟨rfl, rfl, trivial⟩ | exact ⟨⟨rfl, rfl, rfl, rfl⟩, trivial⟩ | (show (_ : Int) ≤ _ ∧ (_ : Int) ≤ _; omega) | (show (_ : Int) ≤ _; omega) | (simp only [EL.len, EL.sz, EL.take, EL.drop, maxL, la, ln, lc, ld, lt, ls, lna]; with_reducible first | omega | exact rngI (by omega) | (and_intros <;> first | trivial | omega | exact rngI (by omega))) | (simp only [EL.len, EL.sz, EL.take, EL.drop, maxL, la, ln, lc, ld, lt, ls, lna] at *; with_reducible first | omega | exact rngI (by omega) | (and_intros <;> first | trivial | omega | exact rngI (by omega))))) | (refine End.mk ?_; exact hF) | refine End.mk ?_ | refine brT ?_ | refine brF ?_ | (refine brT' ?_ ?_; focus with_reducible assumption) | (refine brF' ?_ ?_; focus with_reducible assumption) | (refine Br.mk ?_ ?_ <;> (intro hb; have h := hb; (try simp only [decide_eq_true_eq, decide_eq_false_iff_not, Bool.not_eq_true', Bool.not_eq_false', Bool.not_eq_eq_eq_not, Bool.not_true, Bool.not_false, ge_iff_le, gt_iff_lt, Bool.and_eq_true, Bool.and_eq_false_iff, Bool.or_eq_true, Bool.or_eq_false_iff, beq_self_eq_true, not_true_eq_false, and_self, Bool.true_eq_false, Bool.false_eq_true, not_false_eq_true] at h); (try dsimp only [EL.len] at h); (try (exfalso; first | omega | exact bnF h (by with_reducible assumption) | exact bnT h (by with_reducible assumption))))) | (refine fun (y : Int) (h0 : 0 ≤ y) h1 => ?_)))
  all_goals (refine Exists.intro _ (And.intro ?_ hK); repeat' (first | (refine Side.mk ?_ ?_; focus (first | with_reducible exact rfl | exact Eq.refl true | exact Eq.refl false)) | (refine Side.mk ?_ ?_) | exact True.intro)); all_goals (first | exact rfl | (simp; done))
def c_s_l15Status : CS := csOf [.inr [.int, .int, .int, .int, .int, .int, .int, .gots, .bool, .int, .int, .ints, .int, .int, .bool, .bool, .bool, .bool]] (fun ⟨⟨fb, fq, fst, pe, pc, rr, rt, rl, ro, ra, sr, sl, ss, sf, mc, mh, mcc, mhc, _⟩, _⟩ K => Side (rng .i64 (rstatN ⟨rr, rt, rl, ro, ra⟩ + statN ⟨sr, sl, ss, sf⟩)) <| K (.l (.v (.int .i64 (rstatN ⟨rr, rt, rl, ro, ra⟩ + statN ⟨sr, sl, ss, sf⟩)))))
theorem c_s_l15Status_ok : CSok Try.prog 123 c_s_l15Status := cs_ok (by kernel_rfl) con_s_l15Status


end Go.Proofs.Ytkhggobpanfkfaa
