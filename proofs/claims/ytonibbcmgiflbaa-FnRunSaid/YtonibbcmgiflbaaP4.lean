/-
  Ports: what is valid, copies, the status; by the abstract walk.
-/
import Derived.Test.YtonibbcmgiflbaaP3
import Derived.Test.YtonibbcmgiflbaaR3
namespace Go.Proofs.Ytonibbcmgiflbaa
open Go.RowKit
open Ab
set_option linter.unusedSimpArgs false
set_option linter.unusedVariables false

def env_i_endsOf : Env := []
theorem env_i_endsOf_ok : EnvOk Try.prog env_i_endsOf := envAll_ok trivial
def tr_i_endsOf : Nat → Tr := fun n => match n with
  | _ => .nil
def c_i_endsOf : CS := csN tab env_i_endsOf tr_i_endsOf Try.f83
theorem c_i_endsOf_ok : CSok Try.prog 83 c_i_endsOf := csN_ok tab_ok mixed_ok env_i_endsOf_ok Try.func83 (by kernel_rfl)

def env_i_portEnds_valid : Env := [(55, c_i_RecvValid), (49, c_i_SendValid)]
theorem env_i_portEnds_valid_ok : EnvOk Try.prog env_i_portEnds_valid := envAll_ok ⟨c_i_RecvValid_ok, c_i_SendValid_ok, trivial⟩
def tr_i_portEnds_valid : Nat → Tr := fun n => match n with
  | _ => .nil
set_option maxRecDepth 100000 in
set_option maxHeartbeats 2000000 in
theorem con_i_portEnds_valid : Con Try.prog 84 [.inr [.int, .int, .gots, .bool, .int, .int, .ints, .int, .int]] (fun ⟨⟨rr, rt, rl, ro, ra, sr, sl, ss, sf, _⟩, _⟩ K => K (.l (.v (.bool (rcvV ⟨rr, rt, rl, ro, ra⟩ && sndV ⟨sr, sl, ss, sf⟩))))) := by
  refine con_ofN (TR := tr_i_portEnds_valid) tab_ok mixed_ok env_i_portEnds_valid_ok Try.func84 rfl ?_
  rintro ⟨⟨(rr : Int), (rt : Int), (rl : List (Int × Int)), (ro : Bool), (ra : Int), (sr : Int), (sl : List Int), (ss : Int), (sf : Int), _⟩, _⟩ K hK _
  replace hK : K (.l (.v (.bool (rcvV ⟨rr, rt, rl, ro, ra⟩ && sndV ⟨sr, sl, ss, sf⟩)))) := hK
  repeat' ((conv => whnf); (first | (refine Side.mk ?_ ?_; focus (first | omega | kernel_rfl | with_reducible assumption | exact rfl | (with_reducible first | omega | exact rngI (by omega) | (and_intros <;> first | trivial | omega | exact rngI (by omega))) | (dsimp only [EL.len]; with_reducible first | omega | exact rngI (by omega) | (and_intros <;> first | trivial | omega | exact rngI (by omega))) | with_reducible exact rngB (by omega) | with_reducible exact rngI ⟨by decide, by decide⟩ | exact ⟨rfl, trivial⟩ | exact ⟨rfl, rfl, trivial⟩ | exact ⟨⟨rfl, rfl, rfl, rfl⟩, trivial⟩ | (simp only [EL.len, EL.sz, EL.take, EL.drop, maxL, la, ln, lc, ld, lt, ls, lna]; with_reducible first | omega | exact rngI (by omega) | (and_intros <;> first | trivial | omega | exact rngI (by omega))) | (simp only [EL.len, EL.sz, EL.take, EL.drop, maxL, la, ln, lc, ld, lt, ls, lna] at *; with_reducible first | omega | exact rngI (by omega) | (and_intros <;> first | trivial | omega | exact rngI (by omega))) | (show (_ : Int) ≤ _ ∧ (_ : Int) ≤ _; omega) | (show (_ : Int) ≤ _; omega))) | (refine End.mk ?_; exact hF) | refine End.mk ?_ | refine brT ?_ | refine brF ?_ | (refine brT' ?_ ?_; focus with_reducible assumption) | (refine brF' ?_ ?_; focus with_reducible assumption) | (refine Br.mk ?_ ?_ <;> (intro hb; have h := hb; (try simp only [decide_eq_true_eq, decide_eq_false_iff_not, Bool.not_eq_true', Bool.not_eq_false', Bool.not_eq_eq_eq_not, Bool.not_true, Bool.not_false, ge_iff_le, gt_iff_lt, Bool.and_eq_true, Bool.and_eq_false_iff, Bool.or_eq_true, Bool.or_eq_false_iff, beq_self_eq_true, not_true_eq_false, and_self, Bool.true_eq_false, Bool.false_eq_true, not_false_eq_true] at h); (try dsimp only [EL.len] at h); (try (exfalso; first | omega | exact bnF h (by with_reducible assumption) | exact bnT h (by with_reducible assumption))))) | (refine fun (y : Int) (h0 : 0 ≤ y) h1 => ?_)))
  all_goals
    (refine Exists.intro _ (And.intro ?_ hK); repeat' (first | (refine Side.mk ?_ ?_; focus (first | with_reducible exact rfl | exact Eq.refl true | exact Eq.refl false)) | (refine Side.mk ?_ ?_) | exact True.intro))
    simp [*]
def c_i_portEnds_valid : CS := csOf [.inr [.int, .int, .gots, .bool, .int, .int, .ints, .int, .int]] (fun ⟨⟨rr, rt, rl, ro, ra, sr, sl, ss, sf, _⟩, _⟩ K => K (.l (.v (.bool (rcvV ⟨rr, rt, rl, ro, ra⟩ && sndV ⟨sr, sl, ss, sf⟩)))))
theorem c_i_portEnds_valid_ok : CSok Try.prog 84 c_i_portEnds_valid := cs_ok (by kernel_rfl) con_i_portEnds_valid



def env_i_PortValid : Env := [(82, c_i_FormatValid), (83, c_i_endsOf), (84, c_i_portEnds_valid)]
theorem env_i_PortValid_ok : EnvOk Try.prog env_i_PortValid := envAll_ok ⟨c_i_FormatValid_ok, c_i_endsOf_ok, c_i_portEnds_valid_ok, trivial⟩
def tr_i_PortValid : Nat → Tr := fun n => match n with
  | _ => .nil
set_option maxRecDepth 100000 in
set_option maxHeartbeats 2000000 in
theorem con_i_PortValid : Con Try.prog 53 [.inr [.int, .int, .int, .int, .int, .int, .int, .gots, .bool, .int, .int, .ints, .int, .int, .bool, .bool, .bool, .bool]] (fun ⟨⟨fb, fq, fst, pe, pc, rr, rt, rl, ro, ra, sr, sl, ss, sf, mc, mh, mcc, mhc, _⟩, _⟩ K => K (.l (.v (.bool (prtV ⟨⟨fb, fq, fst⟩, pe, pc, ⟨rr, rt, rl, ro, ra⟩, ⟨sr, sl, ss, sf⟩, ⟨mc, mh, mcc, mhc⟩⟩))))) := by
  refine con_ofN (TR := tr_i_PortValid) tab_ok mixed_ok env_i_PortValid_ok Try.func53 rfl ?_
  rintro ⟨⟨(fb : Int), (fq : Int), (fst : Int), (pe : Int), (pc : Int), (rr : Int), (rt : Int), (rl : List (Int × Int)), (ro : Bool), (ra : Int), (sr : Int), (sl : List Int), (ss : Int), (sf : Int), (mc : Bool), (mh : Bool), (mcc : Bool), (mhc : Bool), _⟩, _⟩ K hK _
  replace hK : K (.l (.v (.bool (prtV ⟨⟨fb, fq, fst⟩, pe, pc, ⟨rr, rt, rl, ro, ra⟩, ⟨sr, sl, ss, sf⟩, ⟨mc, mh, mcc, mhc⟩⟩)))) := hK
  repeat' ((conv => whnf); (first | (refine Side.mk ?_ ?_; focus (first | omega | kernel_rfl | with_reducible assumption | exact rfl | (with_reducible first | omega | exact rngI (by omega) | (and_intros <;> first | trivial | omega | exact rngI (by omega))) | (dsimp only [EL.len]; with_reducible first | omega | exact rngI (by omega) | (and_intros <;> first | trivial | omega | exact rngI (by omega))) | with_reducible exact rngB (by omega) | with_reducible exact rngI ⟨by decide, by decide⟩ | exact ⟨rfl, trivial⟩ | exact ⟨rfl, rfl, trivial⟩ | exact ⟨⟨rfl, rfl, rfl, rfl⟩, trivial⟩ | (simp only [EL.len, EL.sz, EL.take, EL.drop, maxL, la, ln, lc, ld, lt, ls, lna]; with_reducible first | omega | exact rngI (by omega) | (and_intros <;> first | trivial | omega | exact rngI (by omega))) | (simp only [EL.len, EL.sz, EL.take, EL.drop, maxL, la, ln, lc, ld, lt, ls, lna] at *; with_reducible first | omega | exact rngI (by omega) | (and_intros <;> first | trivial | omega | exact rngI (by omega))) | (show (_ : Int) ≤ _ ∧ (_ : Int) ≤ _; omega) | (show (_ : Int) ≤ _; omega))) | (refine End.mk ?_; exact hF) | refine End.mk ?_ | refine brT ?_ | refine brF ?_ | (refine brT' ?_ ?_; focus with_reducible assumption) | (refine brF' ?_ ?_; focus with_reducible assumption) | (refine Br.mk ?_ ?_ <;> (intro hb; have h := hb; (try simp only [decide_eq_true_eq, decide_eq_false_iff_not, Bool.not_eq_true', Bool.not_eq_false', Bool.not_eq_eq_eq_not, Bool.not_true, Bool.not_false, ge_iff_le, gt_iff_lt, Bool.and_eq_true, Bool.and_eq_false_iff, Bool.or_eq_true, Bool.or_eq_false_iff, beq_self_eq_true, not_true_eq_false, and_self, Bool.true_eq_false, Bool.false_eq_true, not_false_eq_true] at h); (try dsimp only [EL.len] at h); (try (exfalso; first | omega | exact bnF h (by with_reducible assumption) | exact bnT h (by with_reducible assumption))))) | (refine fun (y : Int) (h0 : 0 ≤ y) h1 => ?_)))
  all_goals
    (refine Exists.intro _ (And.intro ?_ hK); repeat' (first | (refine Side.mk ?_ ?_; focus (first | with_reducible exact rfl | exact Eq.refl true | exact Eq.refl false)) | (refine Side.mk ?_ ?_) | exact True.intro))
    first
    | (simp_all [prtV]; done)
    | (simp_all [prtV]; intros; omega)
def c_i_PortValid : CS := csOf [.inr [.int, .int, .int, .int, .int, .int, .int, .gots, .bool, .int, .int, .ints, .int, .int, .bool, .bool, .bool, .bool]] (fun ⟨⟨fb, fq, fst, pe, pc, rr, rt, rl, ro, ra, sr, sl, ss, sf, mc, mh, mcc, mhc, _⟩, _⟩ K => K (.l (.v (.bool (prtV ⟨⟨fb, fq, fst⟩, pe, pc, ⟨rr, rt, rl, ro, ra⟩, ⟨sr, sl, ss, sf⟩, ⟨mc, mh, mcc, mhc⟩⟩)))))
theorem c_i_PortValid_ok : CSok Try.prog 53 c_i_PortValid := cs_ok (by kernel_rfl) con_i_PortValid

def env_s_PortValid : Env := [(104, c_s_FormatValid), (64, c_s_l6In), (105, c_s_RecvValid), (73, c_s_SendValid)]
theorem env_s_PortValid_ok : EnvOk Try.prog env_s_PortValid := envAll_ok ⟨c_s_FormatValid_ok, c_s_l6In_ok, c_s_RecvValid_ok, c_s_SendValid_ok, trivial⟩
def tr_s_PortValid : Nat → Tr := fun n => match n with
  | _ => .nil
set_option maxRecDepth 100000 in
set_option maxHeartbeats 2000000 in
theorem con_s_PortValid : Con Try.prog 72 [.inr [.int, .int, .int, .int, .int, .int, .int, .gots, .bool, .int, .int, .ints, .int, .int, .bool, .bool, .bool, .bool]] (fun ⟨⟨fb, fq, fst, pe, pc, rr, rt, rl, ro, ra, sr, sl, ss, sf, mc, mh, mcc, mhc, _⟩, _⟩ K => K (.l (.v (.bool (prtV ⟨⟨fb, fq, fst⟩, pe, pc, ⟨rr, rt, rl, ro, ra⟩, ⟨sr, sl, ss, sf⟩, ⟨mc, mh, mcc, mhc⟩⟩))))) := by
  refine con_ofN (TR := tr_s_PortValid) tab_ok mixed_ok env_s_PortValid_ok Try.func72 rfl ?_
  rintro ⟨⟨(fb : Int), (fq : Int), (fst : Int), (pe : Int), (pc : Int), (rr : Int), (rt : Int), (rl : List (Int × Int)), (ro : Bool), (ra : Int), (sr : Int), (sl : List Int), (ss : Int), (sf : Int), (mc : Bool), (mh : Bool), (mcc : Bool), (mhc : Bool), _⟩, _⟩ K hK _
  replace hK : K (.l (.v (.bool (prtV ⟨⟨fb, fq, fst⟩, pe, pc, ⟨rr, rt, rl, ro, ra⟩, ⟨sr, sl, ss, sf⟩, ⟨mc, mh, mcc, mhc⟩⟩)))) := hK
  repeat' ((conv => whnf); (first | (refine Side.mk ?_ ?_; focus (first | omega | kernel_rfl | with_reducible assumption | exact rfl | (with_reducible first | omega | exact rngI (by omega) | (and_intros <;> first | trivial | omega | exact rngI (by omega))) | (dsimp only [EL.len]; with_reducible first | omega | exact rngI (by omega) | (and_intros <;> first | trivial | omega | exact rngI (by omega))) | with_reducible exact rngB (by omega) | with_reducible exact rngI ⟨by decide, by decide⟩ | exact ⟨rfl, trivial⟩ | exact ⟨rfl, rfl, trivial⟩ | exact ⟨⟨rfl, rfl, rfl, rfl⟩, trivial⟩ | (simp only [EL.len, EL.sz, EL.take, EL.drop, maxL, la, ln, lc, ld, lt, ls, lna]; with_reducible first | omega | exact rngI (by omega) | (and_intros <;> first | trivial | omega | exact rngI (by omega))) | (simp only [EL.len, EL.sz, EL.take, EL.drop, maxL, la, ln, lc, ld, lt, ls, lna] at *; with_reducible first | omega | exact rngI (by omega) | (and_intros <;> first | trivial | omega | exact rngI (by omega))) | (show (_ : Int) ≤ _ ∧ (_ : Int) ≤ _; omega) | (show (_ : Int) ≤ _; omega))) | (refine End.mk ?_; exact hF) | refine End.mk ?_ | refine brT ?_ | refine brF ?_ | (refine brT' ?_ ?_; focus with_reducible assumption) | (refine brF' ?_ ?_; focus with_reducible assumption) | (refine Br.mk ?_ ?_ <;> (intro hb; have h := hb; (try simp only [decide_eq_true_eq, decide_eq_false_iff_not, Bool.not_eq_true', Bool.not_eq_false', Bool.not_eq_eq_eq_not, Bool.not_true, Bool.not_false, ge_iff_le, gt_iff_lt, Bool.and_eq_true, Bool.and_eq_false_iff, Bool.or_eq_true, Bool.or_eq_false_iff, beq_self_eq_true, not_true_eq_false, and_self, Bool.true_eq_false, Bool.false_eq_true, not_false_eq_true] at h); (try dsimp only [EL.len] at h); (try (exfalso; first | omega | exact bnF h (by with_reducible assumption) | exact bnT h (by with_reducible assumption))))) | (refine fun (y : Int) (h0 : 0 ≤ y) h1 => ?_)))
  all_goals
    (refine Exists.intro _ (And.intro ?_ hK); repeat' (first | (refine Side.mk ?_ ?_; focus (first | with_reducible exact rfl | exact Eq.refl true | exact Eq.refl false)) | (refine Side.mk ?_ ?_) | exact True.intro))
    first
    | (simp_all [prtV]; done)
    | (simp_all [prtV]; intros; omega)
def c_s_PortValid : CS := csOf [.inr [.int, .int, .int, .int, .int, .int, .int, .gots, .bool, .int, .int, .ints, .int, .int, .bool, .bool, .bool, .bool]] (fun ⟨⟨fb, fq, fst, pe, pc, rr, rt, rl, ro, ra, sr, sl, ss, sf, mc, mh, mcc, mhc, _⟩, _⟩ K => K (.l (.v (.bool (prtV ⟨⟨fb, fq, fst⟩, pe, pc, ⟨rr, rt, rl, ro, ra⟩, ⟨sr, sl, ss, sf⟩, ⟨mc, mh, mcc, mhc⟩⟩)))))
theorem c_s_PortValid_ok : CSok Try.prog 72 c_s_PortValid := cs_ok (by kernel_rfl) con_s_PortValid

def env_i_portCopy : Env := [(56, c_i_recvCopy), (50, c_i_sendCopy)]
theorem env_i_portCopy_ok : EnvOk Try.prog env_i_portCopy := envAll_ok ⟨c_i_recvCopy_ok, c_i_sendCopy_ok, trivial⟩
def tr_i_portCopy : Nat → Tr := fun n => match n with
  | _ => .nil
set_option maxRecDepth 100000 in
set_option maxHeartbeats 2000000 in
theorem con_i_portCopy : Con Try.prog 85 [.inr [.int, .int, .int, .int, .int, .int, .int, .gots, .bool, .int, .int, .ints, .int, .int, .bool, .bool, .bool, .bool]] (fun ⟨⟨fb, fq, fst, pe, pc, rr, rt, rl, ro, ra, sr, sl, ss, sf, mc, mh, mcc, mhc, _⟩, _⟩ K => K (.a (Prt.d ⟨⟨fb, fq, fst⟩, pe, pc, ⟨rr, rt, rl, ro, ra⟩, ⟨sr, sl, ss, sf⟩, ⟨mc, mh, mcc, mhc⟩⟩))) := by
  refine con_ofN (TR := tr_i_portCopy) tab_ok mixed_ok env_i_portCopy_ok Try.func85 rfl ?_
  rintro ⟨⟨(fb : Int), (fq : Int), (fst : Int), (pe : Int), (pc : Int), (rr : Int), (rt : Int), (rl : List (Int × Int)), (ro : Bool), (ra : Int), (sr : Int), (sl : List Int), (ss : Int), (sf : Int), (mc : Bool), (mh : Bool), (mcc : Bool), (mhc : Bool), _⟩, _⟩ K hK ⟨⟨_, _, _, _, _, _, _, hrl, _, _, _, hsl, _⟩, _⟩
  replace hK : K (.a (Prt.d ⟨⟨fb, fq, fst⟩, pe, pc, ⟨rr, rt, rl, ro, ra⟩, ⟨sr, sl, ss, sf⟩, ⟨mc, mh, mcc, mhc⟩⟩)) := hK
  replace hrl : rl.length ≤ 1099511627776 := hrl
  replace hsl : sl.length ≤ 1099511627776 := hsl
  repeat' ((conv => whnf); (first | (refine Side.mk ?_ ?_; focus (first | omega | kernel_rfl | with_reducible assumption | exact rfl | (with_reducible first | omega | exact rngI (by omega) | (and_intros <;> first | trivial | omega | exact rngI (by omega))) | (dsimp only [EL.len]; with_reducible first | omega | exact rngI (by omega) | (and_intros <;> first | trivial | omega | exact rngI (by omega))) | with_reducible exact rngB (by omega) | with_reducible exact rngI ⟨by decide, by decide⟩ | exact ⟨rfl, trivial⟩ | exact ⟨rfl, rfl, trivial⟩ | exact ⟨⟨rfl, rfl, rfl, rfl⟩, trivial⟩ | (simp only [EL.len, EL.sz, EL.take, EL.drop, maxL, la, ln, lc, ld, lt, ls, lna]; with_reducible first | omega | exact rngI (by omega) | (and_intros <;> first | trivial | omega | exact rngI (by omega))) | (simp only [EL.len, EL.sz, EL.take, EL.drop, maxL, la, ln, lc, ld, lt, ls, lna] at *; with_reducible first | omega | exact rngI (by omega) | (and_intros <;> first | trivial | omega | exact rngI (by omega))) | (show (_ : Int) ≤ _ ∧ (_ : Int) ≤ _; omega) | (show (_ : Int) ≤ _; omega))) | (refine End.mk ?_; exact hF) | refine End.mk ?_ | refine brT ?_ | refine brF ?_ | (refine brT' ?_ ?_; focus with_reducible assumption) | (refine brF' ?_ ?_; focus with_reducible assumption) | (refine Br.mk ?_ ?_ <;> (intro hb; have h := hb; (try simp only [decide_eq_true_eq, decide_eq_false_iff_not, Bool.not_eq_true', Bool.not_eq_false', Bool.not_eq_eq_eq_not, Bool.not_true, Bool.not_false, ge_iff_le, gt_iff_lt, Bool.and_eq_true, Bool.and_eq_false_iff, Bool.or_eq_true, Bool.or_eq_false_iff, beq_self_eq_true, not_true_eq_false, and_self, Bool.true_eq_false, Bool.false_eq_true, not_false_eq_true] at h); (try dsimp only [EL.len] at h); (try (exfalso; first | omega | exact bnF h (by with_reducible assumption) | exact bnT h (by with_reducible assumption))))) | (refine fun (y : Int) (h0 : 0 ≤ y) h1 => ?_)))
  (refine Exists.intro _ (And.intro ?_ hK); repeat' (first | (refine Side.mk ?_ ?_; focus (first | with_reducible exact rfl | exact Eq.refl true | exact Eq.refl false)) | (refine Side.mk ?_ ?_) | exact True.intro)); all_goals (first | exact rfl | (simp; done))
def c_i_portCopy : CS := csOf [.inr [.int, .int, .int, .int, .int, .int, .int, .gots, .bool, .int, .int, .ints, .int, .int, .bool, .bool, .bool, .bool]] (fun ⟨⟨fb, fq, fst, pe, pc, rr, rt, rl, ro, ra, sr, sl, ss, sf, mc, mh, mcc, mhc, _⟩, _⟩ K => K (.a (Prt.d ⟨⟨fb, fq, fst⟩, pe, pc, ⟨rr, rt, rl, ro, ra⟩, ⟨sr, sl, ss, sf⟩, ⟨mc, mh, mcc, mhc⟩⟩)))
theorem c_i_portCopy_ok : CSok Try.prog 85 c_i_portCopy := cs_ok (by kernel_rfl) con_i_portCopy

def env_s_l15Copy : Env := []
theorem env_s_l15Copy_ok : EnvOk Try.prog env_s_l15Copy := envAll_ok trivial
def tr_s_l15Copy : Nat → Tr := fun n => match n with
  | _ => .nil
set_option maxRecDepth 100000 in
set_option maxHeartbeats 2000000 in
theorem con_s_l15Copy : Con Try.prog 65 [.inr [.int, .int, .int, .int, .int, .int, .int, .gots, .bool, .int, .int, .ints, .int, .int, .bool, .bool, .bool, .bool]] (fun ⟨⟨fb, fq, fst, pe, pc, rr, rt, rl, ro, ra, sr, sl, ss, sf, mc, mh, mcc, mhc, _⟩, _⟩ K => K (.a (Prt.d ⟨⟨fb, fq, fst⟩, pe, pc, ⟨rr, rt, rl, ro, ra⟩, ⟨sr, sl, ss, sf⟩, ⟨mc, mh, mcc, mhc⟩⟩))) := by
  refine con_ofN (TR := tr_s_l15Copy) tab_ok mixed_ok env_s_l15Copy_ok Try.func65 rfl ?_
  rintro ⟨⟨(fb : Int), (fq : Int), (fst : Int), (pe : Int), (pc : Int), (rr : Int), (rt : Int), (rl : List (Int × Int)), (ro : Bool), (ra : Int), (sr : Int), (sl : List Int), (ss : Int), (sf : Int), (mc : Bool), (mh : Bool), (mcc : Bool), (mhc : Bool), _⟩, _⟩ K hK ⟨⟨_, _, _, _, _, _, _, hrl, _, _, _, hsl, _⟩, _⟩
  replace hK : K (.a (Prt.d ⟨⟨fb, fq, fst⟩, pe, pc, ⟨rr, rt, rl, ro, ra⟩, ⟨sr, sl, ss, sf⟩, ⟨mc, mh, mcc, mhc⟩⟩)) := hK
  replace hrl : rl.length ≤ 1099511627776 := hrl
  replace hsl : sl.length ≤ 1099511627776 := hsl
  repeat' ((conv => whnf); (first | (refine Side.mk ?_ ?_; focus (first | omega | kernel_rfl | with_reducible assumption | exact rfl | (with_reducible first | omega | exact rngI (by omega) | (and_intros <;> first | trivial | omega | exact rngI (by omega))) | (dsimp only [EL.len]; with_reducible first | omega | exact rngI (by omega) | (and_intros <;> first | trivial | omega | exact rngI (by omega))) | with_reducible exact rngB (by omega) | with_reducible exact rngI ⟨by decide, by decide⟩ | exact ⟨rfl, trivial⟩ | exact ⟨rfl, rfl, trivial⟩ | exact ⟨⟨rfl, rfl, rfl, rfl⟩, trivial⟩ | (simp only [EL.len, EL.sz, EL.take, EL.drop, maxL, la, ln, lc, ld, lt, ls, lna]; with_reducible first | omega | exact rngI (by omega) | (and_intros <;> first | trivial | omega | exact rngI (by omega))) | (simp only [EL.len, EL.sz, EL.take, EL.drop, maxL, la, ln, lc, ld, lt, ls, lna] at *; with_reducible first | omega | exact rngI (by omega) | (and_intros <;> first | trivial | omega | exact rngI (by omega))) | (show (_ : Int) ≤ _ ∧ (_ : Int) ≤ _; omega) | (show (_ : Int) ≤ _; omega))) | (refine End.mk ?_; exact hF) | refine End.mk ?_ | refine brT ?_ | refine brF ?_ | (refine brT' ?_ ?_; focus with_reducible assumption) | (refine brF' ?_ ?_; focus with_reducible assumption) | (refine Br.mk ?_ ?_ <;> (intro hb; have h := hb; (try simp only [decide_eq_true_eq, decide_eq_false_iff_not, Bool.not_eq_true', Bool.not_eq_false', Bool.not_eq_eq_eq_not, Bool.not_true, Bool.not_false, ge_iff_le, gt_iff_lt, Bool.and_eq_true, Bool.and_eq_false_iff, Bool.or_eq_true, Bool.or_eq_false_iff, beq_self_eq_true, not_true_eq_false, and_self, Bool.true_eq_false, Bool.false_eq_true, not_false_eq_true] at h); (try dsimp only [EL.len] at h); (try (exfalso; first | omega | exact bnF h (by with_reducible assumption) | exact bnT h (by with_reducible assumption))))) | (refine fun (y : Int) (h0 : 0 ≤ y) h1 => ?_)))
  (refine Exists.intro _ (And.intro ?_ hK); repeat' (first | (refine Side.mk ?_ ?_; focus (first | with_reducible exact rfl | exact Eq.refl true | exact Eq.refl false)) | (refine Side.mk ?_ ?_) | exact True.intro)); all_goals (first | exact rfl | (simp; done))
def c_s_l15Copy : CS := csOf [.inr [.int, .int, .int, .int, .int, .int, .int, .gots, .bool, .int, .int, .ints, .int, .int, .bool, .bool, .bool, .bool]] (fun ⟨⟨fb, fq, fst, pe, pc, rr, rt, rl, ro, ra, sr, sl, ss, sf, mc, mh, mcc, mhc, _⟩, _⟩ K => K (.a (Prt.d ⟨⟨fb, fq, fst⟩, pe, pc, ⟨rr, rt, rl, ro, ra⟩, ⟨sr, sl, ss, sf⟩, ⟨mc, mh, mcc, mhc⟩⟩)))
theorem c_s_l15Copy_ok : CSok Try.prog 65 c_s_l15Copy := cs_ok (by kernel_rfl) con_s_l15Copy


def env_l_samePort : Env := [(27, c_l_sameRecv), (24, c_l_sameSend)]
theorem env_l_samePort_ok : EnvOk Try.prog env_l_samePort := envAll_ok ⟨c_l_sameRecv_ok, c_l_sameSend_ok, trivial⟩
def tr_l_samePort : Nat → Tr := fun n => match n with
  | _ => .nil
set_option maxRecDepth 100000 in
set_option maxHeartbeats 2000000 in
theorem con_l_samePort : Con Try.prog 48 [.inr [.int, .int, .int, .int, .int, .int, .int, .gots, .bool, .int, .int, .ints, .int, .int, .bool, .bool, .bool, .bool], .inr [.int, .int, .int, .int, .int, .int, .int, .gots, .bool, .int, .int, .ints, .int, .int, .bool, .bool, .bool, .bool]] (fun ⟨⟨fb, fq, fst, pe, pc, rr, rt, rl, ro, ra, sr, sl, ss, sf, mc, mh, mcc, mhc, _⟩, ⟨fb2, fq2, fst2, pe2, pc2, rr2, rt2, rl2, ro2, ra2, sr2, sl2, ss2, sf2, mc2, mh2, mcc2, mhc2, _⟩, _⟩ K => K (.l (.v (.bool (sameP ⟨⟨fb, fq, fst⟩, pe, pc, ⟨rr, rt, rl, ro, ra⟩, ⟨sr, sl, ss, sf⟩, ⟨mc, mh, mcc, mhc⟩⟩ ⟨⟨fb2, fq2, fst2⟩, pe2, pc2, ⟨rr2, rt2, rl2, ro2, ra2⟩, ⟨sr2, sl2, ss2, sf2⟩, ⟨mc2, mh2, mcc2, mhc2⟩⟩))))) := by
  refine con_ofN (TR := tr_l_samePort) tab_ok mixed_ok env_l_samePort_ok Try.func48 rfl ?_
  rintro ⟨⟨(fb : Int), (fq : Int), (fst : Int), (pe : Int), (pc : Int), (rr : Int), (rt : Int), (rl : List (Int × Int)), (ro : Bool), (ra : Int), (sr : Int), (sl : List Int), (ss : Int), (sf : Int), (mc : Bool), (mh : Bool), (mcc : Bool), (mhc : Bool), _⟩, ⟨(fb2 : Int), (fq2 : Int), (fst2 : Int), (pe2 : Int), (pc2 : Int), (rr2 : Int), (rt2 : Int), (rl2 : List (Int × Int)), (ro2 : Bool), (ra2 : Int), (sr2 : Int), (sl2 : List Int), (ss2 : Int), (sf2 : Int), (mc2 : Bool), (mh2 : Bool), (mcc2 : Bool), (mhc2 : Bool), _⟩, _⟩ K hK _
  replace hK : K (.l (.v (.bool (sameP ⟨⟨fb, fq, fst⟩, pe, pc, ⟨rr, rt, rl, ro, ra⟩, ⟨sr, sl, ss, sf⟩, ⟨mc, mh, mcc, mhc⟩⟩ ⟨⟨fb2, fq2, fst2⟩, pe2, pc2, ⟨rr2, rt2, rl2, ro2, ra2⟩, ⟨sr2, sl2, ss2, sf2⟩, ⟨mc2, mh2, mcc2, mhc2⟩⟩)))) := hK
  repeat' ((conv => whnf); (first | (refine Side.mk ?_ ?_; focus (first | omega | kernel_rfl | with_reducible assumption | exact rfl | (with_reducible first | omega | exact rngI (by omega) | (and_intros <;> first | trivial | omega | exact rngI (by omega))) | (dsimp only [EL.len]; with_reducible first | omega | exact rngI (by omega) | (and_intros <;> first | trivial | omega | exact rngI (by omega))) | with_reducible exact rngB (by omega) | with_reducible exact rngI ⟨by decide, by decide⟩ | exact ⟨rfl, trivial⟩ | exact ⟨rfl, rfl, trivial⟩ | exact ⟨⟨rfl, rfl, rfl, rfl⟩, trivial⟩ | (simp only [EL.len, EL.sz, EL.take, EL.drop, maxL, la, ln, lc, ld, lt, ls, lna]; with_reducible first | omega | exact rngI (by omega) | (and_intros <;> first | trivial | omega | exact rngI (by omega))) | (simp only [EL.len, EL.sz, EL.take, EL.drop, maxL, la, ln, lc, ld, lt, ls, lna] at *; with_reducible first | omega | exact rngI (by omega) | (and_intros <;> first | trivial | omega | exact rngI (by omega))) | (show (_ : Int) ≤ _ ∧ (_ : Int) ≤ _; omega) | (show (_ : Int) ≤ _; omega))) | (refine End.mk ?_; exact hF) | refine End.mk ?_ | refine brT ?_ | refine brF ?_ | (refine brT' ?_ ?_; focus with_reducible assumption) | (refine brF' ?_ ?_; focus with_reducible assumption) | (refine Br.mk ?_ ?_ <;> (intro hb; have h := hb; (try simp only [decide_eq_true_eq, decide_eq_false_iff_not, Bool.not_eq_true', Bool.not_eq_false', Bool.not_eq_eq_eq_not, Bool.not_true, Bool.not_false, ge_iff_le, gt_iff_lt, Bool.and_eq_true, Bool.and_eq_false_iff, Bool.or_eq_true, Bool.or_eq_false_iff, beq_self_eq_true, not_true_eq_false, and_self, Bool.true_eq_false, Bool.false_eq_true, not_false_eq_true] at h); (try dsimp only [EL.len] at h); (try (exfalso; first | omega | exact bnF h (by with_reducible assumption) | exact bnT h (by with_reducible assumption))))) | (refine fun (y : Int) (h0 : 0 ≤ y) h1 => ?_)))
  all_goals
    (refine Exists.intro _ (And.intro ?_ hK); repeat' (first | (refine Side.mk ?_ ?_; focus (first | with_reducible exact rfl | exact Eq.refl true | exact Eq.refl false)) | (refine Side.mk ?_ ?_) | exact True.intro))
    simp_all [sameP]
def c_l_samePort : CS := csOf [.inr [.int, .int, .int, .int, .int, .int, .int, .gots, .bool, .int, .int, .ints, .int, .int, .bool, .bool, .bool, .bool], .inr [.int, .int, .int, .int, .int, .int, .int, .gots, .bool, .int, .int, .ints, .int, .int, .bool, .bool, .bool, .bool]] (fun ⟨⟨fb, fq, fst, pe, pc, rr, rt, rl, ro, ra, sr, sl, ss, sf, mc, mh, mcc, mhc, _⟩, ⟨fb2, fq2, fst2, pe2, pc2, rr2, rt2, rl2, ro2, ra2, sr2, sl2, ss2, sf2, mc2, mh2, mcc2, mhc2, _⟩, _⟩ K => K (.l (.v (.bool (sameP ⟨⟨fb, fq, fst⟩, pe, pc, ⟨rr, rt, rl, ro, ra⟩, ⟨sr, sl, ss, sf⟩, ⟨mc, mh, mcc, mhc⟩⟩ ⟨⟨fb2, fq2, fst2⟩, pe2, pc2, ⟨rr2, rt2, rl2, ro2, ra2⟩, ⟨sr2, sl2, ss2, sf2⟩, ⟨mc2, mh2, mcc2, mhc2⟩⟩)))))
theorem c_l_samePort_ok : CSok Try.prog 48 c_l_samePort := cs_ok (by kernel_rfl) con_l_samePort

end Go.Proofs.Ytonibbcmgiflbaa
