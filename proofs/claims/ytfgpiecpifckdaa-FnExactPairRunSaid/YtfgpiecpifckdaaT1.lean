/-
  Pairs of the program: copies, lines, and what goes through a channel.
-/
import Derived.Test.YtfgpiecpifckdaaM5
import Derived.Test.YtfgpiecpifckdaaP5
import Derived.Test.YtfgpiecpifckdaaRecvP
import Derived.Test.YtfgpiecpifckdaaAbsU
import Derived.Test.YtfgpiecpifckdaaS2
namespace Go.Proofs.Ytfgpiecpifckdaa
open Go.RowKit
open Ab
set_option linter.unusedSimpArgs false
set_option linter.unusedVariables false

def env_i_pairCopy : Env := [(95, c_i_portCopy)]
theorem env_i_pairCopy_ok : EnvOk Try.prog env_i_pairCopy := envAll_ok ⟨c_i_portCopy_ok, trivial⟩
def tr_i_pairCopy : Nat → Tr := fun n => match n with
  | 1 => .op 0 0 (.op 1 0 (.op 3 0 (.op 4 0 (.op 2 1 (.op 5 1 (.op 6 1 (.op 7 2 (.nil))))))))
  | _ => .nil
set_option maxRecDepth 100000 in
set_option maxHeartbeats 2000000 in
theorem con_i_pairCopy : Con Try.prog 51 [.inr [.int, .int, .int, .int, .int, .int, .int, .gots, .bool, .int, .int, .ints, .int, .int, .bool, .bool, .bool, .bool, .int, .int, .int, .int, .int, .int, .int, .gots, .bool, .int, .int, .ints, .int, .int, .bool, .bool, .bool, .bool]] (fun ⟨⟨fbA, fqA, fstA, peA, pcA, rrA, rtA, rlA, roA, raA, srA, slA, ssA, sfA, mcA, mhA, mccA, mhcA, fbB, fqB, fstB, peB, pcB, rrB, rtB, rlB, roB, raB, srB, slB, ssB, sfB, mcB, mhB, mccB, mhcB, _⟩, _⟩ K => K (.a (Par.d ⟨⟨⟨fbA, fqA, fstA⟩, peA, pcA, ⟨rrA, rtA, rlA, roA, raA⟩, ⟨srA, slA, ssA, sfA⟩, ⟨mcA, mhA, mccA, mhcA⟩⟩, ⟨⟨fbB, fqB, fstB⟩, peB, pcB, ⟨rrB, rtB, rlB, roB, raB⟩, ⟨srB, slB, ssB, sfB⟩, ⟨mcB, mhB, mccB, mhcB⟩⟩⟩))) := by
  refine con_ofN (TR := tr_i_pairCopy) tab_ok mixed_ok env_i_pairCopy_ok Try.func51 rfl ?_
  rintro ⟨⟨(fbA : Int), (fqA : Int), (fstA : Int), (peA : Int), (pcA : Int), (rrA : Int), (rtA : Int), (rlA : List (Int × Int)), (roA : Bool), (raA : Int), (srA : Int), (slA : List Int), (ssA : Int), (sfA : Int), (mcA : Bool), (mhA : Bool), (mccA : Bool), (mhcA : Bool), (fbB : Int), (fqB : Int), (fstB : Int), (peB : Int), (pcB : Int), (rrB : Int), (rtB : Int), (rlB : List (Int × Int)), (roB : Bool), (raB : Int), (srB : Int), (slB : List Int), (ssB : Int), (sfB : Int), (mcB : Bool), (mhB : Bool), (mccB : Bool), (mhcB : Bool), _⟩, _⟩ K hK ⟨⟨_, _, _, _, _, _, _, h1, _, _, _, h2, _, _, _, _, _, _, _, _, _, _, _, _, _, h3, _, _, _, h4, _⟩, _⟩
  replace hK : K (.a (Par.d ⟨⟨⟨fbA, fqA, fstA⟩, peA, pcA, ⟨rrA, rtA, rlA, roA, raA⟩, ⟨srA, slA, ssA, sfA⟩, ⟨mcA, mhA, mccA, mhcA⟩⟩, ⟨⟨fbB, fqB, fstB⟩, peB, pcB, ⟨rrB, rtB, rlB, roB, raB⟩, ⟨srB, slB, ssB, sfB⟩, ⟨mcB, mhB, mccB, mhcB⟩⟩⟩)) := hK
  replace h1 : rlA.length ≤ 1099511627776 := h1
  replace h2 : slA.length ≤ 1099511627776 := h2
  replace h3 : rlB.length ≤ 1099511627776 := h3
  replace h4 : slB.length ≤ 1099511627776 := h4
  repeat' ((conv => whnf); (first | (refine Side.mk ?_ ?_; focus (first | omega | with_reducible assumption | kernel_rfl | exact rfl | (with_reducible first | omega | exact rngI (by omega) | (and_intros <;> first | trivial | omega | exact rngI (by omega))) | (dsimp only [EL.len]; with_reducible first | omega | exact rngI (by omega) | (and_intros <;> first | trivial | omega | exact rngI (by omega))) | with_reducible exact rngB (by omega) | with_reducible exact rngI ⟨by decide, by decide⟩ | exact ⟨rfl, trivial⟩ | exact ⟨rfl, rfl, trivial⟩ | exact ⟨⟨rfl, rfl, rfl, rfl⟩, trivial⟩ | (show (_ : Int) ≤ _ ∧ (_ : Int) ≤ _; omega) | (show (_ : Int) ≤ _; omega) | (simp only [EL.len, EL.sz, EL.take, EL.drop, maxL, la, ln, lc, ld, lt, ls, lna]; with_reducible first | omega | exact rngI (by omega) | (and_intros <;> first | trivial | omega | exact rngI (by omega))) | (simp only [EL.len, EL.sz, EL.take, EL.drop, maxL, la, ln, lc, ld, lt, ls, lna] at *; with_reducible first | omega | exact rngI (by omega) | (and_intros <;> first | trivial | omega | exact rngI (by omega))))) | (refine End.mk ?_; exact hF) | refine End.mk ?_ | refine brT ?_ | refine brF ?_ | (refine brT' ?_ ?_; focus with_reducible assumption) | (refine brF' ?_ ?_; focus with_reducible assumption) | (refine Br.mk ?_ ?_ <;> (intro hb; have h := hb; (try simp only [decide_eq_true_eq, decide_eq_false_iff_not, Bool.not_eq_true', Bool.not_eq_false', Bool.not_eq_eq_eq_not, Bool.not_true, Bool.not_false, ge_iff_le, gt_iff_lt, Bool.and_eq_true, Bool.and_eq_false_iff, Bool.or_eq_true, Bool.or_eq_false_iff, beq_self_eq_true, not_true_eq_false, and_self, Bool.true_eq_false, Bool.false_eq_true, not_false_eq_true] at h); (try dsimp only [EL.len] at h); (try (exfalso; first | omega | exact bnF h (by with_reducible assumption) | exact bnT h (by with_reducible assumption))))) | (refine fun (y : Int) (h0 : 0 ≤ y) h1 => ?_)))
  (refine Exists.intro _ (And.intro ?_ hK); repeat' (first | (refine Side.mk ?_ ?_; focus (first | with_reducible exact rfl | exact Eq.refl true | exact Eq.refl false)) | (refine Side.mk ?_ ?_) | exact True.intro)); all_goals (first | exact rfl | (simp; done))
def c_i_pairCopy : CS := csOf [.inr [.int, .int, .int, .int, .int, .int, .int, .gots, .bool, .int, .int, .ints, .int, .int, .bool, .bool, .bool, .bool, .int, .int, .int, .int, .int, .int, .int, .gots, .bool, .int, .int, .ints, .int, .int, .bool, .bool, .bool, .bool]] (fun ⟨⟨fbA, fqA, fstA, peA, pcA, rrA, rtA, rlA, roA, raA, srA, slA, ssA, sfA, mcA, mhA, mccA, mhcA, fbB, fqB, fstB, peB, pcB, rrB, rtB, rlB, roB, raB, srB, slB, ssB, sfB, mcB, mhB, mccB, mhcB, _⟩, _⟩ K => K (.a (Par.d ⟨⟨⟨fbA, fqA, fstA⟩, peA, pcA, ⟨rrA, rtA, rlA, roA, raA⟩, ⟨srA, slA, ssA, sfA⟩, ⟨mcA, mhA, mccA, mhcA⟩⟩, ⟨⟨fbB, fqB, fstB⟩, peB, pcB, ⟨rrB, rtB, rlB, roB, raB⟩, ⟨srB, slB, ssB, sfB⟩, ⟨mcB, mhB, mccB, mhcB⟩⟩⟩)))
theorem c_i_pairCopy_ok : CSok Try.prog 51 c_i_pairCopy := cs_ok (by kernel_rfl) con_i_pairCopy

def env_i_PairValid : Env := [(82, c_i_PortValid)]
theorem env_i_PairValid_ok : EnvOk Try.prog env_i_PairValid := envAll_ok ⟨c_i_PortValid_ok, trivial⟩
def tr_i_PairValid : Nat → Tr := fun n => match n with
  | _ => .nil
set_option maxRecDepth 100000 in
set_option maxHeartbeats 2000000 in
theorem con_i_PairValid : Con Try.prog 42 [.inr [.int, .int, .int, .int, .int, .int, .int, .gots, .bool, .int, .int, .ints, .int, .int, .bool, .bool, .bool, .bool, .int, .int, .int, .int, .int, .int, .int, .gots, .bool, .int, .int, .ints, .int, .int, .bool, .bool, .bool, .bool]] (fun ⟨⟨fbA, fqA, fstA, peA, pcA, rrA, rtA, rlA, roA, raA, srA, slA, ssA, sfA, mcA, mhA, mccA, mhcA, fbB, fqB, fstB, peB, pcB, rrB, rtB, rlB, roB, raB, srB, slB, ssB, sfB, mcB, mhB, mccB, mhcB, _⟩, _⟩ K => K (.l (.v (.bool (parV ⟨⟨⟨fbA, fqA, fstA⟩, peA, pcA, ⟨rrA, rtA, rlA, roA, raA⟩, ⟨srA, slA, ssA, sfA⟩, ⟨mcA, mhA, mccA, mhcA⟩⟩, ⟨⟨fbB, fqB, fstB⟩, peB, pcB, ⟨rrB, rtB, rlB, roB, raB⟩, ⟨srB, slB, ssB, sfB⟩, ⟨mcB, mhB, mccB, mhcB⟩⟩⟩))))) := by
  refine con_ofN (TR := tr_i_PairValid) tab_ok mixed_ok env_i_PairValid_ok Try.func42 rfl ?_
  rintro ⟨⟨(fbA : Int), (fqA : Int), (fstA : Int), (peA : Int), (pcA : Int), (rrA : Int), (rtA : Int), (rlA : List (Int × Int)), (roA : Bool), (raA : Int), (srA : Int), (slA : List Int), (ssA : Int), (sfA : Int), (mcA : Bool), (mhA : Bool), (mccA : Bool), (mhcA : Bool), (fbB : Int), (fqB : Int), (fstB : Int), (peB : Int), (pcB : Int), (rrB : Int), (rtB : Int), (rlB : List (Int × Int)), (roB : Bool), (raB : Int), (srB : Int), (slB : List Int), (ssB : Int), (sfB : Int), (mcB : Bool), (mhB : Bool), (mccB : Bool), (mhcB : Bool), _⟩, _⟩ K hK _
  replace hK : K (.l (.v (.bool (parV ⟨⟨⟨fbA, fqA, fstA⟩, peA, pcA, ⟨rrA, rtA, rlA, roA, raA⟩, ⟨srA, slA, ssA, sfA⟩, ⟨mcA, mhA, mccA, mhcA⟩⟩, ⟨⟨fbB, fqB, fstB⟩, peB, pcB, ⟨rrB, rtB, rlB, roB, raB⟩, ⟨srB, slB, ssB, sfB⟩, ⟨mcB, mhB, mccB, mhcB⟩⟩⟩)))) := hK
  repeat' ((conv => whnf); (first | (refine Side.mk ?_ ?_; focus (first | omega | with_reducible assumption | kernel_rfl | exact rfl | (with_reducible first | omega | exact rngI (by omega) | (and_intros <;> first | trivial | omega | exact rngI (by omega))) | (dsimp only [EL.len]; with_reducible first | omega | exact rngI (by omega) | (and_intros <;> first | trivial | omega | exact rngI (by omega))) | with_reducible exact rngB (by omega) | with_reducible exact rngI ⟨by decide, by decide⟩ | exact ⟨rfl, trivial⟩ | exact ⟨rfl, rfl, trivial⟩ | exact ⟨⟨rfl, rfl, rfl, rfl⟩, trivial⟩ | (show (_ : Int) ≤ _ ∧ (_ : Int) ≤ _; omega) | (show (_ : Int) ≤ _; omega) | (simp only [EL.len, EL.sz, EL.take, EL.drop, maxL, la, ln, lc, ld, lt, ls, lna]; with_reducible first | omega | exact rngI (by omega) | (and_intros <;> first | trivial | omega | exact rngI (by omega))) | (simp only [EL.len, EL.sz, EL.take, EL.drop, maxL, la, ln, lc, ld, lt, ls, lna] at *; with_reducible first | omega | exact rngI (by omega) | (and_intros <;> first | trivial | omega | exact rngI (by omega))))) | (refine End.mk ?_; exact hF) | refine End.mk ?_ | refine brT ?_ | refine brF ?_ | (refine brT' ?_ ?_; focus with_reducible assumption) | (refine brF' ?_ ?_; focus with_reducible assumption) | (refine Br.mk ?_ ?_ <;> (intro hb; have h := hb; (try simp only [decide_eq_true_eq, decide_eq_false_iff_not, Bool.not_eq_true', Bool.not_eq_false', Bool.not_eq_eq_eq_not, Bool.not_true, Bool.not_false, ge_iff_le, gt_iff_lt, Bool.and_eq_true, Bool.and_eq_false_iff, Bool.or_eq_true, Bool.or_eq_false_iff, beq_self_eq_true, not_true_eq_false, and_self, Bool.true_eq_false, Bool.false_eq_true, not_false_eq_true] at h); (try dsimp only [EL.len] at h); (try (exfalso; first | omega | exact bnF h (by with_reducible assumption) | exact bnT h (by with_reducible assumption))))) | (refine fun (y : Int) (h0 : 0 ≤ y) h1 => ?_)))
  all_goals
    (refine Exists.intro _ (And.intro ?_ hK); repeat' (first | (refine Side.mk ?_ ?_; focus (first | with_reducible exact rfl | exact Eq.refl true | exact Eq.refl false)) | (refine Side.mk ?_ ?_) | exact True.intro))
    simp_all [parV]
def c_i_PairValid : CS := csOf [.inr [.int, .int, .int, .int, .int, .int, .int, .gots, .bool, .int, .int, .ints, .int, .int, .bool, .bool, .bool, .bool, .int, .int, .int, .int, .int, .int, .int, .gots, .bool, .int, .int, .ints, .int, .int, .bool, .bool, .bool, .bool]] (fun ⟨⟨fbA, fqA, fstA, peA, pcA, rrA, rtA, rlA, roA, raA, srA, slA, ssA, sfA, mcA, mhA, mccA, mhcA, fbB, fqB, fstB, peB, pcB, rrB, rtB, rlB, roB, raB, srB, slB, ssB, sfB, mcB, mhB, mccB, mhcB, _⟩, _⟩ K => K (.l (.v (.bool (parV ⟨⟨⟨fbA, fqA, fstA⟩, peA, pcA, ⟨rrA, rtA, rlA, roA, raA⟩, ⟨srA, slA, ssA, sfA⟩, ⟨mcA, mhA, mccA, mhcA⟩⟩, ⟨⟨fbB, fqB, fstB⟩, peB, pcB, ⟨rrB, rtB, rlB, roB, raB⟩, ⟨srB, slB, ssB, sfB⟩, ⟨mcB, mhB, mccB, mhcB⟩⟩⟩)))))
theorem c_i_PairValid_ok : CSok Try.prog 42 c_i_PairValid := cs_ok (by kernel_rfl) con_i_PairValid

def env_s_PairValid : Env := [(74, c_s_PortValid)]
theorem env_s_PairValid_ok : EnvOk Try.prog env_s_PairValid := envAll_ok ⟨c_s_PortValid_ok, trivial⟩
def tr_s_PairValid : Nat → Tr := fun n => match n with
  | _ => .nil
set_option maxRecDepth 100000 in
set_option maxHeartbeats 2000000 in
theorem con_s_PairValid : Con Try.prog 39 [.inr [.int, .int, .int, .int, .int, .int, .int, .gots, .bool, .int, .int, .ints, .int, .int, .bool, .bool, .bool, .bool, .int, .int, .int, .int, .int, .int, .int, .gots, .bool, .int, .int, .ints, .int, .int, .bool, .bool, .bool, .bool]] (fun ⟨⟨fbA, fqA, fstA, peA, pcA, rrA, rtA, rlA, roA, raA, srA, slA, ssA, sfA, mcA, mhA, mccA, mhcA, fbB, fqB, fstB, peB, pcB, rrB, rtB, rlB, roB, raB, srB, slB, ssB, sfB, mcB, mhB, mccB, mhcB, _⟩, _⟩ K => K (.l (.v (.bool (parV ⟨⟨⟨fbA, fqA, fstA⟩, peA, pcA, ⟨rrA, rtA, rlA, roA, raA⟩, ⟨srA, slA, ssA, sfA⟩, ⟨mcA, mhA, mccA, mhcA⟩⟩, ⟨⟨fbB, fqB, fstB⟩, peB, pcB, ⟨rrB, rtB, rlB, roB, raB⟩, ⟨srB, slB, ssB, sfB⟩, ⟨mcB, mhB, mccB, mhcB⟩⟩⟩))))) := by
  refine con_ofN (TR := tr_s_PairValid) tab_ok mixed_ok env_s_PairValid_ok Try.func39 rfl ?_
  rintro ⟨⟨(fbA : Int), (fqA : Int), (fstA : Int), (peA : Int), (pcA : Int), (rrA : Int), (rtA : Int), (rlA : List (Int × Int)), (roA : Bool), (raA : Int), (srA : Int), (slA : List Int), (ssA : Int), (sfA : Int), (mcA : Bool), (mhA : Bool), (mccA : Bool), (mhcA : Bool), (fbB : Int), (fqB : Int), (fstB : Int), (peB : Int), (pcB : Int), (rrB : Int), (rtB : Int), (rlB : List (Int × Int)), (roB : Bool), (raB : Int), (srB : Int), (slB : List Int), (ssB : Int), (sfB : Int), (mcB : Bool), (mhB : Bool), (mccB : Bool), (mhcB : Bool), _⟩, _⟩ K hK _
  replace hK : K (.l (.v (.bool (parV ⟨⟨⟨fbA, fqA, fstA⟩, peA, pcA, ⟨rrA, rtA, rlA, roA, raA⟩, ⟨srA, slA, ssA, sfA⟩, ⟨mcA, mhA, mccA, mhcA⟩⟩, ⟨⟨fbB, fqB, fstB⟩, peB, pcB, ⟨rrB, rtB, rlB, roB, raB⟩, ⟨srB, slB, ssB, sfB⟩, ⟨mcB, mhB, mccB, mhcB⟩⟩⟩)))) := hK
  repeat' ((conv => whnf); (first | (refine Side.mk ?_ ?_; focus (first | omega | with_reducible assumption | kernel_rfl | exact rfl | (with_reducible first | omega | exact rngI (by omega) | (and_intros <;> first | trivial | omega | exact rngI (by omega))) | (dsimp only [EL.len]; with_reducible first | omega | exact rngI (by omega) | (and_intros <;> first | trivial | omega | exact rngI (by omega))) | with_reducible exact rngB (by omega) | with_reducible exact rngI ⟨by decide, by decide⟩ | exact ⟨rfl, trivial⟩ | exact ⟨rfl, rfl, trivial⟩ | exact ⟨⟨rfl, rfl, rfl, rfl⟩, trivial⟩ | (show (_ : Int) ≤ _ ∧ (_ : Int) ≤ _; omega) | (show (_ : Int) ≤ _; omega) | (simp only [EL.len, EL.sz, EL.take, EL.drop, maxL, la, ln, lc, ld, lt, ls, lna]; with_reducible first | omega | exact rngI (by omega) | (and_intros <;> first | trivial | omega | exact rngI (by omega))) | (simp only [EL.len, EL.sz, EL.take, EL.drop, maxL, la, ln, lc, ld, lt, ls, lna] at *; with_reducible first | omega | exact rngI (by omega) | (and_intros <;> first | trivial | omega | exact rngI (by omega))))) | (refine End.mk ?_; exact hF) | refine End.mk ?_ | refine brT ?_ | refine brF ?_ | (refine brT' ?_ ?_; focus with_reducible assumption) | (refine brF' ?_ ?_; focus with_reducible assumption) | (refine Br.mk ?_ ?_ <;> (intro hb; have h := hb; (try simp only [decide_eq_true_eq, decide_eq_false_iff_not, Bool.not_eq_true', Bool.not_eq_false', Bool.not_eq_eq_eq_not, Bool.not_true, Bool.not_false, ge_iff_le, gt_iff_lt, Bool.and_eq_true, Bool.and_eq_false_iff, Bool.or_eq_true, Bool.or_eq_false_iff, beq_self_eq_true, not_true_eq_false, and_self, Bool.true_eq_false, Bool.false_eq_true, not_false_eq_true] at h); (try dsimp only [EL.len] at h); (try (exfalso; first | omega | exact bnF h (by with_reducible assumption) | exact bnT h (by with_reducible assumption))))) | (refine fun (y : Int) (h0 : 0 ≤ y) h1 => ?_)))
  all_goals
    (refine Exists.intro _ (And.intro ?_ hK); repeat' (first | (refine Side.mk ?_ ?_; focus (first | with_reducible exact rfl | exact Eq.refl true | exact Eq.refl false)) | (refine Side.mk ?_ ?_) | exact True.intro))
    simp_all [parV]
def c_s_PairValid : CS := csOf [.inr [.int, .int, .int, .int, .int, .int, .int, .gots, .bool, .int, .int, .ints, .int, .int, .bool, .bool, .bool, .bool, .int, .int, .int, .int, .int, .int, .int, .gots, .bool, .int, .int, .ints, .int, .int, .bool, .bool, .bool, .bool]] (fun ⟨⟨fbA, fqA, fstA, peA, pcA, rrA, rtA, rlA, roA, raA, srA, slA, ssA, sfA, mcA, mhA, mccA, mhcA, fbB, fqB, fstB, peB, pcB, rrB, rtB, rlB, roB, raB, srB, slB, ssB, sfB, mcB, mhB, mccB, mhcB, _⟩, _⟩ K => K (.l (.v (.bool (parV ⟨⟨⟨fbA, fqA, fstA⟩, peA, pcA, ⟨rrA, rtA, rlA, roA, raA⟩, ⟨srA, slA, ssA, sfA⟩, ⟨mcA, mhA, mccA, mhcA⟩⟩, ⟨⟨fbB, fqB, fstB⟩, peB, pcB, ⟨rrB, rtB, rlB, roB, raB⟩, ⟨srB, slB, ssB, sfB⟩, ⟨mcB, mhB, mccB, mhcB⟩⟩⟩)))))
theorem c_s_PairValid_ok : CSok Try.prog 39 c_s_PairValid := cs_ok (by kernel_rfl) con_s_PairValid

def env_i_see : Env := [(86, c_i_ModemSet)]
theorem env_i_see_ok : EnvOk Try.prog env_i_see := envAll_ok ⟨c_i_ModemSet_ok, trivial⟩
def tr_i_see : Nat → Tr := fun n => match n with
  | _ => .nil
set_option maxRecDepth 100000 in
set_option maxHeartbeats 2000000 in
theorem con_i_see : Con Try.prog 45 [.inr [.bool, .bool, .bool, .bool], .inl .int] (fun ⟨⟨mc, mh, mcc, mhc, _⟩, c, _⟩ K => Side (0 ≤ c ∧ c ≤ 3) <| K (.a (Mdm.d (seeV ⟨mc, mh, mcc, mhc⟩ c)))) := by
  refine con_ofN (TR := tr_i_see) tab_ok mixed_ok env_i_see_ok Try.func45 rfl ?_
  rintro ⟨⟨(mc : Bool), (mh : Bool), (mcc : Bool), (mhc : Bool), _⟩, (c : Int), _⟩ K ⟨hc, hK⟩ _
  replace hc : 0 ≤ c ∧ c ≤ 3 := hc
  replace hK : K (.a (Mdm.d (seeV ⟨mc, mh, mcc, mhc⟩ c))) := hK
  obtain ⟨q, rfl⟩ : ∃ q : Fin 4, (q.val : Int) = c := ⟨⟨c.toNat, by omega⟩, by simp; omega⟩
  unfold seeV at hK
  rw [← cbits2 q, ← cbits1 q] at hK
  repeat' ((conv => whnf); (first | (refine Side.mk ?_ ?_; focus (first | omega | with_reducible assumption | kernel_rfl | exact rfl | (with_reducible first | omega | exact rngI (by omega) | (and_intros <;> first | trivial | omega | exact rngI (by omega))) | (dsimp only [EL.len]; with_reducible first | omega | exact rngI (by omega) | (and_intros <;> first | trivial | omega | exact rngI (by omega))) | with_reducible exact rngB (by omega) | with_reducible exact rngI ⟨by decide, by decide⟩ | exact ⟨rfl, trivial⟩ | exact ⟨rfl, rfl, trivial⟩ | exact ⟨⟨rfl, rfl, rfl, rfl⟩, trivial⟩ | (show (_ : Int) ≤ _ ∧ (_ : Int) ≤ _; omega) | (show (_ : Int) ≤ _; omega) | (simp only [EL.len, EL.sz, EL.take, EL.drop, maxL, la, ln, lc, ld, lt, ls, lna]; with_reducible first | omega | exact rngI (by omega) | (and_intros <;> first | trivial | omega | exact rngI (by omega))) | (simp only [EL.len, EL.sz, EL.take, EL.drop, maxL, la, ln, lc, ld, lt, ls, lna] at *; with_reducible first | omega | exact rngI (by omega) | (and_intros <;> first | trivial | omega | exact rngI (by omega))))) | (refine End.mk ?_; exact hF) | refine End.mk ?_ | refine brT ?_ | refine brF ?_ | (refine brT' ?_ ?_; focus with_reducible assumption) | (refine brF' ?_ ?_; focus with_reducible assumption) | (refine Br.mk ?_ ?_ <;> (intro hb; have h := hb; (try simp only [decide_eq_true_eq, decide_eq_false_iff_not, Bool.not_eq_true', Bool.not_eq_false', Bool.not_eq_eq_eq_not, Bool.not_true, Bool.not_false, ge_iff_le, gt_iff_lt, Bool.and_eq_true, Bool.and_eq_false_iff, Bool.or_eq_true, Bool.or_eq_false_iff, beq_self_eq_true, not_true_eq_false, and_self, Bool.true_eq_false, Bool.false_eq_true, not_false_eq_true] at h); (try dsimp only [EL.len] at h); (try (exfalso; first | omega | exact bnF h (by with_reducible assumption) | exact bnT h (by with_reducible assumption))))) | (refine fun (y : Int) (h0 : 0 ≤ y) h1 => ?_)))
  (refine Exists.intro _ (And.intro ?_ hK); repeat' (first | (refine Side.mk ?_ ?_; focus (first | with_reducible exact rfl | exact Eq.refl true | exact Eq.refl false)) | (refine Side.mk ?_ ?_) | exact True.intro)); all_goals (first | exact rfl | (simp; done))
def c_i_see : CS := csOf [.inr [.bool, .bool, .bool, .bool], .inl .int] (fun ⟨⟨mc, mh, mcc, mhc, _⟩, c, _⟩ K => Side (0 ≤ c ∧ c ≤ 3) <| K (.a (Mdm.d (seeV ⟨mc, mh, mcc, mhc⟩ c))))
theorem c_i_see_ok : CSok Try.prog 45 c_i_see := cs_ok (by kernel_rfl) con_i_see

def sqL : Code → Code
  | .seq a _ => a
  | c => c
def sqR : Code → Code
  | .seq _ b => b
  | c => c
def rgO : Code → Array Oper
  | .region _ o _ => o
  | _ => #[]
def bdC (fn : Func) : Code := match fn.body with
  | some c => c
  | none => .skip

def env_i_sendOut : Env := [(83, c_i_SendTick)]
theorem env_i_sendOut_ok : EnvOk Try.prog env_i_sendOut := envAll_ok ⟨c_i_SendTick_ok, trivial⟩
def tr_i_sendOut : Nat → Tr := fun n => match n with
  | _ => .nil
def c_i_sendOut : CS := { S := sendS tab env_i_sendOut tr_i_sendOut Try.f43 (sqL (bdC Try.f43)) (sqL (sqR (sqR (bdC Try.f43)))) (sqL (sqL (sqR (sqR (sqR (bdC Try.f43)))))) (sqR (sqR (sqR (sqR (bdC Try.f43))))), tch := fun _ => none }
theorem c_i_sendOut_ok : CSok Try.prog 43 c_i_sendOut := sendS_ok tab_ok env_i_sendOut_ok mixed_ok Try.func43 (by kernel_rfl) rfl ⟨rfl, rfl, rfl⟩ ⟨rfl, rfl, rfl⟩ ⟨rfl, rfl⟩ ⟨rfl, rfl, rfl⟩ ⟨rfl, rfl, rfl⟩ ⟨rfl, rfl, rfl⟩

def env_i_hear : Env := [(84, c_i_RecvTick), (85, c_i_RecvPut)]
theorem env_i_hear_ok : EnvOk Try.prog env_i_hear := envAll_ok ⟨c_i_RecvTick_ok, c_i_RecvPut_ok, trivial⟩
def tr_i_hear : Nat → Tr := fun n => match n with
  | _ => .nil
def c_i_hear : CS := { S := recvS tab env_i_hear tr_i_hear Try.f44 (sqL (bdC Try.f44)) (sqR (sqR (bdC Try.f44))) (rgO (sqL (sqR (bdC Try.f44)))), tch := fun _ => none }
theorem c_i_hear_ok : CSok Try.prog 44 c_i_hear := recvS_ok tab_ok env_i_hear_ok mixed_ok Try.func44 (by kernel_rfl) rfl rfl rfl ⟨rfl, rfl, rfl⟩ rfl ⟨rfl, rfl⟩ rfl (by
  intro a w
  simp [execOp, go_sem, Try.underlying130])

end Go.Proofs.Ytfgpiecpifckdaa
