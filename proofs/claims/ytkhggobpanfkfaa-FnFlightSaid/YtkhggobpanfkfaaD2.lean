/-
  Links: copies, what is valid, and both drivers exchanged; by the abstract walk.
-/
import Derived.Test.YtkhggobpanfkfaaD1
namespace Go.Proofs.Ytkhggobpanfkfaa
open Go.RowKit
open Ab
set_option linter.unusedSimpArgs false
set_option linter.unusedVariables false


def env_i_LinkValid : Env := [(29, c_i_DriverValid)]
theorem env_i_LinkValid_ok : EnvOk Try.prog env_i_LinkValid := envAll_ok ⟨c_i_DriverValid_ok, trivial⟩
def tr_i_LinkValid : Nat → Tr := fun n => match n with
  | _ => .nil
set_option maxRecDepth 100000 in
set_option maxHeartbeats 2000000 in
theorem con_i_LinkValid : Con Try.prog 40 [.inr [.int, .int, .int, .int, .int, .int, .int, .gots, .bool, .int, .int, .ints, .int, .int, .bool, .bool, .bool, .bool, .ints, .ints, .int, .int, .int, .int, .int, .int, .int, .int, .int, .gots, .bool, .int, .int, .ints, .int, .int, .bool, .bool, .bool, .bool, .ints, .ints, .int, .int]] (fun ⟨⟨fbA, fqA, fstA, peA, pcA, rrA, rtA, rlA, roA, raA, srA, slA, ssA, sfA, mcA, mhA, mccA, mhcA, qiA, qoA, cwA, clA, fbB, fqB, fstB, peB, pcB, rrB, rtB, rlB, roB, raB, srB, slB, ssB, sfB, mcB, mhB, mccB, mhcB, qiB, qoB, cwB, clB, _⟩, _⟩ K => K (.l (.v (.bool (lnkV ⟨⟨⟨⟨fbA, fqA, fstA⟩, peA, pcA, ⟨rrA, rtA, rlA, roA, raA⟩, ⟨srA, slA, ssA, sfA⟩, ⟨mcA, mhA, mccA, mhcA⟩⟩, qiA, qoA, cwA, clA⟩, ⟨⟨⟨fbB, fqB, fstB⟩, peB, pcB, ⟨rrB, rtB, rlB, roB, raB⟩, ⟨srB, slB, ssB, sfB⟩, ⟨mcB, mhB, mccB, mhcB⟩⟩, qiB, qoB, cwB, clB⟩⟩))))) := by
  refine con_ofN (TR := tr_i_LinkValid) tab_ok mixed_ok env_i_LinkValid_ok Try.func40 rfl ?_
  rintro ⟨⟨(fbA : Int), (fqA : Int), (fstA : Int), (peA : Int), (pcA : Int), (rrA : Int), (rtA : Int), (rlA : List (Int × Int)), (roA : Bool), (raA : Int), (srA : Int), (slA : List Int), (ssA : Int), (sfA : Int), (mcA : Bool), (mhA : Bool), (mccA : Bool), (mhcA : Bool), (qiA : List Int), (qoA : List Int), (cwA : Int), (clA : Int), (fbB : Int), (fqB : Int), (fstB : Int), (peB : Int), (pcB : Int), (rrB : Int), (rtB : Int), (rlB : List (Int × Int)), (roB : Bool), (raB : Int), (srB : Int), (slB : List Int), (ssB : Int), (sfB : Int), (mcB : Bool), (mhB : Bool), (mccB : Bool), (mhcB : Bool), (qiB : List Int), (qoB : List Int), (cwB : Int), (clB : Int), _⟩, _⟩ K hK ⟨⟨_, _, _, _, _, _, _, h1, _, _, _, h2, _, _, _, _, _, _, h3, h4, _, _, _, _, _, _, _, _, _, g1, _, _, _, g2, _, _, _, _, _, _, g3, g4, _⟩, _⟩
  replace hK : K (.l (.v (.bool (lnkV ⟨⟨⟨⟨fbA, fqA, fstA⟩, peA, pcA, ⟨rrA, rtA, rlA, roA, raA⟩, ⟨srA, slA, ssA, sfA⟩, ⟨mcA, mhA, mccA, mhcA⟩⟩, qiA, qoA, cwA, clA⟩, ⟨⟨⟨fbB, fqB, fstB⟩, peB, pcB, ⟨rrB, rtB, rlB, roB, raB⟩, ⟨srB, slB, ssB, sfB⟩, ⟨mcB, mhB, mccB, mhcB⟩⟩, qiB, qoB, cwB, clB⟩⟩)))) := hK
  replace h1 : rlA.length ≤ 1099511627776 := h1
  replace h2 : slA.length ≤ 1099511627776 := h2
  replace h3 : qiA.length ≤ 1099511627776 := h3
  replace h4 : qoA.length ≤ 1099511627776 := h4
  replace g1 : rlB.length ≤ 1099511627776 := g1
  replace g2 : slB.length ≤ 1099511627776 := g2
  replace g3 : qiB.length ≤ 1099511627776 := g3
  replace g4 : qoB.length ≤ 1099511627776 := g4
  repeat' ((conv => whnf); (first | (refine Side.mk ?_ ?_; focus (first | omega | with_reducible assumption | kernel_rfl | exact rfl | (with_reducible first | omega | exact rngI (by omega) | (and_intros <;> first | trivial | omega | exact rngI (by omega))) | (dsimp only [EL.len]; with_reducible first | omega | exact rngI (by omega) | (and_intros <;> first | trivial | omega | exact rngI (by omega))) | with_reducible exact rngB (by omega) | with_reducible exact rngI ⟨by decide, by decide⟩ | exact ⟨rfl, trivial⟩ | exact ⟨rfl, rfl, trivial⟩ | exact ⟨⟨rfl, rfl, rfl, rfl⟩, trivial⟩ | (show (_ : Int) ≤ _ ∧ (_ : Int) ≤ _; omega) | (show (_ : Int) ≤ _; omega) | (simp only [EL.len, EL.sz, EL.take, EL.drop, maxL, la, ln, lc, ld, lt, ls, lna]; with_reducible first | omega | exact rngI (by omega) | (and_intros <;> first | trivial | omega | exact rngI (by omega))) | (simp only [EL.len, EL.sz, EL.take, EL.drop, maxL, la, ln, lc, ld, lt, ls, lna] at *; with_reducible first | omega | exact rngI (by omega) | (and_intros <;> first | trivial | omega | exact rngI (by omega))))) | (refine End.mk ?_; exact hF) | refine End.mk ?_ | refine brT ?_ | refine brF ?_ | (refine brT' ?_ ?_; focus with_reducible assumption) | (refine brF' ?_ ?_; focus with_reducible assumption) | (refine Br.mk ?_ ?_ <;> (intro hb; have h := hb; (try simp only [decide_eq_true_eq, decide_eq_false_iff_not, Bool.not_eq_true', Bool.not_eq_false', Bool.not_eq_eq_eq_not, Bool.not_true, Bool.not_false, ge_iff_le, gt_iff_lt, Bool.and_eq_true, Bool.and_eq_false_iff, Bool.or_eq_true, Bool.or_eq_false_iff, beq_self_eq_true, not_true_eq_false, and_self, Bool.true_eq_false, Bool.false_eq_true, not_false_eq_true] at h); (try dsimp only [EL.len] at h); (try (exfalso; first | omega | exact bnF h (by with_reducible assumption) | exact bnT h (by with_reducible assumption))))) | (refine fun (y : Int) (h0 : 0 ≤ y) h1 => ?_)))
  all_goals
    (refine Exists.intro _ (And.intro ?_ hK); repeat' (first | (refine Side.mk ?_ ?_; focus (first | with_reducible exact rfl | exact Eq.refl true | exact Eq.refl false)) | (refine Side.mk ?_ ?_) | exact True.intro))
    simp_all [lnkV]
def c_i_LinkValid : CS := csOf [.inr [.int, .int, .int, .int, .int, .int, .int, .gots, .bool, .int, .int, .ints, .int, .int, .bool, .bool, .bool, .bool, .ints, .ints, .int, .int, .int, .int, .int, .int, .int, .int, .int, .gots, .bool, .int, .int, .ints, .int, .int, .bool, .bool, .bool, .bool, .ints, .ints, .int, .int]] (fun ⟨⟨fbA, fqA, fstA, peA, pcA, rrA, rtA, rlA, roA, raA, srA, slA, ssA, sfA, mcA, mhA, mccA, mhcA, qiA, qoA, cwA, clA, fbB, fqB, fstB, peB, pcB, rrB, rtB, rlB, roB, raB, srB, slB, ssB, sfB, mcB, mhB, mccB, mhcB, qiB, qoB, cwB, clB, _⟩, _⟩ K => K (.l (.v (.bool (lnkV ⟨⟨⟨⟨fbA, fqA, fstA⟩, peA, pcA, ⟨rrA, rtA, rlA, roA, raA⟩, ⟨srA, slA, ssA, sfA⟩, ⟨mcA, mhA, mccA, mhcA⟩⟩, qiA, qoA, cwA, clA⟩, ⟨⟨⟨fbB, fqB, fstB⟩, peB, pcB, ⟨rrB, rtB, rlB, roB, raB⟩, ⟨srB, slB, ssB, sfB⟩, ⟨mcB, mhB, mccB, mhcB⟩⟩, qiB, qoB, cwB, clB⟩⟩)))))
theorem c_i_LinkValid_ok : CSok Try.prog 40 c_i_LinkValid := cs_ok (by kernel_rfl) con_i_LinkValid

def env_s_LinkValid : Env := [(22, c_s_DriverValid)]
theorem env_s_LinkValid_ok : EnvOk Try.prog env_s_LinkValid := envAll_ok ⟨c_s_DriverValid_ok, trivial⟩
def tr_s_LinkValid : Nat → Tr := fun n => match n with
  | _ => .nil
set_option maxRecDepth 100000 in
set_option maxHeartbeats 2000000 in
theorem con_s_LinkValid : Con Try.prog 41 [.inr [.int, .int, .int, .int, .int, .int, .int, .gots, .bool, .int, .int, .ints, .int, .int, .bool, .bool, .bool, .bool, .ints, .ints, .int, .int, .int, .int, .int, .int, .int, .int, .int, .gots, .bool, .int, .int, .ints, .int, .int, .bool, .bool, .bool, .bool, .ints, .ints, .int, .int]] (fun ⟨⟨fbA, fqA, fstA, peA, pcA, rrA, rtA, rlA, roA, raA, srA, slA, ssA, sfA, mcA, mhA, mccA, mhcA, qiA, qoA, cwA, clA, fbB, fqB, fstB, peB, pcB, rrB, rtB, rlB, roB, raB, srB, slB, ssB, sfB, mcB, mhB, mccB, mhcB, qiB, qoB, cwB, clB, _⟩, _⟩ K => K (.l (.v (.bool (lnkV ⟨⟨⟨⟨fbA, fqA, fstA⟩, peA, pcA, ⟨rrA, rtA, rlA, roA, raA⟩, ⟨srA, slA, ssA, sfA⟩, ⟨mcA, mhA, mccA, mhcA⟩⟩, qiA, qoA, cwA, clA⟩, ⟨⟨⟨fbB, fqB, fstB⟩, peB, pcB, ⟨rrB, rtB, rlB, roB, raB⟩, ⟨srB, slB, ssB, sfB⟩, ⟨mcB, mhB, mccB, mhcB⟩⟩, qiB, qoB, cwB, clB⟩⟩))))) := by
  refine con_ofN (TR := tr_s_LinkValid) tab_ok mixed_ok env_s_LinkValid_ok Try.func41 rfl ?_
  rintro ⟨⟨(fbA : Int), (fqA : Int), (fstA : Int), (peA : Int), (pcA : Int), (rrA : Int), (rtA : Int), (rlA : List (Int × Int)), (roA : Bool), (raA : Int), (srA : Int), (slA : List Int), (ssA : Int), (sfA : Int), (mcA : Bool), (mhA : Bool), (mccA : Bool), (mhcA : Bool), (qiA : List Int), (qoA : List Int), (cwA : Int), (clA : Int), (fbB : Int), (fqB : Int), (fstB : Int), (peB : Int), (pcB : Int), (rrB : Int), (rtB : Int), (rlB : List (Int × Int)), (roB : Bool), (raB : Int), (srB : Int), (slB : List Int), (ssB : Int), (sfB : Int), (mcB : Bool), (mhB : Bool), (mccB : Bool), (mhcB : Bool), (qiB : List Int), (qoB : List Int), (cwB : Int), (clB : Int), _⟩, _⟩ K hK ⟨⟨_, _, _, _, _, _, _, h1, _, _, _, h2, _, _, _, _, _, _, h3, h4, _, _, _, _, _, _, _, _, _, g1, _, _, _, g2, _, _, _, _, _, _, g3, g4, _⟩, _⟩
  replace hK : K (.l (.v (.bool (lnkV ⟨⟨⟨⟨fbA, fqA, fstA⟩, peA, pcA, ⟨rrA, rtA, rlA, roA, raA⟩, ⟨srA, slA, ssA, sfA⟩, ⟨mcA, mhA, mccA, mhcA⟩⟩, qiA, qoA, cwA, clA⟩, ⟨⟨⟨fbB, fqB, fstB⟩, peB, pcB, ⟨rrB, rtB, rlB, roB, raB⟩, ⟨srB, slB, ssB, sfB⟩, ⟨mcB, mhB, mccB, mhcB⟩⟩, qiB, qoB, cwB, clB⟩⟩)))) := hK
  replace h1 : rlA.length ≤ 1099511627776 := h1
  replace h2 : slA.length ≤ 1099511627776 := h2
  replace h3 : qiA.length ≤ 1099511627776 := h3
  replace h4 : qoA.length ≤ 1099511627776 := h4
  replace g1 : rlB.length ≤ 1099511627776 := g1
  replace g2 : slB.length ≤ 1099511627776 := g2
  replace g3 : qiB.length ≤ 1099511627776 := g3
  replace g4 : qoB.length ≤ 1099511627776 := g4
  repeat' ((conv => whnf); (first | (refine Side.mk ?_ ?_; focus (first | omega | with_reducible assumption | kernel_rfl | exact rfl | (with_reducible first | omega | exact rngI (by omega) | (and_intros <;> first | trivial | omega | exact rngI (by omega))) | (dsimp only [EL.len]; with_reducible first | omega | exact rngI (by omega) | (and_intros <;> first | trivial | omega | exact rngI (by omega))) | with_reducible exact rngB (by omega) | with_reducible exact rngI ⟨by decide, by decide⟩ | exact ⟨rfl, trivial⟩ | exact ⟨rfl, rfl, trivial⟩ | exact ⟨⟨rfl, rfl, rfl, rfl⟩, trivial⟩ | (show (_ : Int) ≤ _ ∧ (_ : Int) ≤ _; omega) | (show (_ : Int) ≤ _; omega) | (simp only [EL.len, EL.sz, EL.take, EL.drop, maxL, la, ln, lc, ld, lt, ls, lna]; with_reducible first | omega | exact rngI (by omega) | (and_intros <;> first | trivial | omega | exact rngI (by omega))) | (simp only [EL.len, EL.sz, EL.take, EL.drop, maxL, la, ln, lc, ld, lt, ls, lna] at *; with_reducible first | omega | exact rngI (by omega) | (and_intros <;> first | trivial | omega | exact rngI (by omega))))) | (refine End.mk ?_; exact hF) | refine End.mk ?_ | refine brT ?_ | refine brF ?_ | (refine brT' ?_ ?_; focus with_reducible assumption) | (refine brF' ?_ ?_; focus with_reducible assumption) | (refine Br.mk ?_ ?_ <;> (intro hb; have h := hb; (try simp only [decide_eq_true_eq, decide_eq_false_iff_not, Bool.not_eq_true', Bool.not_eq_false', Bool.not_eq_eq_eq_not, Bool.not_true, Bool.not_false, ge_iff_le, gt_iff_lt, Bool.and_eq_true, Bool.and_eq_false_iff, Bool.or_eq_true, Bool.or_eq_false_iff, beq_self_eq_true, not_true_eq_false, and_self, Bool.true_eq_false, Bool.false_eq_true, not_false_eq_true] at h); (try dsimp only [EL.len] at h); (try (exfalso; first | omega | exact bnF h (by with_reducible assumption) | exact bnT h (by with_reducible assumption))))) | (refine fun (y : Int) (h0 : 0 ≤ y) h1 => ?_)))
  all_goals
    (refine Exists.intro _ (And.intro ?_ hK); repeat' (first | (refine Side.mk ?_ ?_; focus (first | with_reducible exact rfl | exact Eq.refl true | exact Eq.refl false)) | (refine Side.mk ?_ ?_) | exact True.intro))
    simp_all [lnkV]
def c_s_LinkValid : CS := csOf [.inr [.int, .int, .int, .int, .int, .int, .int, .gots, .bool, .int, .int, .ints, .int, .int, .bool, .bool, .bool, .bool, .ints, .ints, .int, .int, .int, .int, .int, .int, .int, .int, .int, .gots, .bool, .int, .int, .ints, .int, .int, .bool, .bool, .bool, .bool, .ints, .ints, .int, .int]] (fun ⟨⟨fbA, fqA, fstA, peA, pcA, rrA, rtA, rlA, roA, raA, srA, slA, ssA, sfA, mcA, mhA, mccA, mhcA, qiA, qoA, cwA, clA, fbB, fqB, fstB, peB, pcB, rrB, rtB, rlB, roB, raB, srB, slB, ssB, sfB, mcB, mhB, mccB, mhcB, qiB, qoB, cwB, clB, _⟩, _⟩ K => K (.l (.v (.bool (lnkV ⟨⟨⟨⟨fbA, fqA, fstA⟩, peA, pcA, ⟨rrA, rtA, rlA, roA, raA⟩, ⟨srA, slA, ssA, sfA⟩, ⟨mcA, mhA, mccA, mhcA⟩⟩, qiA, qoA, cwA, clA⟩, ⟨⟨⟨fbB, fqB, fstB⟩, peB, pcB, ⟨rrB, rtB, rlB, roB, raB⟩, ⟨srB, slB, ssB, sfB⟩, ⟨mcB, mhB, mccB, mhcB⟩⟩, qiB, qoB, cwB, clB⟩⟩)))))
theorem c_s_LinkValid_ok : CSok Try.prog 41 c_s_LinkValid := cs_ok (by kernel_rfl) con_s_LinkValid



end Go.Proofs.Ytkhggobpanfkfaa
