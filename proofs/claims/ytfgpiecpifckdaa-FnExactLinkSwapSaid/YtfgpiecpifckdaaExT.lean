/-
  What the exact laws do with pairs: copies, comparisons, marks.
-/
import Derived.Test.YtfgpiecpifckdaaExP
import Derived.Test.YtfgpiecpifckdaaM5
namespace Go.Proofs.Ytfgpiecpifckdaa
open Go.RowKit
open Ab
set_option linter.unusedSimpArgs false
set_option linter.unusedVariables false

theorem rds_cons {w : World} {s : Sh} {ss : List Sh} {x : s.T} {xs : HL ss} {v : Value} {vs : List Value} (h : rdL w s x v) (h2 : rds w ss xs vs) : rds w (s :: ss) (x, xs) (v :: vs) := ⟨h, h2⟩
theorem law_con {f : FuncId} {ss : List Sh} {sig : List (Sh ⊕ List Sh)} (con : Con Try.prog f (.inr ss :: sig) (fun _ K => K (.l (.v (.bool true))))) {w : World} {x : HL ss} {y : DA sig} {us vs : List Value} (hr : rds w ss x us) (hy : rdA w sig y vs) :
    Calls Try.prog f (List.toArray (.agg us.toArray :: vs)) w fun e w' => e = .returned (.bool true) ∧ Below w.heap.size w w' := by
  refine (con (x, y) (fun d => d = .l (.v (.bool true))) rfl w (List.toArray (.agg us.toArray :: vs)) ⟨⟨_, rfl, by simpa using hr⟩, hy⟩).mono ?_
  rintro e w' ⟨d, u, rfl, rfl, hb, bs, h1, _⟩
  obtain ⟨rfl, _⟩ := h1
  exact ⟨rfl, hb⟩
theorem port_len {p : Prt} (h : prtV p = true) : p.rc.items.length ≤ 16 ∧ p.sd.items.length ≤ 16 := by
  obtain ⟨_, _, _, h4, h5⟩ := prtV_bd h
  have a := rcvV_bd h4
  have b := sndV_bd h5
  omega
def parLen (x : Par) : Prop := x.a.rc.items.length ≤ 16 ∧ x.a.sd.items.length ≤ 16 ∧ x.b.rc.items.length ≤ 16 ∧ x.b.sd.items.length ≤ 16
theorem par_len {x : Par} (h : parV x = true) : parLen x := by
  obtain ⟨ha, hb⟩ := parV_bd h
  have a := port_len ha
  have b := port_len hb
  exact ⟨a.1, a.2, b.1, b.2⟩
theorem par0_len : parLen par0 := ⟨Nat.zero_le _, Nat.zero_le _, Nat.zero_le _, Nat.zero_le _⟩
theorem ptick_len (x : Par) : parLen (ptickR x).p := by
  unfold ptickR
  split
  · rename_i h
    exact par_len (ptick_valid h)
  · exact par0_len
theorem prun_len (x : Par) (t : Int) : parLen (prunR x t).p := by
  unfold prunR
  split
  · rename_i h
    exact par_len (runV_valid h.1 _)
  · exact par0_len

def env_l_toPair : Env := [(41, c_l_toPort)]
theorem env_l_toPair_ok : EnvOk Try.prog env_l_toPair := envAll_ok ⟨c_l_toPort_ok, trivial⟩
def tr_l_toPair : Nat → Tr := fun n => match n with
  | _ => .nil
set_option maxRecDepth 100000 in
set_option maxHeartbeats 2000000 in
theorem con_l_toPair : Con Try.prog 10 [.inr [.int, .int, .int, .int, .int, .int, .int, .gots, .bool, .int, .int, .ints, .int, .int, .bool, .bool, .bool, .bool, .int, .int, .int, .int, .int, .int, .int, .gots, .bool, .int, .int, .ints, .int, .int, .bool, .bool, .bool, .bool]] (fun ⟨⟨fbA, fqA, fstA, peA, pcA, rrA, rtA, rlA, roA, raA, srA, slA, ssA, sfA, mcA, mhA, mccA, mhcA, fbB, fqB, fstB, peB, pcB, rrB, rtB, rlB, roB, raB, srB, slB, ssB, sfB, mcB, mhB, mccB, mhcB, _⟩, _⟩ K => K (.a (Par.d ⟨⟨⟨fbA, fqA, fstA⟩, peA, pcA, ⟨rrA, rtA, rlA, roA, raA⟩, ⟨srA, slA, ssA, sfA⟩, ⟨mcA, mhA, mccA, mhcA⟩⟩, ⟨⟨fbB, fqB, fstB⟩, peB, pcB, ⟨rrB, rtB, rlB, roB, raB⟩, ⟨srB, slB, ssB, sfB⟩, ⟨mcB, mhB, mccB, mhcB⟩⟩⟩))) := by
  refine con_ofN (TR := tr_l_toPair) tab_ok mixed_ok env_l_toPair_ok Try.func10 rfl ?_
  rintro ⟨⟨(fbA : Int), (fqA : Int), (fstA : Int), (peA : Int), (pcA : Int), (rrA : Int), (rtA : Int), (rlA : List (Int × Int)), (roA : Bool), (raA : Int), (srA : Int), (slA : List Int), (ssA : Int), (sfA : Int), (mcA : Bool), (mhA : Bool), (mccA : Bool), (mhcA : Bool), (fbB : Int), (fqB : Int), (fstB : Int), (peB : Int), (pcB : Int), (rrB : Int), (rtB : Int), (rlB : List (Int × Int)), (roB : Bool), (raB : Int), (srB : Int), (slB : List Int), (ssB : Int), (sfB : Int), (mcB : Bool), (mhB : Bool), (mccB : Bool), (mhcB : Bool), _⟩, _⟩ K hK _
  replace hK : K (.a (Par.d ⟨⟨⟨fbA, fqA, fstA⟩, peA, pcA, ⟨rrA, rtA, rlA, roA, raA⟩, ⟨srA, slA, ssA, sfA⟩, ⟨mcA, mhA, mccA, mhcA⟩⟩, ⟨⟨fbB, fqB, fstB⟩, peB, pcB, ⟨rrB, rtB, rlB, roB, raB⟩, ⟨srB, slB, ssB, sfB⟩, ⟨mcB, mhB, mccB, mhcB⟩⟩⟩)) := hK
  repeat' ((conv => whnf); (first | (refine Side.mk ?_ ?_; focus (first | omega | with_reducible assumption | kernel_rfl | exact rfl | (with_reducible first | omega | exact rngI (by omega) | (and_intros <;> first | trivial | omega | exact rngI (by omega))) | (dsimp only [EL.len]; with_reducible first | omega | exact rngI (by omega) | (and_intros <;> first | trivial | omega | exact rngI (by omega))) | with_reducible exact rngB (by omega) | with_reducible exact rngI ⟨by decide, by decide⟩ | exact ⟨rfl, trivial⟩ | exact ⟨rfl, rfl, trivial⟩ | exact ⟨⟨rfl, rfl, rfl, rfl⟩, trivial⟩ | (show (_ : Int) ≤ _ ∧ (_ : Int) ≤ _; omega) | (show (_ : Int) ≤ _; omega) | (simp only [EL.len, EL.sz, EL.take, EL.drop, maxL, la, ln, lc, ld, lt, ls, lna]; with_reducible first | omega | exact rngI (by omega) | (and_intros <;> first | trivial | omega | exact rngI (by omega))) | (simp only [EL.len, EL.sz, EL.take, EL.drop, maxL, la, ln, lc, ld, lt, ls, lna] at *; with_reducible first | omega | exact rngI (by omega) | (and_intros <;> first | trivial | omega | exact rngI (by omega))))) | (refine End.mk ?_; exact hF) | refine End.mk ?_ | refine brT ?_ | refine brF ?_ | (refine brT' ?_ ?_; focus with_reducible assumption) | (refine brF' ?_ ?_; focus with_reducible assumption) | (refine Br.mk ?_ ?_ <;> (intro hb; have h := hb; (try simp only [decide_eq_true_eq, decide_eq_false_iff_not, Bool.not_eq_true', Bool.not_eq_false', Bool.not_eq_eq_eq_not, Bool.not_true, Bool.not_false, ge_iff_le, gt_iff_lt, Bool.and_eq_true, Bool.and_eq_false_iff, Bool.or_eq_true, Bool.or_eq_false_iff, beq_self_eq_true, not_true_eq_false, and_self, Bool.true_eq_false, Bool.false_eq_true, not_false_eq_true] at h); (try dsimp only [EL.len] at h); (try (exfalso; first | omega | exact bnF h (by with_reducible assumption) | exact bnT h (by with_reducible assumption))))) | (refine fun (y : Int) (h0 : 0 ≤ y) h1 => ?_)))
  (refine Exists.intro _ (And.intro ?_ hK); repeat' (first | (refine Side.mk ?_ ?_; focus (first | with_reducible exact rfl | exact Eq.refl true | exact Eq.refl false)) | (refine Side.mk ?_ ?_) | exact True.intro)); all_goals (first | exact rfl | (simp; done))
def c_l_toPair : CS := csOf [.inr [.int, .int, .int, .int, .int, .int, .int, .gots, .bool, .int, .int, .ints, .int, .int, .bool, .bool, .bool, .bool, .int, .int, .int, .int, .int, .int, .int, .gots, .bool, .int, .int, .ints, .int, .int, .bool, .bool, .bool, .bool]] (fun ⟨⟨fbA, fqA, fstA, peA, pcA, rrA, rtA, rlA, roA, raA, srA, slA, ssA, sfA, mcA, mhA, mccA, mhcA, fbB, fqB, fstB, peB, pcB, rrB, rtB, rlB, roB, raB, srB, slB, ssB, sfB, mcB, mhB, mccB, mhcB, _⟩, _⟩ K => K (.a (Par.d ⟨⟨⟨fbA, fqA, fstA⟩, peA, pcA, ⟨rrA, rtA, rlA, roA, raA⟩, ⟨srA, slA, ssA, sfA⟩, ⟨mcA, mhA, mccA, mhcA⟩⟩, ⟨⟨fbB, fqB, fstB⟩, peB, pcB, ⟨rrB, rtB, rlB, roB, raB⟩, ⟨srB, slB, ssB, sfB⟩, ⟨mcB, mhB, mccB, mhcB⟩⟩⟩)))
theorem c_l_toPair_ok : CSok Try.prog 10 c_l_toPair := cs_ok (by kernel_rfl) con_l_toPair

def env_l_eqPair : Env := [(46, c_l_eqPort)]
theorem env_l_eqPair_ok : EnvOk Try.prog env_l_eqPair := envAll_ok ⟨c_l_eqPort_ok, trivial⟩
def tr_l_eqPair : Nat → Tr := fun n => match n with
  | _ => .nil
set_option maxRecDepth 100000 in
set_option maxHeartbeats 2000000 in
theorem con_l_eqPair : Con Try.prog 12 [.inr [.int, .int, .int, .int, .int, .int, .int, .gots, .bool, .int, .int, .ints, .int, .int, .bool, .bool, .bool, .bool, .int, .int, .int, .int, .int, .int, .int, .gots, .bool, .int, .int, .ints, .int, .int, .bool, .bool, .bool, .bool], .inr [.int, .int, .int, .int, .int, .int, .int, .gots, .bool, .int, .int, .ints, .int, .int, .bool, .bool, .bool, .bool, .int, .int, .int, .int, .int, .int, .int, .gots, .bool, .int, .int, .ints, .int, .int, .bool, .bool, .bool, .bool]] (fun ⟨⟨fbA, fqA, fstA, peA, pcA, rrA, rtA, rlA, roA, raA, srA, slA, ssA, sfA, mcA, mhA, mccA, mhcA, fbB, fqB, fstB, peB, pcB, rrB, rtB, rlB, roB, raB, srB, slB, ssB, sfB, mcB, mhB, mccB, mhcB, _⟩, ⟨fbC, fqC, fstC, peC, pcC, rrC, rtC, rlC, roC, raC, srC, slC, ssC, sfC, mcC, mhC, mccC, mhcC, fbD, fqD, fstD, peD, pcD, rrD, rtD, rlD, roD, raD, srD, slD, ssD, sfD, mcD, mhD, mccD, mhcD, _⟩, _⟩ K => K (.l (.v (.bool (sameQ ⟨⟨⟨fbA, fqA, fstA⟩, peA, pcA, ⟨rrA, rtA, rlA, roA, raA⟩, ⟨srA, slA, ssA, sfA⟩, ⟨mcA, mhA, mccA, mhcA⟩⟩, ⟨⟨fbB, fqB, fstB⟩, peB, pcB, ⟨rrB, rtB, rlB, roB, raB⟩, ⟨srB, slB, ssB, sfB⟩, ⟨mcB, mhB, mccB, mhcB⟩⟩⟩ ⟨⟨⟨fbC, fqC, fstC⟩, peC, pcC, ⟨rrC, rtC, rlC, roC, raC⟩, ⟨srC, slC, ssC, sfC⟩, ⟨mcC, mhC, mccC, mhcC⟩⟩, ⟨⟨fbD, fqD, fstD⟩, peD, pcD, ⟨rrD, rtD, rlD, roD, raD⟩, ⟨srD, slD, ssD, sfD⟩, ⟨mcD, mhD, mccD, mhcD⟩⟩⟩))))) := by
  refine con_ofN (TR := tr_l_eqPair) tab_ok mixed_ok env_l_eqPair_ok Try.func12 rfl ?_
  rintro ⟨⟨(fbA : Int), (fqA : Int), (fstA : Int), (peA : Int), (pcA : Int), (rrA : Int), (rtA : Int), (rlA : List (Int × Int)), (roA : Bool), (raA : Int), (srA : Int), (slA : List Int), (ssA : Int), (sfA : Int), (mcA : Bool), (mhA : Bool), (mccA : Bool), (mhcA : Bool), (fbB : Int), (fqB : Int), (fstB : Int), (peB : Int), (pcB : Int), (rrB : Int), (rtB : Int), (rlB : List (Int × Int)), (roB : Bool), (raB : Int), (srB : Int), (slB : List Int), (ssB : Int), (sfB : Int), (mcB : Bool), (mhB : Bool), (mccB : Bool), (mhcB : Bool), _⟩, ⟨(fbC : Int), (fqC : Int), (fstC : Int), (peC : Int), (pcC : Int), (rrC : Int), (rtC : Int), (rlC : List (Int × Int)), (roC : Bool), (raC : Int), (srC : Int), (slC : List Int), (ssC : Int), (sfC : Int), (mcC : Bool), (mhC : Bool), (mccC : Bool), (mhcC : Bool), (fbD : Int), (fqD : Int), (fstD : Int), (peD : Int), (pcD : Int), (rrD : Int), (rtD : Int), (rlD : List (Int × Int)), (roD : Bool), (raD : Int), (srD : Int), (slD : List Int), (ssD : Int), (sfD : Int), (mcD : Bool), (mhD : Bool), (mccD : Bool), (mhcD : Bool), _⟩, _⟩ K hK _
  replace hK : K (.l (.v (.bool (sameQ ⟨⟨⟨fbA, fqA, fstA⟩, peA, pcA, ⟨rrA, rtA, rlA, roA, raA⟩, ⟨srA, slA, ssA, sfA⟩, ⟨mcA, mhA, mccA, mhcA⟩⟩, ⟨⟨fbB, fqB, fstB⟩, peB, pcB, ⟨rrB, rtB, rlB, roB, raB⟩, ⟨srB, slB, ssB, sfB⟩, ⟨mcB, mhB, mccB, mhcB⟩⟩⟩ ⟨⟨⟨fbC, fqC, fstC⟩, peC, pcC, ⟨rrC, rtC, rlC, roC, raC⟩, ⟨srC, slC, ssC, sfC⟩, ⟨mcC, mhC, mccC, mhcC⟩⟩, ⟨⟨fbD, fqD, fstD⟩, peD, pcD, ⟨rrD, rtD, rlD, roD, raD⟩, ⟨srD, slD, ssD, sfD⟩, ⟨mcD, mhD, mccD, mhcD⟩⟩⟩)))) := hK
  repeat' ((conv => whnf); (first | (refine Side.mk ?_ ?_; focus (first | omega | with_reducible assumption | kernel_rfl | exact rfl | (with_reducible first | omega | exact rngI (by omega) | (and_intros <;> first | trivial | omega | exact rngI (by omega))) | (dsimp only [EL.len]; with_reducible first | omega | exact rngI (by omega) | (and_intros <;> first | trivial | omega | exact rngI (by omega))) | with_reducible exact rngB (by omega) | with_reducible exact rngI ⟨by decide, by decide⟩ | exact ⟨rfl, trivial⟩ | exact ⟨rfl, rfl, trivial⟩ | exact ⟨⟨rfl, rfl, rfl, rfl⟩, trivial⟩ | (show (_ : Int) ≤ _ ∧ (_ : Int) ≤ _; omega) | (show (_ : Int) ≤ _; omega) | (simp only [EL.len, EL.sz, EL.take, EL.drop, maxL, la, ln, lc, ld, lt, ls, lna]; with_reducible first | omega | exact rngI (by omega) | (and_intros <;> first | trivial | omega | exact rngI (by omega))) | (simp only [EL.len, EL.sz, EL.take, EL.drop, maxL, la, ln, lc, ld, lt, ls, lna] at *; with_reducible first | omega | exact rngI (by omega) | (and_intros <;> first | trivial | omega | exact rngI (by omega))))) | (refine End.mk ?_; exact hF) | refine End.mk ?_ | refine brT ?_ | refine brF ?_ | (refine brT' ?_ ?_; focus with_reducible assumption) | (refine brF' ?_ ?_; focus with_reducible assumption) | (refine Br.mk ?_ ?_ <;> (intro hb; have h := hb; (try simp only [decide_eq_true_eq, decide_eq_false_iff_not, Bool.not_eq_true', Bool.not_eq_false', Bool.not_eq_eq_eq_not, Bool.not_true, Bool.not_false, ge_iff_le, gt_iff_lt, Bool.and_eq_true, Bool.and_eq_false_iff, Bool.or_eq_true, Bool.or_eq_false_iff, beq_self_eq_true, not_true_eq_false, and_self, Bool.true_eq_false, Bool.false_eq_true, not_false_eq_true] at h); (try dsimp only [EL.len] at h); (try (exfalso; first | omega | exact bnF h (by with_reducible assumption) | exact bnT h (by with_reducible assumption))))) | (refine fun (y : Int) (h0 : 0 ≤ y) h1 => ?_)))
  all_goals
    (refine Exists.intro _ (And.intro ?_ hK); repeat' (first | (refine Side.mk ?_ ?_; focus (first | with_reducible exact rfl | exact Eq.refl true | exact Eq.refl false)) | (refine Side.mk ?_ ?_) | exact True.intro))
    simp_all [sameQ]
def c_l_eqPair : CS := csOf [.inr [.int, .int, .int, .int, .int, .int, .int, .gots, .bool, .int, .int, .ints, .int, .int, .bool, .bool, .bool, .bool, .int, .int, .int, .int, .int, .int, .int, .gots, .bool, .int, .int, .ints, .int, .int, .bool, .bool, .bool, .bool], .inr [.int, .int, .int, .int, .int, .int, .int, .gots, .bool, .int, .int, .ints, .int, .int, .bool, .bool, .bool, .bool, .int, .int, .int, .int, .int, .int, .int, .gots, .bool, .int, .int, .ints, .int, .int, .bool, .bool, .bool, .bool]] (fun ⟨⟨fbA, fqA, fstA, peA, pcA, rrA, rtA, rlA, roA, raA, srA, slA, ssA, sfA, mcA, mhA, mccA, mhcA, fbB, fqB, fstB, peB, pcB, rrB, rtB, rlB, roB, raB, srB, slB, ssB, sfB, mcB, mhB, mccB, mhcB, _⟩, ⟨fbC, fqC, fstC, peC, pcC, rrC, rtC, rlC, roC, raC, srC, slC, ssC, sfC, mcC, mhC, mccC, mhcC, fbD, fqD, fstD, peD, pcD, rrD, rtD, rlD, roD, raD, srD, slD, ssD, sfD, mcD, mhD, mccD, mhcD, _⟩, _⟩ K => K (.l (.v (.bool (sameQ ⟨⟨⟨fbA, fqA, fstA⟩, peA, pcA, ⟨rrA, rtA, rlA, roA, raA⟩, ⟨srA, slA, ssA, sfA⟩, ⟨mcA, mhA, mccA, mhcA⟩⟩, ⟨⟨fbB, fqB, fstB⟩, peB, pcB, ⟨rrB, rtB, rlB, roB, raB⟩, ⟨srB, slB, ssB, sfB⟩, ⟨mcB, mhB, mccB, mhcB⟩⟩⟩ ⟨⟨⟨fbC, fqC, fstC⟩, peC, pcC, ⟨rrC, rtC, rlC, roC, raC⟩, ⟨srC, slC, ssC, sfC⟩, ⟨mcC, mhC, mccC, mhcC⟩⟩, ⟨⟨fbD, fqD, fstD⟩, peD, pcD, ⟨rrD, rtD, rlD, roD, raD⟩, ⟨srD, slD, ssD, sfD⟩, ⟨mcD, mhD, mccD, mhcD⟩⟩⟩)))))
theorem c_l_eqPair_ok : CSok Try.prog 12 c_l_eqPair := cs_ok (by kernel_rfl) con_l_eqPair

def env_l_szPair : Env := [(38, c_l_szPort)]
theorem env_l_szPair_ok : EnvOk Try.prog env_l_szPair := envAll_ok ⟨c_l_szPort_ok, trivial⟩
def tr_l_szPair : Nat → Tr := fun n => match n with
  | _ => .nil
def c_l_szPair : CS := csN tab env_l_szPair tr_l_szPair Try.f8
theorem c_l_szPair_ok : CSok Try.prog 8 c_l_szPair := csN_ok tab_ok mixed_ok env_l_szPair_ok Try.func8 (by kernel_rfl)
def env_l_markPair : Env := [(47, c_l_markPort)]
theorem env_l_markPair_ok : EnvOk Try.prog env_l_markPair := envAll_ok ⟨c_l_markPort_ok, trivial⟩
def tr_l_markPair : Nat → Tr := fun n => match n with
  | _ => .nil
def c_l_markPair : CS := csN tab env_l_markPair tr_l_markPair Try.f13
theorem c_l_markPair_ok : CSok Try.prog 13 c_l_markPair := csN_ok tab_ok mixed_ok env_l_markPair_ok Try.func13 (by kernel_rfl)
def env_l_heldPair : Env := [(48, c_l_heldPort)]
theorem env_l_heldPair_ok : EnvOk Try.prog env_l_heldPair := envAll_ok ⟨c_l_heldPort_ok, trivial⟩
def tr_l_heldPair : Nat → Tr := fun n => match n with
  | _ => .nil
def c_l_heldPair : CS := csN tab env_l_heldPair tr_l_heldPair Try.f14
theorem c_l_heldPair_ok : CSok Try.prog 14 c_l_heldPair := csN_ok tab_ok mixed_ok env_l_heldPair_ok Try.func14 (by kernel_rfl)

end Go.Proofs.Ytfgpiecpifckdaa
