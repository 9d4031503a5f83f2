/-
  What the exact laws do with pairs: copies, comparisons, marks.
-/
import Derived.Test.YtffngipmjbffkaaGreatDoorExP
import Derived.Test.YtffngipmjbffkaaGreatDoorM5
namespace Go.Proofs.YtffngipmjbffkaaGreatDoor
open Go.RowKit
open Ab
set_option linter.unusedSimpArgs false
set_option linter.unusedVariables false

theorem rds_cons {w : World} {s : Sh} {ss : List Sh} {x : s.T} {xs : HL ss} {v : Value} {vs : List Value} (h : rdL w s x v) (h2 : rds w ss xs vs) : rds w (s :: ss) (x, xs) (v :: vs) := ⟨h, h2⟩
theorem law_con {f : FuncId} {ss : List Sh} {sig : List (Sh ⊕ List Sh)} (con : Con Tryz.prog f (.inr ss :: sig) (fun _ K => K (.l (.v (.bool true))))) {w : World} {x : HL ss} {y : DA sig} {us vs : List Value} (hr : rds w ss x us) (hy : rdA w sig y vs) :
    Calls Tryz.prog f (List.toArray (.agg us.toArray :: vs)) w fun e w' => e = .returned (.bool true) ∧ Below w.heap.size w w' := by
  refine (con (x, y) (fun d => d = .l (.v (.bool true))) rfl w (List.toArray (.agg us.toArray :: vs)) ⟨⟨_, rfl, by simpa using hr⟩, hy⟩).mono ?_
  rintro e w' ⟨d, u, rfl, rfl, hb, bs, h1, _⟩
  obtain ⟨rfl, _⟩ := h1
  exact ⟨rfl, hb⟩
theorem port_len {p : Prt} (h : prtV p = true) : p.rc.items.length ≤ 16 ∧ p.sd.items.length ≤ 16 := by
  obtain ⟨_, _, _, h4, h5⟩ := prtV_bd h
  have a := rcvV_bd h4
  have b := sndV_bd h5
  omega
def parLen (x : Par) : Prop := x.a.rc.items.length ≤ 16 ∧ x.a.sd.items.length ≤ 16 ∧ x.b.rc.items.length ≤ 16 ∧ x.b.sd.items.length ≤ 16
theorem par_len {x : Par} (h : parV x = true) : parLen x := by
  obtain ⟨ha, hb⟩ := parV_bd h
  have a := port_len ha
  have b := port_len hb
  exact ⟨a.1, a.2, b.1, b.2⟩
theorem par0_len : parLen par0 := ⟨Nat.zero_le _, Nat.zero_le _, Nat.zero_le _, Nat.zero_le _⟩
theorem ptick_len (x : Par) : parLen (ptickR x).p := by
  unfold ptickR
  split
  · rename_i h
    exact par_len (ptick_valid h)
  · exact par0_len
theorem prun_len (x : Par) (t : Int) : parLen (prunR x t).p := by
  unfold prunR
  split
  · rename_i h
    exact par_len (runV_valid h.1 _)
  · exact par0_len




end Go.Proofs.YtffngipmjbffkaaGreatDoor
