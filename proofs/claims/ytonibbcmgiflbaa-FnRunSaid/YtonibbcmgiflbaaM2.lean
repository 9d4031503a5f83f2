/-
  What a tick does to a valid sender, in plain Lean. No program here.
-/
import Derived.Test.YtonibbcmgiflbaaM1
namespace Go.Proofs.Ytonibbcmgiflbaa
open Go.RowKit
open Ab
set_option linter.unusedSimpArgs false
set_option linter.unusedVariables false

def pend (s : Snd) : List Int := (if 0 ≤ s.shift then [s.shift] else []) ++ s.items

theorem allB_tail {x : Int} {l : List Int} (h : allB (x :: l) = true) : byteB x = true ∧ allB l = true := by
  simpa [allB] using h
theorem tick_valid {s : Snd} (hv : sndV s = true) : sndV (tickV s).1 = true := by
  obtain ⟨r, l, s, f⟩ := s
  have hbd := sndV_bd hv
  dsimp only at hbd
  obtain ⟨⟨b1, b2, b3⟩, b4, b5⟩ := hbd
  by_cases hs : s = -1 <;> by_cases hf : f = 1 <;> cases l <;> simp_all [tickV, tick1, sndV, fifoB] <;> first | done | (have := allB_tail b4; simp_all [byteB]; omega) | (simp_all [byteB]; omega)
theorem tick_waits {s : Snd} (hv : sndV s = true) (h : 0 < waitsN s) : waitsN (tickV s).1 = waitsN s - 1 := by
  have h2 := tick_valid hv
  simp only [waitsN, hv, h2, if_true] at h ⊢
  obtain ⟨r, l, s, f⟩ := s
  have hbd := sndV_bd hv
  dsimp only at hbd h ⊢
  obtain ⟨⟨b1, b2, b3⟩, b4, b5⟩ := hbd
  clear hv h2
  by_cases hs : s = -1 <;> by_cases hf : f = 1 <;> cases l <;> simp_all [tickV, tick1] <;> first | omega | (have hh := byteB_bd (allB_tail b4).1; split <;> omega)
theorem stat_waits {s : Snd} (hv : sndV s = true) : statN s = 96 ↔ waitsN s = 0 := by
  simp only [waitsN, statN, hv, if_true]
  obtain ⟨r, l, s, f⟩ := s
  have hbd := sndV_bd hv
  dsimp only at hbd ⊢
  obtain ⟨⟨b1, b2, b3⟩, b4, b5⟩ := hbd
  clear hv
  by_cases hs : s = -1 <;> cases l <;> simp_all <;> first | omega
theorem tick_pend {s : Snd} (hv : sndV s = true) : (if 0 ≤ (tickV s).2 then [(tickV s).2] else []) ++ pend (tickV s).1 = pend s := by
  obtain ⟨r, l, s, f⟩ := s
  have hbd := sndV_bd hv
  dsimp only at hbd
  obtain ⟨⟨b1, b2, b3⟩, b4, b5⟩ := hbd
  clear hv
  by_cases hs : s = -1 <;> by_cases hf : f = 1 <;> cases l <;> simp_all [tickV, tick1, pend] <;> first | omega | (have hh := byteB_bd (allB_tail b4).1; simp [hh.1]; done) | (have hh := byteB_bd (allB_tail b4).1; simp_all; omega) | (have hh := byteB_bd (allB_tail b4).1; trace_state; omega)
theorem pend_nil {s : Snd} (hv : sndV s = true) (h : waitsN s = 0) : pend s = [] := by
  simp only [waitsN, hv, if_true] at h
  obtain ⟨r, l, s, f⟩ := s
  have hbd := sndV_bd hv
  dsimp only at hbd h
  obtain ⟨⟨b1, b2, b3⟩, b4, b5⟩ := hbd
  clear hv
  by_cases hs : s = -1 <;> cases l <;> simp_all [pend] <;> omega
theorem waits_nonneg {s : Snd} (hv : sndV s = true) : 0 ≤ waitsN s ∧ waitsN s ≤ 100 := by
  simp only [waitsN, hv, if_true]
  have hbd := sndV_bd hv
  obtain ⟨⟨b1, b2, b3⟩, b4, b5⟩ := hbd
  split <;> omega
theorem waits_bad {s : Snd} (hv : ¬ sndV s = true) : waitsN s = -1 := by simp [waitsN, hv]

end Go.Proofs.Ytonibbcmgiflbaa
