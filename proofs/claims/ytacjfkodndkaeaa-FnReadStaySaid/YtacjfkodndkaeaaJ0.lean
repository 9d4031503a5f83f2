/-
  What is read, in plain Lean: facts for the laws on reading.
-/
import Derived.Test.YtacjfkodndkaeaaI4
namespace Go.Proofs.Ytacjfkodndkaeaa
open Go.RowKit
open Ab

theorem pread_ok {p : Prt} {g : Int} (h : (preadR p g).ok = true) : prtV p = true ∧ 0 ≤ g ∧ g ≤ 6 := by
  cases hv : prtV p with
  | false => simp [preadR, hv] at h
  | true =>
    by_cases hg : g < 0 ∨ 6 < g
    · rw [pread_none hg] at h
      exact absurd h (by simp)
    · exact ⟨rfl, by omega⟩
theorem pread_bad {p : Prt} {g : Int} (h : (preadR p g).ok = false) : preadR p g = ⟨prt0, 0, false⟩ := by
  cases hv : prtV p with
  | false => simp [preadR, hv]
  | true =>
    by_cases hg : g < 0 ∨ 6 < g
    · exact pread_none hg
    · have hc : g = 0 ∨ g = 1 ∨ g = 2 ∨ g = 3 ∨ g = 4 ∨ g = 5 ∨ g = 6 := by omega
      rcases hc with rfl | rfl | rfl | rfl | rfl | rfl | rfl <;> simp [preadR, hv] at h
theorem pread0 {p : Prt} (h : prtV p = true) : preadR p 0 = ⟨pdata p, (rtakeR p.rc).g.1, true⟩ := by simp [preadR, h]
theorem pread1 {p : Prt} (h : prtV p = true) : preadR p 1 = ⟨p, p.en, true⟩ := by simp [preadR, h]
theorem pread2 {p : Prt} (h : prtV p = true) : preadR p 2 = ⟨p, pirqN p, true⟩ := by simp [preadR, h]
theorem pread3 {p : Prt} (h : prtV p = true) : preadR p 3 = ⟨p, fbyN p.f, true⟩ := by simp [preadR, h]
theorem pread4 {p : Prt} (h : prtV p = true) : preadR p 4 = ⟨p, p.co, true⟩ := by simp [preadR, h]
theorem pread5 {p : Prt} (h : prtV p = true) : preadR p 5 = ⟨pstatP p, pstatN p, true⟩ := by simp [preadR, h]
theorem pread6 {p : Prt} (h : prtV p = true) : preadR p 6 = ⟨pmodP p, mreadN p.md, true⟩ := by simp [preadR, h]
theorem rtake_rcv {x : Rcv} (h : rcvV x = true) : (∃ m, (rtakeR x).r = ⟨x.room, x.trig, m, x.lost, 0⟩ ∧ rcvV (rtakeR x).r = true ∧ (rtakeR x).ok = true ∧ 0 ≤ (rtakeR x).g.1) ∨ (rtakeR x).ok = false ∧ (rtakeR x).g.1 = 0 := by
  obtain ⟨r, t, l, o, a⟩ := x
  cases l with
  | nil => exact .inr (by simp [rtakeR, h])
  | cons g l =>
    refine .inl ⟨l, ?_⟩
    have hb := rcvV_bd h
    dsimp only at hb
    obtain ⟨h1, h2, h3, h4, h5⟩ := hb
    simp only [List.length_cons] at h3
    have e : rtakeR ⟨r, t, g :: l, o, a⟩ = ⟨⟨r, t, l, o, 0⟩, g, true⟩ := by simp [rtakeR, h]
    rw [e]
    simp only [allG, List.all_cons, Bool.and_eq_true] at h5
    refine ⟨rfl, rcvV_yes h1 h2 ?_ (by omega) h5.2, rfl, ?_⟩
    · omega
    · have := h5.1
      simp only [gotB, byteB, Bool.and_eq_true, decide_eq_true_eq] at this
      show 0 ≤ g.1
      omega
theorem pdata_valid {p : Prt} (h : prtV p = true) : prtV (pdata p) = true := by
  obtain ⟨h1, h2, h3, h4, h5⟩ := prtV_bd h
  refine prtV_yes h1 h2 h3 ?_ h5
  split
  · rcases rtake_rcv h4 with ⟨m, e, hv, _⟩ | ⟨e, _⟩
    · exact hv
    · simp_all
  · exact h4
theorem pstat_valid {p : Prt} (h : prtV p = true) : prtV (pstatP p) = true := by
  obtain ⟨h1, h2, h3, h4, h5⟩ := prtV_bd h
  refine prtV_yes h1 h2 h3 ?_ h5
  exact h4
theorem pmod_valid {p : Prt} (h : prtV p = true) : prtV (pmodP p) = true := by
  obtain ⟨h1, h2, h3, h4, h5⟩ := prtV_bd h
  exact prtV_yes h1 h2 h3 h4 h5
theorem pread_valid {p : Prt} {g : Int} (h : (preadR p g).ok = true) : prtV (preadR p g).p = true := by
  obtain ⟨hv, h0, h1⟩ := pread_ok h
  have hc : g = 0 ∨ g = 1 ∨ g = 2 ∨ g = 3 ∨ g = 4 ∨ g = 5 ∨ g = 6 := by omega
  rcases hc with rfl | rfl | rfl | rfl | rfl | rfl | rfl
  · rw [pread0 hv]; exact pdata_valid hv
  · rw [pread1 hv]; exact hv
  · rw [pread2 hv]; exact hv
  · rw [pread3 hv]; exact hv
  · rw [pread4 hv]; exact hv
  · rw [pread5 hv]; exact pstat_valid hv
  · rw [pread6 hv]; exact pmod_valid hv
theorem mread_pos (m : Mdm) : 0 ≤ mreadN m := by
  unfold mreadN
  repeat' split
  all_goals omega
theorem pstat_twice {p : Prt} (h : prtV p = true) : pstatN (pstatP p) = pstatN p - pstatN p / 2 % 2 * 2 := by
  obtain ⟨h1, h2, h3, h4, h5⟩ := prtV_bd h
  have h6 : rcvV ⟨p.rc.room, p.rc.trig, p.rc.items, false, p.rc.age⟩ = true := h4
  simp only [pstatN, pstatP, rstatN, h4, h6, if_true, statN, h5, Bool.false_eq_true, if_false]
  have hc : codeN p.rc.items = 0 ∨ codeN p.rc.items = 1 ∨ codeN p.rc.items = 5 ∨ codeN p.rc.items = 9 := by
    unfold codeN
    split
    · exact .inl rfl
    · split
      · exact .inr (.inr (.inl rfl))
      · split
        · exact .inr (.inr (.inr rfl))
        · exact .inr (.inl rfl)
  rcases hc with hc | hc | hc | hc <;> rw [hc] <;> repeat' split
  all_goals omega

end Go.Proofs.Ytacjfkodndkaeaa
