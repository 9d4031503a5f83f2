/-
  Steps of links, bytes on their way, in plain Lean. No program here.
-/
import Derived.Test.YtkhggobpanfkfaaM7
import Derived.Test.YtkhggobpanfkfaaM5
namespace Go.Proofs.Ytkhggobpanfkfaa
open Go.RowKit
open Ab
set_option linter.unusedSimpArgs false
set_option linter.unusedVariables false

def lstepV (x : Lnk) : Lnk := ⟨(serveF 40 ⟨ptickV x.a.p x.b.p, x.a.inn, x.a.out, x.a.wrong, x.a.lost⟩).1, (serveF 40 ⟨ptickV x.b.p x.a.p, x.b.inn, x.b.out, x.b.wrong, x.b.lost⟩).1⟩
theorem tick_drv {d : Drv} {q : Prt} (h : drvV d = true) (hq : prtV q = true) : drvV ⟨ptickV d.p q, d.inn, d.out, d.wrong, d.lost⟩ = true := by
  obtain ⟨h1, h2, h3, h4, h5⟩ := drvV_bd h
  exact drvV_yes (ptickV_valid h1 hq) h2 h3 h4 h5
theorem lnkV_f {x : Lnk} (h : lnkV x = true) : x.a.p.f = x.b.p.f := by
  simp only [lnkV, Bool.and_eq_true, decide_eq_true_eq] at h
  obtain ⟨_, h1, h2, h3⟩ := h
  cases hx : x.a.p.f
  cases hy : x.b.p.f
  rw [hx, hy] at h1 h2 h3
  simp_all
theorem lnkV_yes {x : Lnk} (h1 : drvV x.a = true) (h2 : drvV x.b = true) (h3 : x.a.p.f = x.b.p.f) : lnkV x = true := by
  simp [lnkV, h1, h2, h3]
theorem lstep_valid {x : Lnk} (h : lnkV x = true) : lnkV (lstepV x) = true := by
  obtain ⟨ha, hb⟩ := lnkV_bd h
  have pa := (drvV_bd ha).1
  have pb := (drvV_bd hb).1
  have va := tick_drv ha pb
  have vb := tick_drv hb pa
  obtain ⟨a1, _, _, _, _, _, _, _, _, _, a11⟩ := serveF_end 40 _ va (by have := smu_bd va; omega)
  obtain ⟨b1, _, _, _, _, _, _, _, _, _, b11⟩ := serveF_end 40 _ vb (by have := smu_bd vb; omega)
  exact lnkV_yes a1 b1 (a11.trans ((lnkV_f h).trans b11.symm))
def lrunV : Nat → Lnk → Lnk
  | 0, x => x
  | n + 1, x => lstepV (lrunV n x)
theorem lrun_valid {x : Lnk} (h : lnkV x = true) : ∀ n, lnkV (lrunV n x) = true
  | 0 => h
  | n + 1 => lstep_valid (lrun_valid h n)
def lrunR (x : Lnk) (t : Int) : LnkR := if lnkV x = true ∧ 0 ≤ t ∧ t ≤ 150 then ⟨lrunV t.toNat x, true⟩ else ⟨lnk0, false⟩
def lnkLen (x : Lnk) : Prop := drvLen x.a ∧ drvLen x.b
theorem lnk_len {x : Lnk} (h : lnkV x = true) : lnkLen x := ⟨drv_len (lnkV_bd h).1, drv_len (lnkV_bd h).2⟩
theorem lrun_len (x : Lnk) (t : Int) : lnkLen (lrunR x t).l := by
  unfold lrunR
  split
  · rename_i h
    exact lnk_len (lrun_valid h.1 _)
  · exact ⟨drv0_len, drv0_len⟩

/-- Bytes on their way. -/
def flightV (x : Lnk) : List Int := if lnkV x = true then ((x.b.inn ++ x.b.p.rc.items.map Prod.fst) ++ (if x.a.p.sd.shift = -1 then [] else [x.a.p.sd.shift])) ++ x.a.p.sd.items ++ x.a.out else []
theorem flight_len (x : Lnk) : (flightV x).length ≤ 200 := by
  unfold flightV
  split
  · rename_i h
    obtain ⟨⟨a1, a2, a3, a4⟩, ⟨b1, b2, b3, b4⟩⟩ := lnk_len h
    split <;> simp <;> omega
  · simp
def enSend (e : Int) : Int := if e / 2 % 2 = 1 then e else e + 2
def dsendR (x : Drv) (l : List Int) : DrvR := if drvV x = true ∧ allB l = true ∧ x.out.length + l.length ≤ 32 then ⟨⟨⟨x.p.f, if x.out ++ l = [] then x.p.en else enSend x.p.en, x.p.co, x.p.rc, x.p.sd, x.p.md⟩, x.inn, x.out ++ l, x.wrong, x.lost⟩, true⟩ else ⟨drv0, false⟩
theorem dsend_valid {x : Drv} {l : List Int} (h : (dsendR x l).ok = true) : drvV x = true ∧ allB l = true ∧ x.out.length + l.length ≤ 32 ∧ drvV (dsendR x l).x = true := by
  unfold dsendR at h ⊢
  split at h
  · rename_i hc
    rw [if_pos hc]
    obtain ⟨h1, h2, h3, h4, h5⟩ := drvV_bd hc.1
    obtain ⟨p1, p2, p3, p4, p5⟩ := prtV_bd h1
    refine ⟨hc.1, hc.2.1, hc.2.2, drvV_yes (prtV_yes p1 ?_ p3 p4 p5) h2 ⟨by simp; omega, allB_app.2 ⟨h3.2, hc.2.1⟩⟩ h4 h5⟩
    unfold enSend
    split
    · exact p2
    · split <;> omega
  · cases h
theorem dsend_len (x : Drv) (l : List Int) : drvLen (dsendR x l).x := by
  cases h : (dsendR x l).ok with
  | true => exact drv_len (dsend_valid h).2.2.2
  | false =>
    unfold dsendR at h ⊢
    split at h
    · cases h
    · rename_i hc
      rw [if_neg hc]
      exact drv0_len
structure DTakeR where
  x : Drv
  l : List Int
  ok : Bool
def dtakeR (x : Drv) (m : Int) : DTakeR := if drvV x = true ∧ 0 ≤ m ∧ m ≤ 32 then ⟨⟨x.p, x.inn.drop m.toNat, x.out, x.wrong, x.lost⟩, x.inn.take m.toNat, true⟩ else ⟨drv0, [], false⟩
def DTakeR.d (y : DTakeR) : DV := .t [.inr y.x.d, .inl (.s 3 (.ints y.l)), .inl (.v (.bool y.ok))]
theorem dtake_len (x : Drv) (m : Int) : drvLen (dtakeR x m).x ∧ (dtakeR x m).l.length ≤ 32 := by
  unfold dtakeR
  split
  · rename_i h
    obtain ⟨a1, a2, a3, a4⟩ := drv_len h.1
    refine ⟨⟨a1, a2, ?_, a4⟩, ?_⟩ <;> simp <;> omega
  · exact ⟨drv0_len, by simp⟩
theorem allB_drop {l : List Int} (h : allB l = true) (n : Nat) : allB (l.drop n) = true := by
  have := allB_app.1 (show allB (l.take n ++ l.drop n) = true by rw [List.take_append_drop]; exact h)
  exact this.2

/-- What is sent is on its way. -/
theorem flight_ok {x : Lnk} (h : flightV x ≠ []) : lnkV x = true := by
  unfold flightV at h
  split at h
  · assumption
  · exact absurd rfl h
theorem flight_send {x : Lnk} {b : Int} (h : lnkV x = true) (hok : (dsendR x.a [b]).ok = true) : flightV ⟨(dsendR x.a [b]).x, x.b⟩ = flightV x ++ [b] := by
  obtain ⟨h1, h2, h3, h4⟩ := dsend_valid hok
  have e : (dsendR x.a [b]).x = ⟨⟨x.a.p.f, if x.a.out ++ [b] = [] then x.a.p.en else enSend x.a.p.en, x.a.p.co, x.a.p.rc, x.a.p.sd, x.a.p.md⟩, x.a.inn, x.a.out ++ [b], x.a.wrong, x.a.lost⟩ := by
    unfold dsendR
    rw [if_pos ⟨h1, h2, h3⟩]
  have hv : lnkV ⟨(dsendR x.a [b]).x, x.b⟩ = true := lnkV_yes h4 (lnkV_bd (x := x) h).2 (by rw [e]; exact lnkV_f (x := x) h)
  unfold flightV
  rw [if_pos hv, if_pos h, e]
  simp
theorem flight_take {x : Lnk} {m : Int} (h : lnkV x = true) (h0 : 0 ≤ m) (h1 : m ≤ 32) : (dtakeR x.b m).ok = true ∧ (dtakeR x.b m).l ++ flightV ⟨x.a, (dtakeR x.b m).x⟩ = flightV x := by
  obtain ⟨ha, hb⟩ := lnkV_bd h
  obtain ⟨b1, b2, b3, b4, b5⟩ := drvV_bd hb
  have e : dtakeR x.b m = ⟨⟨x.b.p, x.b.inn.drop m.toNat, x.b.out, x.b.wrong, x.b.lost⟩, x.b.inn.take m.toNat, true⟩ := by
    unfold dtakeR
    rw [if_pos ⟨hb, h0, h1⟩]
  have hv : lnkV ⟨x.a, (dtakeR x.b m).x⟩ = true := by
    rw [e]
    exact lnkV_yes ha (drvV_yes b1 ⟨by simp; omega, allB_drop b2.2 _⟩ b3 b4 b5) (lnkV_f (x := x) h)
  refine ⟨by rw [e], ?_⟩
  unfold flightV
  rw [if_pos hv, if_pos h, e]
  simp [← List.append_assoc]
theorem take_fsts {l : List (Int × Int)} {k : Nat} (h : k < l.length) (a : List Int) : a ++ (l.take (k + 1)).map Prod.fst = (a ++ (l.take k).map Prod.fst) ++ [(l.getD k (0, 0)).1] := by
  rw [List.take_succ_eq_append_getElem h, List.map_append, List.append_assoc]
  simp [List.getD_eq_getElem?_getD, h]

end Go.Proofs.Ytkhggobpanfkfaa
