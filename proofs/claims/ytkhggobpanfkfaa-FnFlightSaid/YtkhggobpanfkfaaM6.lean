/-
  What drivers and links are, in plain Lean. No program here.
-/
import Derived.Test.YtkhggobpanfkfaaM4
namespace Go.Proofs.Ytkhggobpanfkfaa
open Go.RowKit
open Ab
set_option linter.unusedSimpArgs false
set_option linter.unusedVariables false

structure Drv where
  p : Prt
  inn : List Int
  out : List Int
  wrong : Int
  lost : Int
def Drv.d (x : Drv) : List DL := x.p.d ++ [.s 3 (.ints x.inn), .s 3 (.ints x.out), .v (.int .i64 x.wrong), .v (.int .i64 x.lost)]
def ringV (l : List Int) : Bool := decide (l.length ≤ 32) && allB l
def cntV (n : Int) : Bool := decide (0 ≤ n) && decide (n ≤ 999)
def drvV (x : Drv) : Bool := prtV x.p && ringV x.inn && ringV x.out && cntV x.wrong && cntV x.lost
def drv0 : Drv := ⟨prt0, [], [], 0, 0⟩
structure DrvR where
  x : Drv
  ok : Bool
def DrvR.d (x : DrvR) : DV := .t [.inr x.x.d, .inl (.v (.bool x.ok))]
theorem drvV_bd {x : Drv} (h : drvV x = true) : prtV x.p = true ∧ (x.inn.length ≤ 32 ∧ allB x.inn = true) ∧ (x.out.length ≤ 32 ∧ allB x.out = true) ∧ (0 ≤ x.wrong ∧ x.wrong ≤ 999) ∧ (0 ≤ x.lost ∧ x.lost ≤ 999) := by
  simp only [drvV, ringV, cntV, Bool.and_eq_true, decide_eq_true_eq] at h
  exact ⟨h.1.1.1.1, h.1.1.1.2, h.1.1.2, h.1.2, h.2⟩
theorem drvV_yes {x : Drv} (h1 : prtV x.p = true) (h2 : x.inn.length ≤ 32 ∧ allB x.inn = true) (h3 : x.out.length ≤ 32 ∧ allB x.out = true) (h4 : 0 ≤ x.wrong ∧ x.wrong ≤ 999) (h5 : 0 ≤ x.lost ∧ x.lost ≤ 999) : drvV x = true := by
  simp [drvV, ringV, cntV, h1, h2.1, h2.2, h3.1, h3.2, h4.1, h4.2, h5.1, h5.2]
structure Lnk where
  a : Drv
  b : Drv
def Lnk.d (x : Lnk) : List DL := x.a.d ++ x.b.d
def lnkV (x : Lnk) : Bool := drvV x.a && drvV x.b && decide (x.a.p.f.bits = x.b.p.f.bits ∧ x.a.p.f.par = x.b.p.f.par ∧ x.a.p.f.stop = x.b.p.f.stop)
def lnk0 : Lnk := ⟨drv0, drv0⟩
structure LnkR where
  l : Lnk
  ok : Bool
def LnkR.d (x : LnkR) : DV := .t [.inr x.l.d, .inl (.v (.bool x.ok))]
def lswapR (x : Lnk) : LnkR := if lnkV x then ⟨⟨x.b, x.a⟩, true⟩ else ⟨lnk0, false⟩
def sameD (x y : Drv) : Bool := sameP x.p y.p && decide (x.inn = y.inn ∧ x.out = y.out ∧ x.wrong = y.wrong ∧ x.lost = y.lost)
theorem sameD_refl (x : Drv) : sameD x x = true := by simp [sameD, sameP_refl]
theorem sameD_eq {x y : Drv} (h : sameD x y = true) : x = y := by
  obtain ⟨p, i, o, w, l⟩ := x
  obtain ⟨p2, i2, o2, w2, l2⟩ := y
  simp only [sameD, Bool.and_eq_true, decide_eq_true_eq] at h
  obtain ⟨h1, rfl, rfl, rfl, rfl⟩ := h
  rw [show p = p2 from sameP_eq h1]
def sameL (x y : Lnk) : Bool := sameD x.a y.a && sameD x.b y.b
theorem sameL_refl (x : Lnk) : sameL x x = true := by simp [sameL, sameD_refl]

/-- The limits of a flow. -/
def flwV (h l : Int) : Bool := decide (0 ≤ l) && decide (l < h) && decide (h ≤ 32)
def fnextN (h l c : Int) (w : Bool) : Bool := if h ≤ c then false else if c ≤ l then true else w
def fdrvV (h l : Int) (x : Drv) : Drv := ⟨⟨x.p.f, x.p.en, x.p.co % 2 + (if fnextN h l x.inn.length (decide (x.p.co / 2 % 2 = 1)) then 2 else 0), x.p.rc, x.p.sd, x.p.md⟩, x.inn, x.out, x.wrong, x.lost⟩
def fdrvR (h l : Int) (x : Drv) : DrvR := if flwV h l = true ∧ drvV x = true then ⟨fdrvV h l x, true⟩ else ⟨drv0, false⟩

def drvLen (x : Drv) : Prop := x.p.rc.items.length ≤ 16 ∧ x.p.sd.items.length ≤ 16 ∧ x.inn.length ≤ 32 ∧ x.out.length ≤ 32
theorem drv0_len : drvLen drv0 := ⟨Nat.zero_le _, Nat.zero_le _, Nat.zero_le _, Nat.zero_le _⟩
theorem prt_len {p : Prt} (h : prtV p = true) : p.rc.items.length ≤ 16 ∧ p.sd.items.length ≤ 16 := by
  obtain ⟨_, _, _, h4, h5⟩ := prtV_bd h
  have a := rcvV_bd h4
  have b := sndV_bd h5
  omega
theorem drv_len {x : Drv} (h : drvV x = true) : drvLen x := by
  obtain ⟨h1, h2, h3, _, _⟩ := drvV_bd h
  have a := prt_len h1
  exact ⟨a.1, a.2, h2.1, h3.1⟩
theorem lnkV_bd {x : Lnk} (h : lnkV x = true) : drvV x.a = true ∧ drvV x.b = true := by
  simp only [lnkV, Bool.and_eq_true] at h
  exact ⟨h.1.1, h.1.2⟩
theorem lswap_len (x : Lnk) : drvLen (lswapR x).l.a ∧ drvLen (lswapR x).l.b := by
  unfold lswapR
  split
  · rename_i h
    obtain ⟨h1, h2⟩ := lnkV_bd h
    exact ⟨drv_len h2, drv_len h1⟩
  · exact ⟨drv0_len, drv0_len⟩
theorem fdrv_len (h l : Int) (x : Drv) : drvLen (fdrvR h l x).x := by
  unfold fdrvR
  split
  · rename_i h
    exact drv_len (x := x) h.2
  · exact drv0_len

end Go.Proofs.Ytkhggobpanfkfaa
