/-
  What pairs do, in plain Lean. No program here.
-/
import Derived.Test.YtkhggobpanfkfaaM4
namespace Go.Proofs.Ytkhggobpanfkfaa
open Go.RowKit
open Ab
set_option linter.unusedSimpArgs false
set_option linter.unusedVariables false

def pw (n : Int) : Int := if n ≤ 5 then 32 else if n ≤ 6 then 64 else if n ≤ 7 then 128 else 256
def arrN (a b : Fmt) (g : Int) : Int := g % pw (minI a.bits b.bits)
def codeP (a b : Fmt) : Int := if a = b then 0 else 2
def arriveR (r : Rcv) (a f : Fmt) (gone : Int) : Rcv := if gone < 0 then rtickV r else rputV r (arrN a f gone, codeP a f)
def arriveV (p : Prt) (f : Fmt) (gone : Int) : Rcv := arriveR p.rc p.f f gone
def seeV (m : Mdm) (c : Int) : Mdm := msetV m (decide (c / 2 % 2 = 1)) (decide (c % 2 = 1))
def ptickV (p q : Prt) : Prt := ⟨p.f, p.en, p.co, arriveV p q.f (tickV q.sd).2, (tickV p.sd).1, seeV p.md q.co⟩
structure Par where
  a : Prt
  b : Prt
def Par.d (x : Par) : List DL := x.a.d ++ x.b.d
def parV (x : Par) : Bool := prtV x.a && prtV x.b
def ptick (x : Par) : Par := ⟨ptickV x.a x.b, ptickV x.b x.a⟩
def par0 : Par := ⟨prt0, prt0⟩
structure ParR where
  p : Par
  ok : Bool
def ptickR (x : Par) : ParR := if parV x then ⟨ptick x, true⟩ else ⟨par0, false⟩
def ParR.d (x : ParR) : DV := .t [.inr x.p.d, .inl (.v (.bool x.ok))]
def runV : Nat → Par → Par
  | 0, x => x
  | n + 1, x => ptick (runV n x)
def prunR (x : Par) (t : Int) : ParR := if parV x = true ∧ 0 ≤ t ∧ t ≤ 200 then ⟨runV t.toNat x, true⟩ else ⟨par0, false⟩
def quietV (x : Par) : Bool := parV x && (decide (statN x.a.sd = 96) && decide (statN x.b.sd = 96))
def sameQ (x y : Par) : Bool := sameP x.a y.a && sameP x.b y.b
theorem sameQ_refl (x : Par) : sameQ x x = true := by simp [sameQ, sameP_refl]

theorem lowbits : ∀ (k : Fin 4) (b : Fin 256), IntKind.i64.wrap (BitVec.ofInt IntKind.i64.bits (b.val : Int) &&& BitVec.ofInt IntKind.i64.bits (pw ((k.val : Int) + 5) - 1)).toNat = (b.val : Int) % pw ((k.val : Int) + 5) := by decide +kernel
theorem low_and {n b : Int} (hn : 5 ≤ n ∧ n ≤ 8) (hb : 0 ≤ b ∧ b ≤ 255) : IntKind.i64.wrap (BitVec.ofInt IntKind.i64.bits b &&& BitVec.ofInt IntKind.i64.bits (pw n - 1)).toNat = b % pw n := by
  have h := lowbits ⟨(n - 5).toNat, by omega⟩ ⟨b.toNat, by omega⟩
  have e1 : (((n - 5).toNat : Nat) : Int) + 5 = n := by omega
  have e2 : ((b.toNat : Nat) : Int) = b := by omega
  simp only [e1, e2] at h
  exact h
theorem shl_pw {n : Int} (hn : 5 ≤ n ∧ n ≤ 8) : IntKind.i64.wrap (1 * 2 ^ (min n.toNat IntKind.i64.bits)) = pw n := by
  have hc : n = 5 ∨ n = 6 ∨ n = 7 ∨ n = 8 := by omega
  rcases hc with rfl | rfl | rfl | rfl <;> decide +kernel
theorem pw_bd (n : Int) : 32 ≤ pw n ∧ pw n ≤ 256 := by
  unfold pw
  split
  · omega
  · split
    · omega
    · split <;> omega
theorem cbits2 : ∀ c : Fin 4, (!decide (IntKind.i64.wrap (BitVec.ofInt IntKind.i64.bits (c.val : Int) &&& BitVec.ofInt IntKind.i64.bits 2).toNat = 0)) = decide ((c.val : Int) / 2 % 2 = 1) := by decide +kernel
theorem cbits1 : ∀ c : Fin 4, (!decide (IntKind.i64.wrap (BitVec.ofInt IntKind.i64.bits (c.val : Int) &&& BitVec.ofInt IntKind.i64.bits 1).toNat = 0)) = decide ((c.val : Int) % 2 = 1) := by decide +kernel
theorem minI_bd {a b : Int} (ha : 5 ≤ a ∧ a ≤ 8) (hb : 5 ≤ b ∧ b ≤ 8) : 5 ≤ minI a b ∧ minI a b ≤ 8 := by
  unfold minI
  split <;> omega
theorem tick_gone {s : Snd} (hv : sndV s = true) : (tickV s).2 = -1 ∨ (0 ≤ (tickV s).2 ∧ (tickV s).2 ≤ 255) := by
  obtain ⟨_, _, h⟩ := sndV_bd hv
  have e : (tickV s).2 = (tick1 s).1 := by
    unfold tickV
    split
    · split <;> rfl
    · rfl
  rw [e]
  unfold tick1
  split
  · exact .inl rfl
  · split
    · rcases h with h | h
      · omega
      · right
        show 0 ≤ s.shift ∧ s.shift ≤ 255
        omega
    · exact .inl rfl
theorem rtick_valid {r : Rcv} (h : rcvV r = true) : rcvV (rtickV r) = true := by
  obtain ⟨h1, h2, h3, h4, h5⟩ := rcvV_bd h
  refine rcvV_yes h1 h2 h3 ?_ h5
  split
  · unfold minI
    split <;> omega
  · omega
theorem rput_valid {r : Rcv} {g : Int × Int} (h : rcvV r = true) (hg : gotB g = true) : rcvV (rputV r g) = true := by
  obtain ⟨h1, h2, h3, h4, h5⟩ := rcvV_bd h
  unfold rputV
  split
  · refine rcvV_yes h1 h2 (by simp; omega) (by omega) ?_
    simp only [allG, List.all_append, List.all_cons, List.all_nil, hg, Bool.and_true]
    exact h5
  · exact rcvV_yes h1 h2 h3 (by omega) h5
theorem arr_got {a b : Fmt} {g : Int} (hg : 0 ≤ g ∧ g ≤ 255) : gotB (arrN a b g, codeP a b) = true := by
  have hp := pw_bd (minI a.bits b.bits)
  have h1 : 0 ≤ arrN a b g := Int.emod_nonneg _ (by omega)
  have h2 : arrN a b g ≤ 255 := by
    have h3 : arrN a b g < pw (minI a.bits b.bits) := Int.emod_lt_of_pos _ (by omega)
    omega
  have h4 : 0 ≤ codeP a b ∧ codeP a b ≤ 2 := by unfold codeP; split <;> omega
  simp [gotB, byteB, h1, h2, h4.1, h4.2]
theorem parV_bd {x : Par} (h : parV x = true) : prtV x.a = true ∧ prtV x.b = true := by
  simpa [parV] using h
theorem arrive_valid {p q : Prt} (hp : prtV p = true) (hq : prtV q = true) : rcvV (arriveV p q.f (tickV q.sd).2) = true := by
  obtain ⟨_, _, _, h4, _⟩ := prtV_bd hp
  obtain ⟨_, _, _, _, h5⟩ := prtV_bd hq
  unfold arriveV arriveR
  split
  · exact rtick_valid h4
  · rcases tick_gone h5 with h | h
    · omega
    · exact rput_valid h4 (arr_got h)
theorem ptickV_valid {p q : Prt} (hp : prtV p = true) (hq : prtV q = true) : prtV (ptickV p q) = true := by
  obtain ⟨h1, h2, h3, h4, h5⟩ := prtV_bd hp
  exact prtV_yes h1 h2 h3 (arrive_valid hp hq) (tick_valid h5)
theorem ptick_valid {x : Par} (h : parV x = true) : parV (ptick x) = true := by
  obtain ⟨h1, h2⟩ := parV_bd h
  simp [parV, ptick, ptickV_valid h1 h2, ptickV_valid h2 h1]
theorem runV_valid {x : Par} (h : parV x = true) : ∀ n, parV (runV n x) = true
  | 0 => h
  | n + 1 => ptick_valid (runV_valid h n)

theorem runV_add (x : Par) (m : Nat) : ∀ n, runV (m + n) x = runV n (runV m x)
  | 0 => rfl
  | n + 1 => by
    show ptick (runV (m + n) x) = ptick (runV n (runV m x))
    rw [runV_add x m n]
theorem runV_co (x : Par) : ∀ n, (runV n x).a.co = x.a.co ∧ (runV n x).b.co = x.b.co
  | 0 => ⟨rfl, rfl⟩
  | n + 1 => runV_co x n
theorem runV_sd (x : Par) : ∀ n, (runV (n + 1) x).a.sd = (tickV (runV n x).a.sd).1 ∧ (runV (n + 1) x).b.sd = (tickV (runV n x).b.sd).1 := fun _ => ⟨rfl, rfl⟩
theorem tick_rest {s : Snd} (hv : sndV s = true) (h : waitsN s = 0) : waitsN (tickV s).1 = 0 := by
  have h2 := tick_valid hv
  obtain ⟨r, l, s, f⟩ := s
  simp only [waitsN, hv, if_true] at h
  have hbd := sndV_bd hv
  dsimp only at hbd h
  obtain ⟨⟨b1, b2, b3⟩, b4, b5⟩ := hbd
  by_cases hs : s = -1
  · subst hs
    cases l with
    | nil =>
      simp only [waitsN, h2, if_true]
      simp_all [tickV, tick1]
    | cons a l =>
      simp at h
      omega
  · rw [if_neg (by omega)] at h
    omega
theorem run_waits {x : Par} (hv : parV x = true) : ∀ n : Nat, waitsN (runV n x).a.sd = maxI 0 (waitsN x.a.sd - n) ∧ waitsN (runV n x).b.sd = maxI 0 (waitsN x.b.sd - n)
  | 0 => by
    have h1 := (waits_nonneg (prtV_bd (parV_bd hv).1).2.2.2.2).1
    have h2 := (waits_nonneg (prtV_bd (parV_bd hv).2).2.2.2.2).1
    simp only [runV, maxI]
    constructor <;> split <;> omega
  | n + 1 => by
    obtain ⟨e1, e2⟩ := run_waits hv n
    have hvn := runV_valid hv n
    have va := (prtV_bd (parV_bd hvn).1).2.2.2.2
    have vb := (prtV_bd (parV_bd hvn).2).2.2.2.2
    obtain ⟨d1, d2⟩ := runV_sd x n
    have one : ∀ {s : Snd} {w : Int}, sndV s = true → waitsN s = maxI 0 (w - n) → waitsN (tickV s).1 = maxI 0 (w - (n + 1 : Nat)) := by
      intro s w hs he
      by_cases h0 : 0 < waitsN s
      · rw [tick_waits hs h0, he]
        rw [he] at h0
        unfold maxI at h0 ⊢
        split at h0
        · rw [if_pos (by omega)]
          split <;> omega
        · omega
      · have hn := (waits_nonneg hs).1
        have h00 : waitsN s = 0 := by omega
        rw [tick_rest hs h00]
        rw [h00] at he
        unfold maxI at he ⊢
        split at he
        · omega
        · rw [if_neg (by omega)]
    rw [d1, d2]
    exact ⟨one va e1, one vb e2⟩
theorem quiet_run {x : Par} (hv : parV x = true) (n : Nat) : quietV (runV n x) = decide (waitsN x.a.sd ≤ n ∧ waitsN x.b.sd ≤ n) := by
  have hvn := runV_valid hv n
  obtain ⟨va, vb⟩ := parV_bd hvn
  have sa := stat_waits (prtV_bd va).2.2.2.2
  have sb := stat_waits (prtV_bd vb).2.2.2.2
  obtain ⟨e1, e2⟩ := run_waits hv n
  rw [e1] at sa
  rw [e2] at sb
  have z : ∀ w : Int, maxI 0 (w - n) = 0 ↔ w ≤ n := by
    intro w
    unfold maxI
    split <;> omega
  unfold quietV
  rw [hvn, Bool.true_and, Bool.decide_and]
  congr 1
  · exact decide_eq_decide.2 (sa.trans (z _))
  · exact decide_eq_decide.2 (sb.trans (z _))
theorem prun_ok {x : Par} {t : Int} (h : parV x = true) (h0 : 0 ≤ t) (h1 : t ≤ 200) : prunR x t = ⟨runV t.toNat x, true⟩ := by
  unfold prunR
  rw [if_pos ⟨h, h0, h1⟩]
theorem prun_bad {x : Par} {t : Int} (h : (prunR x t).ok = false) : prunR x t = ⟨par0, false⟩ := by
  unfold prunR at h ⊢
  split
  · rename_i hc
    rw [if_pos hc] at h
    cases h
  · rfl
theorem prun_good {x : Par} {t : Int} (h : (prunR x t).ok = true) : parV x = true ∧ 0 ≤ t ∧ t ≤ 200 := by
  unfold prunR at h
  split at h
  · assumption
  · cases h
theorem ptick_eq {p q : Prt} {RA RB : Rcv} (hv : parV ⟨p, q⟩ = true) (h1 : arriveV p q.f (tickR q.sd).gone = RA) (h2 : arriveV q p.f (tickR p.sd).gone = RB) :
    ptickR ⟨p, q⟩ = ⟨⟨⟨p.f, p.en, p.co, RA, (tickR p.sd).s, seeV p.md q.co⟩, ⟨q.f, q.en, q.co, RB, (tickR q.sd).s, seeV q.md p.co⟩⟩, true⟩ := by
  obtain ⟨ha, hb⟩ := parV_bd hv
  have sa := (prtV_bd ha).2.2.2.2
  have sb := (prtV_bd hb).2.2.2.2
  have ea : tickR p.sd = ⟨(tickV p.sd).1, (tickV p.sd).2, true⟩ := by unfold tickR; rw [if_pos sa]
  have eb : tickR q.sd = ⟨(tickV q.sd).1, (tickV q.sd).2, true⟩ := by unfold tickR; rw [if_pos sb]
  rw [eb] at h1
  rw [ea] at h2
  rw [ea, eb]
  unfold ptickR
  rw [if_pos hv]
  simp only [ptick, ptickV]
  rw [h1, h2]
theorem arr_tick {p : Prt} {f : Fmt} {g : Int} (hv : rcvV p.rc = true) (hg : g < 0) : arriveV p f g = (rtickR p.rc).r := by
  unfold arriveV arriveR rtickR
  rw [if_pos hg, if_pos hv]
theorem arr_put {p : Prt} {f : Fmt} {g c : Int} (hv : rcvV p.rc = true) (hm : 5 ≤ minI p.f.bits f.bits ∧ minI p.f.bits f.bits ≤ 8) (hg : 0 ≤ g ∧ g ≤ 255) (hc : codeP p.f f = c) :
    arriveV p f g = (rputR p.rc (IntKind.i64.wrap (BitVec.ofInt IntKind.i64.bits g &&& BitVec.ofInt IntKind.i64.bits (IntKind.i64.wrap (1 * 2 ^ (min (minI p.f.bits f.bits).toNat IntKind.i64.bits)) - 1)).toNat, c)).r := by
  subst hc
  rw [shl_pw hm, low_and hm hg]
  have hb := arr_got (a := p.f) (b := f) hg
  unfold arriveV arriveR rputR
  rw [if_neg (by omega), if_pos (by simp only [hv, Bool.true_and]; exact hb)]
  rfl
theorem code_0 {a b c a' b' c' : Int} (h : (!(decide (a = a') && (decide (b = b') && (decide (c = c') && true)))) = false) : codeP ⟨a, b, c⟩ ⟨a', b', c'⟩ = 0 := by
  simp at h
  simp [codeP, h]
theorem code_2 {a b c a' b' c' : Int} (h : (!(decide (a = a') && (decide (b = b') && (decide (c = c') && true)))) = true) : codeP ⟨a, b, c⟩ ⟨a', b', c'⟩ = 2 := by
  simp at h
  unfold codeP
  rw [if_neg]
  intro e
  cases e
  simp at h

end Go.Proofs.Ytkhggobpanfkfaa
