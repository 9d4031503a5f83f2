/-
  Drawing: the reader, pick; equal lists.
-/
import Derived.Test.YtkhggobpanfkfaaDoorM4
namespace Go.Proofs.YtkhggobpanfkfaaDoor
open Go.RowKit
open Ab
set_option linter.unusedSimpArgs false
set_option linter.unusedVariables false

theorem xor_nonneg (x y : Int) (hx : 0 ≤ x) (hx2 : x < 9223372036854775808) (hy : 0 ≤ y) (hy2 : y < 9223372036854775808) : 0 ≤ IntKind.i64.wrap ((BitVec.ofInt IntKind.i64.bits x ^^^ BitVec.ofInt IntKind.i64.bits y).toNat : Int) := by
  obtain ⟨a, rfl⟩ := Int.eq_ofNat_of_zero_le hx
  obtain ⟨b, rfl⟩ := Int.eq_ofNat_of_zero_le hy
  have ha : a < 2 ^ 63 := by omega
  have hb : b < 2 ^ 63 := by omega
  have h : (a ^^^ b) < 2 ^ 63 := Nat.xor_lt_two_pow ha hb
  simp only [BitVec.ofInt_natCast, BitVec.toNat_xor, BitVec.toNat_ofNat]
  rw [Nat.mod_eq_of_lt (show a < 2 ^ IntKind.i64.bits from Nat.lt_trans ha (by decide)), Nat.mod_eq_of_lt (show b < 2 ^ IntKind.i64.bits from Nat.lt_trans hb (by decide)), IntKind.wrap_i64]
  omega

def env_s_l6Rd_pick : Env := []
theorem env_s_l6Rd_pick_ok : EnvOk Tryd.prog env_s_l6Rd_pick := envAll_ok trivial
def tr_s_l6Rd_pick : Nat → Tr := fun n => match n with
  | 7 => .op 0 0 (.op 1 0 (.op 2 0 (.op 3 0 (.op 4 0 (.op 5 0 (.op 6 0 (.op 7 0 (.op 8 0 (.op 9 0 (.op 10 0 (.op 11 0 (.op 12 0 (.op 13 0 (.op 14 0 (.op 15 0 (.op 16 0 (.op 17 0 (.op 18 0 (.op 19 0 (.op 20 0 (.op 21 0 (.op 22 0 (.op 23 0 (.op 24 0 (.op 25 0 (.op 26 0 (.op 27 0 (.op 28 0 (.op 29 0 (.op 30 0 (.op 31 0 (.op 32 0 (.op 33 0 (.op 34 0 (.op 35 0 (.op 36 0 (.op 37 1 (.op 38 1 (.op 39 1 (.op 40 1 (.op 41 1 (.op 42 1 (.op 43 1 (.op 44 1 (.op 45 2 (.nil))))))))))))))))))))))))))))))))))))))))))))))
  | _ => .nil
set_option maxRecDepth 100000 in
set_option maxHeartbeats 2000000 in
theorem con_s_l6Rd_pick : ConB Tryd.prog 39 114 [.inl .int] (fun p ⟨(n : Int), _⟩ K => Side (0 ≤ p ∧ p ≤ 1073741824) <| Side (n ≤ 4294967296) <| ∀ y : Int, 0 ≤ y → (y < n ∨ y = 0) → K (.l (.v (.int .i64 y))) (p + 1)) := by
  refine conB_ofN (TR := tr_s_l6Rd_pick) tab_ok mixed_ok env_s_l6Rd_pick_ok Tryd.func39 rfl rfl ?_
  rintro v0 l p ⟨(n : Int), _⟩ K hl ⟨hp, ⟨hn, hK⟩⟩
  replace hl : l.length ≤ 1099511627776 := hl
  replace hn : n ≤ 4294967296 := hn
  have hg : ∀ i, (l.getD i 0).toNat < 256 := fun i => UInt8.toNat_lt _
  have hL : 0 ≤ ((EL.bytes l).len : Int) ∧ ((EL.bytes l).len : Int) ≤ 1099511627776 := ⟨by omega, by show (l.length : Int) ≤ _; omega⟩
  have hm : ∀ x : Int, 0 ≤ x → 0 ≤ x % ((EL.bytes l).len : Int) ∧ (((EL.bytes l).len : Int) = 0 ∨ x % ((EL.bytes l).len : Int) < ((EL.bytes l).len : Int)) := fun x hx => by
    by_cases h0 : ((EL.bytes l).len : Int) = 0
    · rw [h0]; simp [hx]
    · exact ⟨Int.emod_nonneg _ h0, .inr (Int.emod_lt_of_pos _ (by omega))⟩
  have hd : 0 ≤ (p + 1 - 1) / ((EL.bytes l).len : Int) ∧ (p + 1 - 1) / ((EL.bytes l).len : Int) ≤ p := ⟨Int.ediv_nonneg (by omega) hL.1, by
    have := Int.ediv_le_self ((EL.bytes l).len : Int) (show 0 ≤ p + 1 - 1 by omega)
    omega⟩
  have m1 := hm (p + 1 - 1) (by omega)
  have m2 := hm ((p + 1 - 1) * 7 + 3) (by omega)
  have g1 := hg (p + 1 - 1).toNat
  have g2 := hg ((p + 1 - 1) % ((EL.bytes l).len : Int)).toNat
  have g3 := hg (((p + 1 - 1) * 7 + 3) % ((EL.bytes l).len : Int)).toNat
  have he : ((EL.bytes l).len : Int) = l.length := rfl
  repeat' ((conv => whnf); (first | (refine Side.mk ?_ ?_; focus (first | omega | with_reducible assumption | kernel_rfl | exact rfl | (with_reducible first | omega | exact rngI (by omega) | (and_intros <;> first | trivial | omega | exact rngI (by omega))) | (dsimp only [EL.len]; with_reducible first | omega | exact rngI (by omega) | (and_intros <;> first | trivial | omega | exact rngI (by omega))) | with_reducible exact rngB (by omega) | with_reducible exact rngI ⟨by decide, by decide⟩ | exact ⟨rfl, trivial⟩ | exact ⟨rfl, rfl, trivial⟩ | exact ⟨⟨rfl, rfl, rfl, rfl⟩, trivial⟩ | (show (_ : Int) ≤ _ ∧ (_ : Int) ≤ _; omega) | (show (_ : Int) ≤ _; omega) | (simp only [EL.len, EL.sz, EL.take, EL.drop, maxL, la, ln, lc, ld, lt, ls, lna]; with_reducible first | omega | exact rngI (by omega) | (and_intros <;> first | trivial | omega | exact rngI (by omega))) | (simp only [EL.len, EL.sz, EL.take, EL.drop, maxL, la, ln, lc, ld, lt, ls, lna] at *; with_reducible first | omega | exact rngI (by omega) | (and_intros <;> first | trivial | omega | exact rngI (by omega))))) | (refine End.mk ?_; exact hF) | refine End.mk ?_ | refine brT ?_ | refine brF ?_ | (refine brT' ?_ ?_; focus with_reducible assumption) | (refine brF' ?_ ?_; focus with_reducible assumption) | (refine Br.mk ?_ ?_ <;> (intro hb; have h := hb; (try simp only [decide_eq_true_eq, decide_eq_false_iff_not, Bool.not_eq_true', Bool.not_eq_false', Bool.not_eq_eq_eq_not, Bool.not_true, Bool.not_false, ge_iff_le, gt_iff_lt, Bool.and_eq_true, Bool.and_eq_false_iff, Bool.or_eq_true, Bool.or_eq_false_iff, beq_self_eq_true, not_true_eq_false, and_self, Bool.true_eq_false, Bool.false_eq_true, not_false_eq_true] at h); (try dsimp only [EL.len] at h); (try (exfalso; first | omega | exact bnF h (by with_reducible assumption) | exact bnT h (by with_reducible assumption))))) | (refine fun (y : Int) (h0 : 0 ≤ y) h1 => ?_)))
  · refine Exists.intro _ (Exists.intro _ (And.intro ?_ (hK 0 (by omega) (.inr rfl))))
    repeat' (first | (refine Side.mk ?_ ?_; focus (first | with_reducible exact rfl | exact Eq.refl true | exact Eq.refl false)) | (refine Side.mk ?_ ?_) | exact True.intro)
  · refine Exists.intro _ (Exists.intro _ (And.intro ?_ (hK 0 (by omega) (.inr rfl))))
    repeat' (first | (refine Side.mk ?_ ?_; focus (first | with_reducible exact rfl | exact Eq.refl true | exact Eq.refl false)) | (refine Side.mk ?_ ?_) | exact True.intro)
  · refine Exists.intro _ (Exists.intro _ (And.intro ?_ (hK (((l.getD (p + 1 - 1).toNat 0).toNat : Int) % n) (Int.emod_nonneg _ (by omega)) (.inl (Int.emod_lt_of_pos _ (by omega))))))
    repeat' (first | (refine Side.mk ?_ ?_; focus (first | with_reducible exact rfl | exact Eq.refl true | exact Eq.refl false)) | (refine Side.mk ?_ ?_) | exact True.intro)
  · exfalso
    simp only [decide_eq_true_eq] at hb
    omega
  · refine Side.mk ⟨xor_nonneg _ _ (by omega) (by omega) (by omega) (by omega), by omega⟩ ?_
    repeat' ((conv => whnf); (first | (refine Side.mk ?_ ?_; focus (first | omega | with_reducible assumption | kernel_rfl | exact rfl | (with_reducible first | omega | exact rngI (by omega) | (and_intros <;> first | trivial | omega | exact rngI (by omega))) | (dsimp only [EL.len]; with_reducible first | omega | exact rngI (by omega) | (and_intros <;> first | trivial | omega | exact rngI (by omega))) | with_reducible exact rngB (by omega) | with_reducible exact rngI ⟨by decide, by decide⟩ | exact ⟨rfl, trivial⟩ | exact ⟨rfl, rfl, trivial⟩ | exact ⟨⟨rfl, rfl, rfl, rfl⟩, trivial⟩ | (show (_ : Int) ≤ _ ∧ (_ : Int) ≤ _; omega) | (show (_ : Int) ≤ _; omega) | (simp only [EL.len, EL.sz, EL.take, EL.drop, maxL, la, ln, lc, ld, lt, ls, lna]; with_reducible first | omega | exact rngI (by omega) | (and_intros <;> first | trivial | omega | exact rngI (by omega))) | (simp only [EL.len, EL.sz, EL.take, EL.drop, maxL, la, ln, lc, ld, lt, ls, lna] at *; with_reducible first | omega | exact rngI (by omega) | (and_intros <;> first | trivial | omega | exact rngI (by omega))))) | (refine End.mk ?_; exact hF) | refine End.mk ?_ | refine brT ?_ | refine brF ?_ | (refine brT' ?_ ?_; focus with_reducible assumption) | (refine brF' ?_ ?_; focus with_reducible assumption) | (refine Br.mk ?_ ?_ <;> (intro hb; have h := hb; (try simp only [decide_eq_true_eq, decide_eq_false_iff_not, Bool.not_eq_true', Bool.not_eq_false', Bool.not_eq_eq_eq_not, Bool.not_true, Bool.not_false, ge_iff_le, gt_iff_lt, Bool.and_eq_true, Bool.and_eq_false_iff, Bool.or_eq_true, Bool.or_eq_false_iff, beq_self_eq_true, not_true_eq_false, and_self, Bool.true_eq_false, Bool.false_eq_true, not_false_eq_true] at h); (try dsimp only [EL.len] at h); (try (exfalso; first | omega | exact bnF h (by with_reducible assumption) | exact bnT h (by with_reducible assumption))))) | (refine fun (y : Int) (h0 : 0 ≤ y) h1 => ?_)))
    refine Exists.intro _ (Exists.intro _ (And.intro ?_ (hK (?x % n) (Int.emod_nonneg _ (show n ≠ 0 by omega)) (.inl (Int.emod_lt_of_pos _ (show 0 < n by omega))))))
    repeat' (first | (refine Side.mk ?_ ?_; focus (first | with_reducible exact rfl | exact Eq.refl true | exact Eq.refl false)) | (refine Side.mk ?_ ?_) | exact True.intro)
def c_s_l6Rd_pick : CS := csB 114 [.inl .int] (fun p ⟨(n : Int), _⟩ K => Side (0 ≤ p ∧ p ≤ 1073741824) <| Side (n ≤ 4294967296) <| ∀ y : Int, 0 ≤ y → (y < n ∨ y = 0) → K (.l (.v (.int .i64 y))) (p + 1))
theorem c_s_l6Rd_pick_ok : CSok Tryd.prog 39 c_s_l6Rd_pick := csB_ok (by kernel_rfl) con_s_l6Rd_pick

theorem take_eq_succ {a b : List Int} {k : Nat} (ha : k < a.length) (hb : k < b.length) (h : a.take k = b.take k) (hg : a.getD k 0 = b.getD k 0) : a.take (k + 1) = b.take (k + 1) := by
  rw [List.take_succ_eq_append_getElem ha, List.take_succ_eq_append_getElem hb, h]
  simp only [List.getD_eq_getElem?_getD, List.getElem?_eq_getElem ha, List.getElem?_eq_getElem hb, Option.getD_some] at hg
  rw [hg]

def env_l_sameInts : Env := []
theorem env_l_sameInts_ok : EnvOk Tryd.prog env_l_sameInts := envAll_ok trivial
def tr_l_sameInts : Nat → Tr := fun n => match n with
  | 6 => .op 0 0 (.op 1 0 (.op 2 0 (.op 3 0 (.op 4 0 (.op 5 1 (.op 6 1 (.op 7 1 (.op 8 1 (.nil)))))))))
  | _ => .nil
set_option maxRecDepth 100000 in
set_option maxHeartbeats 2000000 in
theorem con_l_sameInts : Con Tryd.prog 76 [.inl .ints, .inl .ints] (fun ⟨a, b, _⟩ K => K (.l (.v (.bool (decide (a = b)))))) := by
  refine con_ofN (TR := tr_l_sameInts) tab_ok mixed_ok env_l_sameInts_ok Tryd.func76 rfl ?_
  rintro ⟨(a : List Int), (b : List Int), _⟩ K hK ⟨hla, hlb, _⟩
  replace hK : K (.l (.v (.bool (decide (a = b))))) := hK
  replace hla : a.length ≤ 1099511627776 := hla
  replace hlb : b.length ≤ 1099511627776 := hlb
  repeat' ((conv => whnf); (first | (refine Side.mk ?_ ?_; focus (first | omega | with_reducible assumption | kernel_rfl | exact rfl | (with_reducible first | omega | exact rngI (by omega) | (and_intros <;> first | trivial | omega | exact rngI (by omega))) | (dsimp only [EL.len]; with_reducible first | omega | exact rngI (by omega) | (and_intros <;> first | trivial | omega | exact rngI (by omega))) | with_reducible exact rngB (by omega) | with_reducible exact rngI ⟨by decide, by decide⟩ | exact ⟨rfl, trivial⟩ | exact ⟨rfl, rfl, trivial⟩ | exact ⟨⟨rfl, rfl, rfl, rfl⟩, trivial⟩ | (show (_ : Int) ≤ _ ∧ (_ : Int) ≤ _; omega) | (show (_ : Int) ≤ _; omega) | (simp only [EL.len, EL.sz, EL.take, EL.drop, maxL, la, ln, lc, ld, lt, ls, lna]; with_reducible first | omega | exact rngI (by omega) | (and_intros <;> first | trivial | omega | exact rngI (by omega))) | (simp only [EL.len, EL.sz, EL.take, EL.drop, maxL, la, ln, lc, ld, lt, ls, lna] at *; with_reducible first | omega | exact rngI (by omega) | (and_intros <;> first | trivial | omega | exact rngI (by omega))))) | (refine End.mk ?_; exact hF) | refine End.mk ?_ | refine brT ?_ | refine brF ?_ | (refine brT' ?_ ?_; focus with_reducible assumption) | (refine brF' ?_ ?_; focus with_reducible assumption) | (refine Br.mk ?_ ?_ <;> (intro hb; have h := hb; (try simp only [decide_eq_true_eq, decide_eq_false_iff_not, Bool.not_eq_true', Bool.not_eq_false', Bool.not_eq_eq_eq_not, Bool.not_true, Bool.not_false, ge_iff_le, gt_iff_lt, Bool.and_eq_true, Bool.and_eq_false_iff, Bool.or_eq_true, Bool.or_eq_false_iff, beq_self_eq_true, not_true_eq_false, and_self, Bool.true_eq_false, Bool.false_eq_true, not_false_eq_true] at h); (try dsimp only [EL.len] at h); (try (exfalso; first | omega | exact bnF h (by with_reducible assumption) | exact bnT h (by with_reducible assumption))))) | (refine fun (y : Int) (h0 : 0 ≤ y) h1 => ?_)))
  · (refine Exists.intro _ (And.intro ?_ hK); repeat' (first | (refine Side.mk ?_ ?_; focus (first | with_reducible exact rfl | exact Eq.refl true | exact Eq.refl false)) | (refine Side.mk ?_ ?_) | exact True.intro))
    exact (decide_eq_false (fun e => h (by rw [e]))).symm
  · repeat' ((conv => whnf); (first | (refine Side.mk ?_ ?_; focus (first | omega | with_reducible assumption | kernel_rfl | exact rfl | (with_reducible first | omega | exact rngI (by omega) | (and_intros <;> first | trivial | omega | exact rngI (by omega))) | (dsimp only [EL.len]; with_reducible first | omega | exact rngI (by omega) | (and_intros <;> first | trivial | omega | exact rngI (by omega))) | with_reducible exact rngB (by omega) | with_reducible exact rngI ⟨by decide, by decide⟩ | exact ⟨rfl, trivial⟩ | exact ⟨rfl, rfl, trivial⟩ | exact ⟨⟨rfl, rfl, rfl, rfl⟩, trivial⟩ | (show (_ : Int) ≤ _ ∧ (_ : Int) ≤ _; omega) | (show (_ : Int) ≤ _; omega) | (simp only [EL.len, EL.sz, EL.take, EL.drop, maxL, la, ln, lc, ld, lt, ls, lna]; with_reducible first | omega | exact rngI (by omega) | (and_intros <;> first | trivial | omega | exact rngI (by omega))) | (simp only [EL.len, EL.sz, EL.take, EL.drop, maxL, la, ln, lc, ld, lt, ls, lna] at *; with_reducible first | omega | exact rngI (by omega) | (and_intros <;> first | trivial | omega | exact rngI (by omega))))) | (refine End.mk ?_; exact hF) | refine End.mk ?_ | refine brT ?_ | refine brF ?_ | (refine brT' ?_ ?_; focus with_reducible assumption) | (refine brF' ?_ ?_; focus with_reducible assumption) | (refine Br.mk ?_ ?_ <;> (intro hb; have h := hb; (try simp only [decide_eq_true_eq, decide_eq_false_iff_not, Bool.not_eq_true', Bool.not_eq_false', Bool.not_eq_eq_eq_not, Bool.not_true, Bool.not_false, ge_iff_le, gt_iff_lt, Bool.and_eq_true, Bool.and_eq_false_iff, Bool.or_eq_true, Bool.or_eq_false_iff, beq_self_eq_true, not_true_eq_false, and_self, Bool.true_eq_false, Bool.false_eq_true, not_false_eq_true] at h); (try dsimp only [EL.len] at h); (try (exfalso; first | omega | exact bnF h (by with_reducible assumption) | exact bnT h (by with_reducible assumption))))) | (refine fun (y : Int) (h0 : 0 ≤ y) h1 => ?_)))
    refine LoopG.inv {k : Nat // k ≤ a.length ∧ a.take k = b.take k} (fun ⟨k, _⟩ => [(5, .l (.v (.int .i64 k)))]) (fun _ => []) (fun ⟨k, _⟩ => a.length - k) ⟨0, Nat.zero_le _, rfl⟩ [] ?_ ?_
    · repeat' (first | (refine Side.mk ?_ ?_; focus (first | kernel_rfl | exact rfl | exact ⟨rfl, trivial⟩ | exact fun _ h => h | exact ⟨⟨rfl, rfl, rfl, rfl⟩, trivial⟩ | exact ⟨⟨rfl, rfl⟩, rfl, rfl⟩ | exact ⟨rfl, rfl, trivial⟩)) | exact True.intro)
    rintro ⟨k, hk, hk2⟩
    repeat' ((conv => whnf); (first | (refine Side.mk ?_ ?_; focus (first | omega | with_reducible assumption | kernel_rfl | exact rfl | (with_reducible first | omega | exact rngI (by omega) | (and_intros <;> first | trivial | omega | exact rngI (by omega))) | (dsimp only [EL.len]; with_reducible first | omega | exact rngI (by omega) | (and_intros <;> first | trivial | omega | exact rngI (by omega))) | with_reducible exact rngB (by omega) | with_reducible exact rngI ⟨by decide, by decide⟩ | exact ⟨rfl, trivial⟩ | exact ⟨rfl, rfl, trivial⟩ | exact ⟨⟨rfl, rfl, rfl, rfl⟩, trivial⟩ | (show (_ : Int) ≤ _ ∧ (_ : Int) ≤ _; omega) | (show (_ : Int) ≤ _; omega) | (simp only [EL.len, EL.sz, EL.take, EL.drop, maxL, la, ln, lc, ld, lt, ls, lna]; with_reducible first | omega | exact rngI (by omega) | (and_intros <;> first | trivial | omega | exact rngI (by omega))) | (simp only [EL.len, EL.sz, EL.take, EL.drop, maxL, la, ln, lc, ld, lt, ls, lna] at *; with_reducible first | omega | exact rngI (by omega) | (and_intros <;> first | trivial | omega | exact rngI (by omega))))) | (refine End.mk ?_; exact hF) | refine End.mk ?_ | refine brT ?_ | refine brF ?_ | (refine brT' ?_ ?_; focus with_reducible assumption) | (refine brF' ?_ ?_; focus with_reducible assumption) | (refine Br.mk ?_ ?_ <;> (intro hb; have h := hb; (try simp only [decide_eq_true_eq, decide_eq_false_iff_not, Bool.not_eq_true', Bool.not_eq_false', Bool.not_eq_eq_eq_not, Bool.not_true, Bool.not_false, ge_iff_le, gt_iff_lt, Bool.and_eq_true, Bool.and_eq_false_iff, Bool.or_eq_true, Bool.or_eq_false_iff, beq_self_eq_true, not_true_eq_false, and_self, Bool.true_eq_false, Bool.false_eq_true, not_false_eq_true] at h); (try dsimp only [EL.len] at h); (try (exfalso; first | omega | exact bnF h (by with_reducible assumption) | exact bnT h (by with_reducible assumption))))) | (refine fun (y : Int) (h0 : 0 ≤ y) h1 => ?_)))
    · (refine Exists.intro _ (And.intro ?_ hK); repeat' (first | (refine Side.mk ?_ ?_; focus (first | with_reducible exact rfl | exact Eq.refl true | exact Eq.refl false)) | (refine Side.mk ?_ ?_) | exact True.intro))
      exact (decide_eq_false (fun e => h (by rw [e]))).symm
    · have h2 : a.take (k + 1) = b.take (k + 1) := by
        rw [Int.toNat_natCast] at h
        exact take_eq_succ (by omega) (by omega) hk2 h
      (refine Exists.intro ⟨k + 1, by omega, h2⟩ (Exists.intro [] (And.intro ?_ ?_)))
      · show a.length - (k + 1) < a.length - k
        omega
      · repeat' (first | (refine Side.mk ?_ ?_; focus (first | kernel_rfl | exact rfl | exact ⟨rfl, trivial⟩ | exact fun _ h => h | exact ⟨⟨rfl, rfl, rfl, rfl⟩, trivial⟩ | exact ⟨⟨rfl, rfl⟩, rfl, rfl⟩ | exact ⟨rfl, rfl, trivial⟩)) | exact True.intro)
    · (refine Exists.intro _ (And.intro ?_ hK); repeat' (first | (refine Side.mk ?_ ?_; focus (first | with_reducible exact rfl | exact Eq.refl true | exact Eq.refl false)) | (refine Side.mk ?_ ?_) | exact True.intro))
      rw [List.take_of_length_le (by omega), List.take_of_length_le (by omega)] at hk2
      exact (decide_eq_true hk2).symm
def c_l_sameInts : CS := csOf [.inl .ints, .inl .ints] (fun ⟨a, b, _⟩ K => K (.l (.v (.bool (decide (a = b))))))
theorem c_l_sameInts_ok : CSok Tryd.prog 76 c_l_sameInts := cs_ok (by kernel_rfl) con_l_sameInts

def env_s_l6Open : Env := []
theorem env_s_l6Open_ok : EnvOk Tryd.prog env_s_l6Open := envAll_ok trivial
def tr_s_l6Open : Nat → Tr := fun n => match n with
  | _ => .nil
def c_s_l6Open : CS := csN tab env_s_l6Open tr_s_l6Open Tryd.f37
theorem c_s_l6Open_ok : CSok Tryd.prog 37 c_s_l6Open := csN_ok tab_ok mixed_ok env_s_l6Open_ok Tryd.func37 (by kernel_rfl)

end Go.Proofs.YtkhggobpanfkfaaDoor
