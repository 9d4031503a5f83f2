/-
  What the exact laws do with slices of bytes that came and with receivers: sizes, copies, comparisons, marks.
-/
import Derived.Test.YtkhggobpanfkfaaDoorMark
import Derived.Test.YtkhggobpanfkfaaDoorR3
namespace Go.Proofs.YtkhggobpanfkfaaDoor
open Go.RowKit
open Ab
set_option linter.unusedSimpArgs false
set_option linter.unusedVariables false

/-- Marks, by the walk: the list is the call's own, as seen from a world that ends where its blocks begin. -/
theorem marks_of {P : Program} {T : Tab} {G : Env} {TR : Nat → Tr} {f : FuncId} {fn : Func} {E : TypeId} {ek : EK} {mk : EL → Int → EL} {rv : EL → Int → Int} (hT : TabOk P T) (hM : P.follows .mixedOrders = true) (hG : EnvOk P G) (hN : G = []) (hfn : P.funcs[f]? = some fn) (hn : Nat.ble 2 fn.ntmps = true)
    (hk : ∀ l q, isK ek l = true → isK ek (mk l q) = true ∧ (mk l q).len = l.len ∧ (l.len = 0 → rv l q = q))
    (h : ∀ (l : EL) (q : Int), isK ek l = true → l.len ≤ maxL → 0 ≤ q → q ≤ 1099511627776 → callN T G 1 [0] TR fn [.l (.s 0 0), .l (.v (.int .i64 q))] [.r 0 E l] fun r hp => r = .l (.v (.int .i64 (rv l q))) ∧ hp = [.r 0 E (mk l q)]) : Marks P f E ek mk rv := by
  intro v l q base w hs hown hl h0 h1
  obtain ⟨k1, k2, k3⟩ := hk l q hs
  have hsz := isK_sz hs
  -- where the call's own blocks begin
  obtain ⟨B, hB, hown2, hBle⟩ : ∃ B, B ≤ w.heap.size ∧ w.ownsRow B E ek.sz v l.len l.enc ∧ B ≤ base ∧ (∀ b, v.ownBlock = some b → base ≤ b) := by
    refine ⟨min base w.heap.size, Nat.min_le_right _ _, owns_base hown (Nat.min_le_left _ _), Nat.min_le_left _ _, fun b hb => (hown.lt b hb).1⟩
  obtain ⟨hBb, hbb⟩ := hBle
  have hw0 : ({ w with heap := w.heap.extract 0 B } : World).heap.size = B := by simp; omega
  have hI : Ab.Inv ⟨{ w with heap := w.heap.extract 0 B }, []⟩ [.r v 0] [.r 0 E l] w := by
    refine ⟨⟨rfl, rfl, rfl, by rw [hw0]; exact hB, fun b hb _ => ?_⟩, rfl, fun k t e g1 g2 => ?_, fun i k b g1 g2 => ?_⟩
    · rw [hw0] at hb
      show w.heap[b]? = (w.heap.extract 0 B)[b]?
      rw [Array.getElem?_extract]
      simp [hb]
      omega
    · cases k with
      | succ k => simp at g1
      | zero =>
        simp only [List.getElem?_cons_zero, Option.some.injEq] at g1 g2
        subst g1 g2
        exact ⟨rfl, by rw [hw0, hsz]; exact hown2, hl⟩
    · obtain ⟨_, _, e1, _, _⟩ := ownB_some g1
      obtain ⟨_, _, e2, _, _⟩ := ownB_some g2
      have := (List.getElem?_eq_some_iff.1 e1).1
      have := (List.getElem?_eq_some_iff.1 e2).1
      simp at *
      omega
  have hone : v.oneCell' = true := by obtain ⟨_, _, rfl⟩ := owns_form hown; rfl
  refine Calls.mono (callN_spec (W0 := [0]) (TR := TR) hT hM ⟨hG, .inl hN⟩ hfn hI (xs := [.l (.s 0 0), .l (.v (.int .i64 q))]) (vs := #[v, .int .i64 q]) ⟨⟨hone, v, 0, rfl, Nat.le_refl _, fun _ => rfl⟩, ⟨rfl, rfl⟩, trivial⟩ hn (h l q hs hl h0 h1)) ?_
  rintro e w' ⟨u, x, hp', β', rfl, ⟨rfl, rfl⟩, ⟨_, hu⟩, hI', hL⟩
  have hu : u = .int .i64 (rv l q) := hu
  obtain ⟨v', ver', g1, g2, g3⟩ := hL.ext 0 (.r v 0) (by simp) rfl
  have ho := hI'.ent 0 _ _ rfl g1
  obtain ⟨h4, h5, _⟩ := ho
  subst h4
  obtain rfl := g3 rfl
  rw [hw0, isK_sz k1, k2] at h5
  refine ⟨by rw [hu], k3, isK_sz k1, k2, ?_, ?_⟩
  · obtain ⟨a1, a2⟩ := h5
    refine ⟨a1, a2.imp id fun ⟨g, cap, cur, b1, b2, b3⟩ => ⟨g, cap, cur, b1, hbb g (by rw [b1]; rfl), b3⟩⟩
  · refine ⟨hI'.kp.os, hI'.kp.tape, hI'.kp.output, hL.size, fun k hk hne => hL.tch k hk fun i => ?_⟩
    cases i with
    | zero => exact fun e => hne e.symm
    | succ i => simp [ownB]

def markG (q : Int) : Nat → List (Int × Int)
  | 0 => []
  | n + 1 => (q, q + 1) :: markG (q + 2) n
theorem markG_length (q : Int) (n : Nat) : (markG q n).length = n := by
  induction n generalizing q with
  | zero => rfl
  | succ n ih => simp [markG, ih]
theorem markG_getD (q : Int) (n i : Nat) (h : i < n) : (markG q n).getD i (0, 0) = (q + 2 * i, q + 2 * i + 1) := by
  induction n generalizing q i with
  | zero => omega
  | succ n ih =>
    cases i with
    | zero => simp [markG]
    | succ i =>
      have := ih (q + 2) i (by omega)
      simp only [markG, List.getD_cons_succ, this, Prod.mk.injEq]
      omega
theorem markG_succ (q : Int) (n : Nat) : markG q (n + 1) = markG q n ++ [(q + 2 * n, q + 2 * n + 1)] := by
  induction n generalizing q with
  | zero => simp [markG]
  | succ n ih =>
    rw [markG, ih]
    simp only [markG, List.cons_append, List.cons.injEq, true_and, List.append_cancel_left_eq, Prod.mk.injEq, and_true]
    omega
theorem markG_step (l p : List (Int × Int)) (q : Int) (k : Nat) (hk : k < l.length) (hp : p = markG q k ++ l.drop k) (x : Int × Int) : (p.set k x).set k (q + 2 * k, q + 2 * k + 1) = markG q (k + 1) ++ l.drop (k + 1) := by
  rw [List.set_set, hp, markG_succ, List.set_append_right _ _ (by rw [markG_length]; exact Nat.le_refl _), markG_length, Nat.sub_self, List.append_assoc]
  congr 1
  have e := List.drop_eq_getElem_cons hk
  rw [e]
  rfl
def mkG (l : EL) (q : Int) : EL := .gots (markG q l.len)
def rvG (l : EL) (q : Int) : Int := q + 2 * l.len

def env_l_markGotS : Env := []
theorem env_l_markGotS_ok : EnvOk Tryd.prog env_l_markGotS := envAll_ok trivial
def tr_l_markGotS : Nat → Tr := fun n => match n with
  | _ => .nil
set_option maxRecDepth 100000 in
set_option maxHeartbeats 2000000 in
theorem marksG : Marks Tryd.prog 67 78 .gots mkG rvG := by
  refine marks_of (TR := tr_l_markGotS) tab_ok mixed_ok env_l_markGotS_ok rfl Tryd.func67 (by kernel_rfl) ?_ ?_
  · intro l q h
    cases l <;> first | cases h | skip
    exact ⟨rfl, by simp [mkG, EL.len, markG_length], fun e => by simp [rvG, e]⟩
  · intro el q hk hl h0 h1
    cases el <;> first | cases hk | skip
    rename_i l
    replace hl : l.length ≤ 1099511627776 := hl
    repeat' ((conv => whnf); (first | (refine Side.mk ?_ ?_; focus (first | omega | with_reducible assumption | kernel_rfl | exact rfl | (with_reducible first | omega | exact rngI (by omega) | (and_intros <;> first | trivial | omega | exact rngI (by omega))) | (dsimp only [EL.len]; with_reducible first | omega | exact rngI (by omega) | (and_intros <;> first | trivial | omega | exact rngI (by omega))) | with_reducible exact rngB (by omega) | with_reducible exact rngI ⟨by decide, by decide⟩ | exact ⟨rfl, trivial⟩ | exact ⟨rfl, rfl, trivial⟩ | exact ⟨⟨rfl, rfl, rfl, rfl⟩, trivial⟩ | (show (_ : Int) ≤ _ ∧ (_ : Int) ≤ _; omega) | (show (_ : Int) ≤ _; omega) | (simp only [EL.len, EL.sz, EL.take, EL.drop, maxL, la, ln, lc, ld, lt, ls, lna]; with_reducible first | omega | exact rngI (by omega) | (and_intros <;> first | trivial | omega | exact rngI (by omega))) | (simp only [EL.len, EL.sz, EL.take, EL.drop, maxL, la, ln, lc, ld, lt, ls, lna] at *; with_reducible first | omega | exact rngI (by omega) | (and_intros <;> first | trivial | omega | exact rngI (by omega))))) | (refine Fork.mk ?_ ?_; (intro K' hF; (conv at hF => whnf); (repeat ((first | (have hs := side_l hF; replace hF := side_r hF) | (replace hF := fork_r hF) | ((repeat ((conv => whnf); (first | (refine Side.mk ?_ ?_; focus (first | omega | with_reducible assumption | kernel_rfl | exact rfl | (with_reducible first | omega | exact rngI (by omega) | (and_intros <;> first | trivial | omega | exact rngI (by omega))) | (dsimp only [EL.len]; with_reducible first | omega | exact rngI (by omega) | (and_intros <;> first | trivial | omega | exact rngI (by omega))) | with_reducible exact rngB (by omega) | with_reducible exact rngI ⟨by decide, by decide⟩ | exact ⟨rfl, trivial⟩ | exact ⟨rfl, rfl, trivial⟩ | exact ⟨⟨rfl, rfl, rfl, rfl⟩, trivial⟩ | (show (_ : Int) ≤ _ ∧ (_ : Int) ≤ _; omega) | (show (_ : Int) ≤ _; omega) | (simp only [EL.len, EL.sz, EL.take, EL.drop, maxL, la, ln, lc, ld, lt, ls, lna]; with_reducible first | omega | exact rngI (by omega) | (and_intros <;> first | trivial | omega | exact rngI (by omega))) | (simp only [EL.len, EL.sz, EL.take, EL.drop, maxL, la, ln, lc, ld, lt, ls, lna] at *; with_reducible first | omega | exact rngI (by omega) | (and_intros <;> first | trivial | omega | exact rngI (by omega))))) | (refine Fork.mk ?_ ?_; focus (intro K' hF; (conv at hF => whnf); (repeat ((first | (have hs := side_l hF; replace hF := side_r hF) | (replace hF := fork_r hF) | ((repeat ((conv => whnf); (refine Side.mk ?_ ?_; focus (first | omega | with_reducible assumption | kernel_rfl | exact rfl | (with_reducible first | omega | exact rngI (by omega) | (and_intros <;> first | trivial | omega | exact rngI (by omega))) | (dsimp only [EL.len]; with_reducible first | omega | exact rngI (by omega) | (and_intros <;> first | trivial | omega | exact rngI (by omega))) | with_reducible exact rngB (by omega) | with_reducible exact rngI ⟨by decide, by decide⟩ | exact ⟨rfl, trivial⟩ | exact ⟨rfl, rfl, trivial⟩ | exact ⟨⟨rfl, rfl, rfl, rfl⟩, trivial⟩ | (show (_ : Int) ≤ _ ∧ (_ : Int) ≤ _; omega) | (show (_ : Int) ≤ _; omega) | (simp only [EL.len, EL.sz, EL.take, EL.drop, maxL, la, ln, lc, ld, lt, ls, lna]; with_reducible first | omega | exact rngI (by omega) | (and_intros <;> first | trivial | omega | exact rngI (by omega))) | (simp only [EL.len, EL.sz, EL.take, EL.drop, maxL, la, ln, lc, ld, lt, ls, lna] at *; with_reducible first | omega | exact rngI (by omega) | (and_intros <;> first | trivial | omega | exact rngI (by omega))))))); (conv => whnf); (refine fun (y : Int) (h0 : 0 ≤ y) h1 => ?_); replace hF := hF y h0 h1)); (conv at hF => whnf))); replace hF := end_r hF; (repeat' ((conv => whnf); (first | (refine Side.mk ?_ ?_; focus (first | omega | with_reducible assumption | kernel_rfl | exact rfl | (with_reducible first | omega | exact rngI (by omega) | (and_intros <;> first | trivial | omega | exact rngI (by omega))) | (dsimp only [EL.len]; with_reducible first | omega | exact rngI (by omega) | (and_intros <;> first | trivial | omega | exact rngI (by omega))) | with_reducible exact rngB (by omega) | with_reducible exact rngI ⟨by decide, by decide⟩ | exact ⟨rfl, trivial⟩ | exact ⟨rfl, rfl, trivial⟩ | exact ⟨⟨rfl, rfl, rfl, rfl⟩, trivial⟩ | (show (_ : Int) ≤ _ ∧ (_ : Int) ≤ _; omega) | (show (_ : Int) ≤ _; omega) | (simp only [EL.len, EL.sz, EL.take, EL.drop, maxL, la, ln, lc, ld, lt, ls, lna]; with_reducible first | omega | exact rngI (by omega) | (and_intros <;> first | trivial | omega | exact rngI (by omega))) | (simp only [EL.len, EL.sz, EL.take, EL.drop, maxL, la, ln, lc, ld, lt, ls, lna] at *; with_reducible first | omega | exact rngI (by omega) | (and_intros <;> first | trivial | omega | exact rngI (by omega))))) | (refine End.mk ?_; exact hF) | refine End.mk ?_ | refine brT ?_ | refine brF ?_ | (refine brT' ?_ ?_; focus with_reducible assumption) | (refine brF' ?_ ?_; focus with_reducible assumption) | (refine Br.mk ?_ ?_ <;> (intro hb; have h := hb; (try simp only [decide_eq_true_eq, decide_eq_false_iff_not, Bool.not_eq_true', Bool.not_eq_false', Bool.not_eq_eq_eq_not, Bool.not_true, Bool.not_false, ge_iff_le, gt_iff_lt, Bool.and_eq_true, Bool.and_eq_false_iff, Bool.or_eq_true, Bool.or_eq_false_iff, beq_self_eq_true, not_true_eq_false, and_self, Bool.true_eq_false, Bool.false_eq_true, not_false_eq_true] at h); (try dsimp only [EL.len] at h); (try (exfalso; first | omega | exact bnF h (by with_reducible assumption) | exact bnT h (by with_reducible assumption))))) | (refine fun (y : Int) (h0 : 0 ≤ y) h1 => ?_)))); done))))); (conv => whnf); (refine fun (y : Int) (h0 : 0 ≤ y) h1 => ?_); replace hF := hF y h0 h1)); (conv at hF => whnf))); replace hF := end_r hF)) | (refine End.mk ?_; exact hF) | refine End.mk ?_ | refine brT ?_ | refine brF ?_ | (refine brT' ?_ ?_; focus with_reducible assumption) | (refine brF' ?_ ?_; focus with_reducible assumption) | (refine Br.mk ?_ ?_ <;> (intro hb; have h := hb; (try simp only [decide_eq_true_eq, decide_eq_false_iff_not, Bool.not_eq_true', Bool.not_eq_false', Bool.not_eq_eq_eq_not, Bool.not_true, Bool.not_false, ge_iff_le, gt_iff_lt, Bool.and_eq_true, Bool.and_eq_false_iff, Bool.or_eq_true, Bool.or_eq_false_iff, beq_self_eq_true, not_true_eq_false, and_self, Bool.true_eq_false, Bool.false_eq_true, not_false_eq_true] at h); (try dsimp only [EL.len] at h); (try (exfalso; first | omega | exact bnF h (by with_reducible assumption) | exact bnT h (by with_reducible assumption))))) | (refine fun (y : Int) (h0 : 0 ≤ y) h1 => ?_)))
    refine LoopG.inv {s : Nat × Int × List (Int × Int) // s.1 ≤ l.length ∧ s.2.1 = q + 2 * s.1 ∧ s.2.2 = markG q s.1 ++ l.drop s.1} (fun ⟨(k, z, _), _⟩ => [(5, .l (.v (.int .i64 k))), (1, .l (.v (.int .i64 z)))]) (fun ⟨(_, _, p), _⟩ => [(0, .r 0 78 (.gots p))]) (fun ⟨(k, _, _), _⟩ => l.length - k) ⟨(0, q, l), Nat.zero_le _, (show q = q + 2 * ((0 : Nat) : Int) by omega), rfl⟩ [0] ?_ ?_
    · repeat' (first | (refine Side.mk ?_ ?_; focus (first | kernel_rfl | exact rfl | exact ⟨rfl, trivial⟩ | exact fun _ h => h | exact ⟨⟨rfl, rfl, rfl, rfl⟩, trivial⟩ | exact ⟨⟨rfl, rfl⟩, rfl, rfl⟩ | exact ⟨rfl, rfl, trivial⟩)) | exact True.intro)
    rintro ⟨⟨k, z, p⟩, hk1, hk2, hk3⟩
    have gk : k ≤ l.length := hk1
    have gz : z = q + 2 * k := hk2
    have gp : p = markG q k ++ l.drop k := hk3
    have gpl : p.length = l.length := by rw [gp]; simp [markG_length]; omega
    have gs : (p.set (k : Int).toNat (z, (p.getD (k : Int).toNat (0, 0)).2)).length = p.length := by simp
    repeat' ((conv => whnf); (first | (refine Side.mk ?_ ?_; focus (first | omega | with_reducible assumption | kernel_rfl | exact rfl | (with_reducible first | omega | exact rngI (by omega) | (and_intros <;> first | trivial | omega | exact rngI (by omega))) | (dsimp only [EL.len]; with_reducible first | omega | exact rngI (by omega) | (and_intros <;> first | trivial | omega | exact rngI (by omega))) | with_reducible exact rngB (by omega) | with_reducible exact rngI ⟨by decide, by decide⟩ | exact ⟨rfl, trivial⟩ | exact ⟨rfl, rfl, trivial⟩ | exact ⟨⟨rfl, rfl, rfl, rfl⟩, trivial⟩ | (show (_ : Int) ≤ _ ∧ (_ : Int) ≤ _; omega) | (show (_ : Int) ≤ _; omega) | (simp only [EL.len, EL.sz, EL.take, EL.drop, maxL, la, ln, lc, ld, lt, ls, lna]; with_reducible first | omega | exact rngI (by omega) | (and_intros <;> first | trivial | omega | exact rngI (by omega))) | (simp only [EL.len, EL.sz, EL.take, EL.drop, maxL, la, ln, lc, ld, lt, ls, lna] at *; with_reducible first | omega | exact rngI (by omega) | (and_intros <;> first | trivial | omega | exact rngI (by omega))))) | (refine Fork.mk ?_ ?_; (intro K' hF; (conv at hF => whnf); (repeat ((first | (have hs := side_l hF; replace hF := side_r hF) | (replace hF := fork_r hF) | ((repeat ((conv => whnf); (first | (refine Side.mk ?_ ?_; focus (first | omega | with_reducible assumption | kernel_rfl | exact rfl | (with_reducible first | omega | exact rngI (by omega) | (and_intros <;> first | trivial | omega | exact rngI (by omega))) | (dsimp only [EL.len]; with_reducible first | omega | exact rngI (by omega) | (and_intros <;> first | trivial | omega | exact rngI (by omega))) | with_reducible exact rngB (by omega) | with_reducible exact rngI ⟨by decide, by decide⟩ | exact ⟨rfl, trivial⟩ | exact ⟨rfl, rfl, trivial⟩ | exact ⟨⟨rfl, rfl, rfl, rfl⟩, trivial⟩ | (show (_ : Int) ≤ _ ∧ (_ : Int) ≤ _; omega) | (show (_ : Int) ≤ _; omega) | (simp only [EL.len, EL.sz, EL.take, EL.drop, maxL, la, ln, lc, ld, lt, ls, lna]; with_reducible first | omega | exact rngI (by omega) | (and_intros <;> first | trivial | omega | exact rngI (by omega))) | (simp only [EL.len, EL.sz, EL.take, EL.drop, maxL, la, ln, lc, ld, lt, ls, lna] at *; with_reducible first | omega | exact rngI (by omega) | (and_intros <;> first | trivial | omega | exact rngI (by omega))))) | (refine Fork.mk ?_ ?_; focus (intro K' hF; (conv at hF => whnf); (repeat ((first | (have hs := side_l hF; replace hF := side_r hF) | (replace hF := fork_r hF) | ((repeat ((conv => whnf); (refine Side.mk ?_ ?_; focus (first | omega | with_reducible assumption | kernel_rfl | exact rfl | (with_reducible first | omega | exact rngI (by omega) | (and_intros <;> first | trivial | omega | exact rngI (by omega))) | (dsimp only [EL.len]; with_reducible first | omega | exact rngI (by omega) | (and_intros <;> first | trivial | omega | exact rngI (by omega))) | with_reducible exact rngB (by omega) | with_reducible exact rngI ⟨by decide, by decide⟩ | exact ⟨rfl, trivial⟩ | exact ⟨rfl, rfl, trivial⟩ | exact ⟨⟨rfl, rfl, rfl, rfl⟩, trivial⟩ | (show (_ : Int) ≤ _ ∧ (_ : Int) ≤ _; omega) | (show (_ : Int) ≤ _; omega) | (simp only [EL.len, EL.sz, EL.take, EL.drop, maxL, la, ln, lc, ld, lt, ls, lna]; with_reducible first | omega | exact rngI (by omega) | (and_intros <;> first | trivial | omega | exact rngI (by omega))) | (simp only [EL.len, EL.sz, EL.take, EL.drop, maxL, la, ln, lc, ld, lt, ls, lna] at *; with_reducible first | omega | exact rngI (by omega) | (and_intros <;> first | trivial | omega | exact rngI (by omega))))))); (conv => whnf); (refine fun (y : Int) (h0 : 0 ≤ y) h1 => ?_); replace hF := hF y h0 h1)); (conv at hF => whnf))); replace hF := end_r hF; (repeat' ((conv => whnf); (first | (refine Side.mk ?_ ?_; focus (first | omega | with_reducible assumption | kernel_rfl | exact rfl | (with_reducible first | omega | exact rngI (by omega) | (and_intros <;> first | trivial | omega | exact rngI (by omega))) | (dsimp only [EL.len]; with_reducible first | omega | exact rngI (by omega) | (and_intros <;> first | trivial | omega | exact rngI (by omega))) | with_reducible exact rngB (by omega) | with_reducible exact rngI ⟨by decide, by decide⟩ | exact ⟨rfl, trivial⟩ | exact ⟨rfl, rfl, trivial⟩ | exact ⟨⟨rfl, rfl, rfl, rfl⟩, trivial⟩ | (show (_ : Int) ≤ _ ∧ (_ : Int) ≤ _; omega) | (show (_ : Int) ≤ _; omega) | (simp only [EL.len, EL.sz, EL.take, EL.drop, maxL, la, ln, lc, ld, lt, ls, lna]; with_reducible first | omega | exact rngI (by omega) | (and_intros <;> first | trivial | omega | exact rngI (by omega))) | (simp only [EL.len, EL.sz, EL.take, EL.drop, maxL, la, ln, lc, ld, lt, ls, lna] at *; with_reducible first | omega | exact rngI (by omega) | (and_intros <;> first | trivial | omega | exact rngI (by omega))))) | (refine End.mk ?_; exact hF) | refine End.mk ?_ | refine brT ?_ | refine brF ?_ | (refine brT' ?_ ?_; focus with_reducible assumption) | (refine brF' ?_ ?_; focus with_reducible assumption) | (refine Br.mk ?_ ?_ <;> (intro hb; have h := hb; (try simp only [decide_eq_true_eq, decide_eq_false_iff_not, Bool.not_eq_true', Bool.not_eq_false', Bool.not_eq_eq_eq_not, Bool.not_true, Bool.not_false, ge_iff_le, gt_iff_lt, Bool.and_eq_true, Bool.and_eq_false_iff, Bool.or_eq_true, Bool.or_eq_false_iff, beq_self_eq_true, not_true_eq_false, and_self, Bool.true_eq_false, Bool.false_eq_true, not_false_eq_true] at h); (try dsimp only [EL.len] at h); (try (exfalso; first | omega | exact bnF h (by with_reducible assumption) | exact bnT h (by with_reducible assumption))))) | (refine fun (y : Int) (h0 : 0 ≤ y) h1 => ?_)))); done))))); (conv => whnf); (refine fun (y : Int) (h0 : 0 ≤ y) h1 => ?_); replace hF := hF y h0 h1)); (conv at hF => whnf))); replace hF := end_r hF)) | (refine End.mk ?_; exact hF) | refine End.mk ?_ | refine brT ?_ | refine brF ?_ | (refine brT' ?_ ?_; focus with_reducible assumption) | (refine brF' ?_ ?_; focus with_reducible assumption) | (refine Br.mk ?_ ?_ <;> (intro hb; have h := hb; (try simp only [decide_eq_true_eq, decide_eq_false_iff_not, Bool.not_eq_true', Bool.not_eq_false', Bool.not_eq_eq_eq_not, Bool.not_true, Bool.not_false, ge_iff_le, gt_iff_lt, Bool.and_eq_true, Bool.and_eq_false_iff, Bool.or_eq_true, Bool.or_eq_false_iff, beq_self_eq_true, not_true_eq_false, and_self, Bool.true_eq_false, Bool.false_eq_true, not_false_eq_true] at h); (try dsimp only [EL.len] at h); (try (exfalso; first | omega | exact bnF h (by with_reducible assumption) | exact bnT h (by with_reducible assumption))))) | (refine fun (y : Int) (h0 : 0 ≤ y) h1 => ?_)))
    · have hlt : k < l.length := by omega
      have e1 : (p.set (k : Int).toNat (z, (p.getD (k : Int).toNat (0, 0)).2)).set (k : Int).toNat (((p.set (k : Int).toNat (z, (p.getD (k : Int).toNat (0, 0)).2)).getD (k : Int).toNat (0, 0)).1, z + 1) = markG q (k + 1) ++ l.drop (k + 1) := by
        have e2 : ((p.set (k : Int).toNat (z, (p.getD (k : Int).toNat (0, 0)).2)).getD (k : Int).toNat (0, 0)).1 = z := by
          rw [Int.toNat_natCast, List.getD_eq_getElem?_getD, List.getElem?_set_self (by omega)]
          rfl
        rw [e2, Int.toNat_natCast, gz]
        exact markG_step l p q k hlt gp _
      (refine Exists.intro ⟨(k + 1, z + 1 + 1, (p.set (k : Int).toNat (z, (p.getD (k : Int).toNat (0, 0)).2)).set (k : Int).toNat (((p.set (k : Int).toNat (z, (p.getD (k : Int).toNat (0, 0)).2)).getD (k : Int).toNat (0, 0)).1, z + 1)), hlt, (show z + 1 + 1 = q + 2 * ((k + 1 : Nat) : Int) by omega), e1⟩ (Exists.intro [0] (And.intro ?_ ?_)))
      · show l.length - (k + 1) < l.length - k
        omega
      · repeat' (first | (refine Side.mk ?_ ?_; focus (first | kernel_rfl | exact rfl | exact ⟨rfl, trivial⟩ | exact fun _ h => h | exact ⟨⟨rfl, rfl, rfl, rfl⟩, trivial⟩ | exact ⟨⟨rfl, rfl⟩, rfl, rfl⟩ | exact ⟨rfl, rfl, trivial⟩)) | exact True.intro)
    · have hk : k = l.length := by omega
      refine ⟨?_, ?_⟩
      · rw [gz, hk]; rfl
      · rw [gp, hk]; simp [mkG, EL.len]
def c_l_markGotS : CS := csMark 78 .gots mkG rvG
theorem c_l_markGotS_ok : CSok Tryd.prog 67 c_l_markGotS := csMark_ok (by kernel_rfl) marksG

end Go.Proofs.YtkhggobpanfkfaaDoor
