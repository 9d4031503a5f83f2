/-
  Bytes that came, as a linked list (l11_receivers of the program): put, gotListOf, take, items.
-/
import Derived.Test.YtkhggobpanfkfaaDoorAbsT
namespace Go.Proofs.YtkhggobpanfkfaaDoor
open Go.RowKit
open Ab
set_option linter.unusedSimpArgs false
set_option linter.unusedVariables false

def nodeP (n : Option Nat) : Value := .pointer (n.map fun n => ⟨n, 0, none⟩)
def Chain (w : World) : List Nat → List (Int × Int) → Prop
  | [], [] => True
  | n :: ns, g :: gs => w.heap[n]? = some (.cells #[.int .i64 g.1, .int .i64 g.2, nodeP ns.head?] 154 (0, 0)) ∧ Chain w ns gs
  | _, _ => False
theorem Chain.len {w : World} : ∀ {ns : List Nat} {l : List (Int × Int)}, Chain w ns l → ns.length = l.length
  | [], [], _ => rfl
  | _ :: ns, _ :: l, h => by simp [Chain.len h.2]
  | [], _ :: _, h => h.elim
  | _ :: _, [], h => h.elim
theorem Chain.keep {w w' : World} : ∀ {ns : List Nat} {l : List (Int × Int)}, Chain w ns l → (∀ n ∈ ns, w'.heap[n]? = w.heap[n]?) → Chain w' ns l
  | [], [], _, _ => trivial
  | n :: ns, _ :: l, h, k => ⟨(k n (by simp)).trans h.1, Chain.keep h.2 fun m hm => k m (by simp [hm])⟩
  | [], _ :: _, h, _ => h.elim
  | _ :: _, [], h, _ => h.elim
theorem Chain.lt {w : World} : ∀ {ns : List Nat} {l : List (Int × Int)}, Chain w ns l → ∀ n ∈ ns, n < w.heap.size
  | [], [], _, _, hn => by cases hn
  | n :: ns, _ :: l, h, m, hm => by
    rcases List.mem_cons.1 hm with rfl | hm
    · exact (Array.getElem?_eq_some_iff.1 h.1).1
    · exact Chain.lt h.2 m hm
  | [], _ :: _, h, _, _ => h.elim
  | _ :: _, [], h, _, _ => h.elim
theorem Chain.last {w : World} {m : Nat} : ∀ {ns : List Nat} {l : List (Int × Int)}, Chain w (ns ++ [m]) l → ∃ a b, w.heap[m]? = some (.cells #[.int .i64 a, .int .i64 b, .pointer none] 154 (0, 0))
  | [], [], h => h.elim
  | [], g :: l, h => ⟨g.1, g.2, h.1⟩
  | _ :: ns, [], h => h.elim
  | _ :: ns, _ :: l, h => Chain.last (ns := ns) h.2
theorem Chain.snoc {w w' : World} {m n : Nat} {g : Int × Int} (hn : w'.heap[n]? = some (.cells #[.int .i64 g.1, .int .i64 g.2, .pointer none] 154 (0, 0)))
    (hm : ∀ a b, w.heap[m]? = some (.cells #[.int .i64 a, .int .i64 b, .pointer none] 154 (0, 0)) → w'.heap[m]? = some (.cells #[.int .i64 a, .int .i64 b, .pointer (some ⟨n, 0, none⟩)] 154 (0, 0))) :
    ∀ {ns : List Nat} {l : List (Int × Int)}, Chain w (ns ++ [m]) l → (∀ b ∈ ns, w'.heap[b]? = w.heap[b]?) → Chain w' (ns ++ [m, n]) (l ++ [g])
  | [], [], h, _ => h.elim
  | [], g0 :: [], h, _ => ⟨hm _ _ h.1, hn, trivial⟩
  | [], g0 :: _ :: _, h, _ => h.2.elim
  | _ :: ns, [], h, _ => h.elim
  | b :: ns, g0 :: l, h, k => by
    refine ⟨?_, Chain.snoc hn hm (ns := ns) h.2 fun c hc => k c (by simp [hc])⟩
    have e : (ns.append [m, n]).head? = (ns ++ [m]).head? := by cases ns <;> rfl
    rw [e, k b (by simp)]
    exact h.1

/-- The block r holds a list of bytes that came; its nodes lie from the block B on. -/
def GL (w : World) (B r : Nat) (l : List (Int × Int)) : Prop := ∃ ns : List Nat, w.heap[r]? = some (.cells #[nodeP ns.head?, nodeP ns.getLast?, .int .i64 l.length] 151 (0, 0)) ∧ Chain w ns l ∧ ns.Nodup ∧ (∀ n ∈ ns, B ≤ n ∧ n ≠ r) ∧ B ≤ r
theorem GL.keep {w w' : World} {B r : Nat} {l : List (Int × Int)} (h : GL w B r l) (k : ∀ b, B ≤ b → b < w.heap.size → w'.heap[b]? = w.heap[b]?) : GL w' B r l := by
  obtain ⟨ns, h1, h2, h3, h4, h5⟩ := h
  exact ⟨ns, (k r h5 (Array.getElem?_eq_some_iff.1 h1).1).trans h1, h2.keep fun n hn => k n (h4 n hn).1 (h2.lt n hn), h3, h4, h5⟩
theorem GL.lt {w : World} {B r : Nat} {l : List (Int × Int)} (h : GL w B r l) : B ≤ r ∧ r < w.heap.size := by
  obtain ⟨ns, h1, h2, h3, h4, h5⟩ := h
  exact ⟨h5, (Array.getElem?_eq_some_iff.1 h1).1⟩
theorem GL.below {w w' : World} {B r : Nat} {l : List (Int × Int)} (h : GL w B r l) (hb : Below w.heap.size w w') : GL w' B r l := h.keep fun b _ hlt => hb.block b hlt
theorem GL.mono {w : World} {B B' r : Nat} {l : List (Int × Int)} (h : GL w B r l) (hb : B' ≤ B) : GL w B' r l := by
  obtain ⟨ns, h1, h2, h3, h4, h5⟩ := h
  exact ⟨ns, h1, h2, h3, fun n hn => ⟨by have := (h4 n hn).1; omega, (h4 n hn).2⟩, by omega⟩

/-- A block of the walk's memory, read. -/
theorem ent_b {cx : Cx} {β : List En} {hp : Hp} {w : World} (hI : Ab.Inv cx β hp w) {k : Nat} {cs : List LV} {T : TypeId} (h : hp[k]? = some (.b cs T)) :
    ∃ n us, β[k]? = some (.b n) ∧ (cx.w0.heap.size ≤ n ∨ n ∈ cx.M) ∧ w.heap[n]? = some (.cells us T (0, 0)) ∧ LCs cx β cs us.toList := by
  have hk := (List.getElem?_eq_some_iff.1 h).1
  have he : β[k]? = some (β[k]'(by rw [hI.len]; exact hk)) := List.getElem?_eq_getElem _
  have ho := hI.ent k _ _ h he
  generalize β[k]'(by rw [hI.len]; exact hk) = e at he ho
  cases e with
  | b n => obtain ⟨h1, us, h2, h3⟩ := ho; exact ⟨n, us, he, h1, h2, h3⟩
  | r v ver => exact ho.elim
  | x => exact ho.elim
theorem ent_ne {cx : Cx} {β : List En} {hp : Hp} {w : World} (hI : Ab.Inv cx β hp w) {i k n m : Nat} {cs ds : List LV} {T U : TypeId} (hi : hp[i]? = some (.b cs T)) (hk : hp[k]? = some (.b ds U)) (hn : β[i]? = some (.b n)) (hm : β[k]? = some (.b m)) (hne : i ≠ k) : n ≠ m := by
  rintro rfl
  exact hne (hI.dis i k n (by rw [ownB_of hi hn]; rfl) (by rw [ownB_of hk hm]; rfl))
theorem lc3 {cx : Cx} {β : List En} {a b c : LV} {us : Array Value} (h : LCs cx β [a, b, c] us.toList) : ∃ x y z, us = #[x, y, z] ∧ LC cx β a x ∧ LC cx β b y ∧ LC cx β c z := by
  cases hu : us.toList with
  | nil => rw [hu] at h; exact h.elim
  | cons x r =>
    rw [hu] at h
    match r, h with
    | [y, z], ⟨h1, h2, h3, _⟩ => exact ⟨x, y, z, Array.toList_inj.1 hu, h1, h2, h3⟩
theorem lcp {cx : Cx} {β : List En} {k off n : Nat} {v : Value} (h : LC cx β (.p k off) v) (hn : β[k]? = some (.b n)) : v = .pointer (some ⟨n, off, none⟩) := by
  obtain ⟨_, m, hm, e⟩ := h
  rw [hn] at hm
  obtain rfl : n = m := by simpa using hm
  exact e
theorem lcv {cx : Cx} {β : List En} {x v : Value} (h : LC cx β (.v x) v) : v = x := h.2

/-- One block, lent. -/
theorem inv1 {w : World} {r : Nat} {cs : List LV} {us : Array Value} {T : TypeId} (hb : w.heap[r]? = some (.cells us T (0, 0))) (hc : LCs ⟨w, [r]⟩ [.b r] cs us.toList) : Ab.Inv ⟨w, [r]⟩ [.b r] [.b cs T] w := by
  refine ⟨Tch.refl _ _, rfl, fun k t e h1 h2 => ?_, fun i k b h1 h2 => ?_⟩
  · cases k with
    | succ k => simp at h1
    | zero =>
      simp only [List.getElem?_cons_zero, Option.some.injEq] at h1 h2
      subst h1 h2
      exact ⟨.inr (by simp), _, hb, hc⟩
  · obtain ⟨_, _, e1, _, _⟩ := ownB_some h1
    obtain ⟨_, _, e2, _, _⟩ := ownB_some h2
    have := (List.getElem?_eq_some_iff.1 e1).1
    have := (List.getElem?_eq_some_iff.1 e2).1
    simp at *
    omega
/-- Two blocks, lent. -/
theorem inv2 {w : World} {r m : Nat} {cs ds : List LV} {us vs : Array Value} {T U : TypeId} (hne : r ≠ m) (hb : w.heap[r]? = some (.cells us T (0, 0))) (hd : w.heap[m]? = some (.cells vs U (0, 0))) (hc : LCs ⟨w, [r, m]⟩ [.b r, .b m] cs us.toList) (he : LCs ⟨w, [r, m]⟩ [.b r, .b m] ds vs.toList) :
    Ab.Inv ⟨w, [r, m]⟩ [.b r, .b m] [.b cs T, .b ds U] w := by
  refine ⟨Tch.refl _ _, rfl, fun k t e h1 h2 => ?_, fun i k b h1 h2 => ?_⟩
  · match k with
    | 0 =>
      simp only [List.getElem?_cons_zero, Option.some.injEq] at h1 h2
      subst h1 h2
      exact ⟨.inr (by simp), _, hb, hc⟩
    | 1 =>
      simp only [List.getElem?_cons_succ, List.getElem?_cons_zero, Option.some.injEq] at h1 h2
      subst h1 h2
      exact ⟨.inr (by simp), _, hd, he⟩
    | k + 2 => simp at h1
  · have key : ∀ i b, ownB [.b cs T, .b ds U] [.b r, .b m] i = some b → (i = 0 ∧ b = r) ∨ (i = 1 ∧ b = m) := by
      intro i b h
      match i with
      | 0 => exact .inl ⟨rfl, by simpa [ownB, ownE, eq_comm] using h⟩
      | 1 => exact .inr ⟨rfl, by simpa [ownB, ownE, eq_comm] using h⟩
      | i + 2 => simp [ownB] at h
    rcases key i b h1 with ⟨rfl, rfl⟩ | ⟨rfl, rfl⟩ <;> rcases key k _ h2 with ⟨rfl, h⟩ | ⟨rfl, h⟩
    · rfl
    · exact absurd h hne
    · exact absurd h.symm hne
    · rfl

def env_i_gotList_put : Env := []
theorem env_i_gotList_put_ok : EnvOk Tryd.prog env_i_gotList_put := envAll_ok trivial
def tr_i_gotList_put : Nat → Tr := fun n => match n with
  | _ => .nil

set_option maxRecDepth 100000 in
set_option maxHeartbeats 2000000 in
theorem gput_nil (r : Nat) (g : Int × Int) (w : World) (hb : w.heap[r]? = some (.cells #[.pointer none, .pointer none, .int .i64 0] 151 (0, 0))) :
    Calls Tryd.prog 100 #[.pointer (some ⟨r, 0, none⟩), .agg #[.int .i64 g.1, .int .i64 g.2]] w fun e w' => e = .returned (.tuple #[]) ∧ ∃ n, w.heap.size ≤ n ∧ w'.heap[r]? = some (.cells #[.pointer (some ⟨n, 0, none⟩), .pointer (some ⟨n, 0, none⟩), .int .i64 1] 151 (0, 0)) ∧
      w'.heap[n]? = some (.cells #[.int .i64 g.1, .int .i64 g.2, .pointer none] 154 (0, 0)) ∧ Tch (fun b => b = r) w w' := by
  have hlt := (Array.getElem?_eq_some_iff.1 hb).1
  have hI := inv1 (cs := [.v (.pointer none), .v (.pointer none), .v (.int .i64 0)]) hb ⟨⟨rfl, rfl⟩, ⟨rfl, rfl⟩, ⟨rfl, rfl⟩, trivial⟩
  refine Calls.mono (callN_spec (W0 := []) (TR := tr_i_gotList_put) (K := fun x hp => x = .t [] ∧ ∃ T1, hp = [.b [.p 2 0, .p 2 0, .v (.int .i64 1)] 151, .b [.v (.int .i64 g.1), .v (.int .i64 g.2)] T1, .b [.v (.int .i64 g.1), .v (.int .i64 g.2), .v (.pointer none)] 154]) tab_ok mixed_ok ⟨env_i_gotList_put_ok, .inl rfl⟩ Tryd.func100 hI (xs := [.l (.p 0 0), .a [.v (.int .i64 g.1), .v (.int .i64 g.2)]]) ⟨⟨rfl, r, rfl, rfl⟩, ⟨_, rfl, ⟨rfl, rfl⟩, ⟨rfl, rfl⟩, trivial⟩, trivial⟩ (by kernel_rfl) ?_) ?_
  · repeat' ((conv => whnf); (first | (refine Side.mk ?_ ?_; focus (first | omega | with_reducible assumption | kernel_rfl | exact rfl | (with_reducible first | omega | exact rngI (by omega) | (and_intros <;> first | trivial | omega | exact rngI (by omega))) | (dsimp only [EL.len]; with_reducible first | omega | exact rngI (by omega) | (and_intros <;> first | trivial | omega | exact rngI (by omega))) | with_reducible exact rngB (by omega) | with_reducible exact rngI ⟨by decide, by decide⟩ | exact ⟨rfl, trivial⟩ | exact ⟨rfl, rfl, trivial⟩ | exact ⟨⟨rfl, rfl, rfl, rfl⟩, trivial⟩ | (show (_ : Int) ≤ _ ∧ (_ : Int) ≤ _; omega) | (show (_ : Int) ≤ _; omega) | (simp only [EL.len, EL.sz, EL.take, EL.drop, maxL, la, ln, lc, ld, lt, ls, lna]; with_reducible first | omega | exact rngI (by omega) | (and_intros <;> first | trivial | omega | exact rngI (by omega))) | (simp only [EL.len, EL.sz, EL.take, EL.drop, maxL, la, ln, lc, ld, lt, ls, lna] at *; with_reducible first | omega | exact rngI (by omega) | (and_intros <;> first | trivial | omega | exact rngI (by omega))))) | (refine Fork.mk ?_ ?_; (intro K' hF; (conv at hF => whnf); (repeat ((first | (have hs := side_l hF; replace hF := side_r hF) | (replace hF := fork_r hF) | ((repeat ((conv => whnf); (first | (refine Side.mk ?_ ?_; focus (first | omega | with_reducible assumption | kernel_rfl | exact rfl | (with_reducible first | omega | exact rngI (by omega) | (and_intros <;> first | trivial | omega | exact rngI (by omega))) | (dsimp only [EL.len]; with_reducible first | omega | exact rngI (by omega) | (and_intros <;> first | trivial | omega | exact rngI (by omega))) | with_reducible exact rngB (by omega) | with_reducible exact rngI ⟨by decide, by decide⟩ | exact ⟨rfl, trivial⟩ | exact ⟨rfl, rfl, trivial⟩ | exact ⟨⟨rfl, rfl, rfl, rfl⟩, trivial⟩ | (show (_ : Int) ≤ _ ∧ (_ : Int) ≤ _; omega) | (show (_ : Int) ≤ _; omega) | (simp only [EL.len, EL.sz, EL.take, EL.drop, maxL, la, ln, lc, ld, lt, ls, lna]; with_reducible first | omega | exact rngI (by omega) | (and_intros <;> first | trivial | omega | exact rngI (by omega))) | (simp only [EL.len, EL.sz, EL.take, EL.drop, maxL, la, ln, lc, ld, lt, ls, lna] at *; with_reducible first | omega | exact rngI (by omega) | (and_intros <;> first | trivial | omega | exact rngI (by omega))))) | (refine Fork.mk ?_ ?_; focus (intro K' hF; (conv at hF => whnf); (repeat ((first | (have hs := side_l hF; replace hF := side_r hF) | (replace hF := fork_r hF) | ((repeat ((conv => whnf); (refine Side.mk ?_ ?_; focus (first | omega | with_reducible assumption | kernel_rfl | exact rfl | (with_reducible first | omega | exact rngI (by omega) | (and_intros <;> first | trivial | omega | exact rngI (by omega))) | (dsimp only [EL.len]; with_reducible first | omega | exact rngI (by omega) | (and_intros <;> first | trivial | omega | exact rngI (by omega))) | with_reducible exact rngB (by omega) | with_reducible exact rngI ⟨by decide, by decide⟩ | exact ⟨rfl, trivial⟩ | exact ⟨rfl, rfl, trivial⟩ | exact ⟨⟨rfl, rfl, rfl, rfl⟩, trivial⟩ | (show (_ : Int) ≤ _ ∧ (_ : Int) ≤ _; omega) | (show (_ : Int) ≤ _; omega) | (simp only [EL.len, EL.sz, EL.take, EL.drop, maxL, la, ln, lc, ld, lt, ls, lna]; with_reducible first | omega | exact rngI (by omega) | (and_intros <;> first | trivial | omega | exact rngI (by omega))) | (simp only [EL.len, EL.sz, EL.take, EL.drop, maxL, la, ln, lc, ld, lt, ls, lna] at *; with_reducible first | omega | exact rngI (by omega) | (and_intros <;> first | trivial | omega | exact rngI (by omega))))))); (conv => whnf); (refine fun (y : Int) (h0 : 0 ≤ y) h1 => ?_); replace hF := hF y h0 h1)); (conv at hF => whnf))); replace hF := end_r hF; (repeat' ((conv => whnf); (first | (refine Side.mk ?_ ?_; focus (first | omega | with_reducible assumption | kernel_rfl | exact rfl | (with_reducible first | omega | exact rngI (by omega) | (and_intros <;> first | trivial | omega | exact rngI (by omega))) | (dsimp only [EL.len]; with_reducible first | omega | exact rngI (by omega) | (and_intros <;> first | trivial | omega | exact rngI (by omega))) | with_reducible exact rngB (by omega) | with_reducible exact rngI ⟨by decide, by decide⟩ | exact ⟨rfl, trivial⟩ | exact ⟨rfl, rfl, trivial⟩ | exact ⟨⟨rfl, rfl, rfl, rfl⟩, trivial⟩ | (show (_ : Int) ≤ _ ∧ (_ : Int) ≤ _; omega) | (show (_ : Int) ≤ _; omega) | (simp only [EL.len, EL.sz, EL.take, EL.drop, maxL, la, ln, lc, ld, lt, ls, lna]; with_reducible first | omega | exact rngI (by omega) | (and_intros <;> first | trivial | omega | exact rngI (by omega))) | (simp only [EL.len, EL.sz, EL.take, EL.drop, maxL, la, ln, lc, ld, lt, ls, lna] at *; with_reducible first | omega | exact rngI (by omega) | (and_intros <;> first | trivial | omega | exact rngI (by omega))))) | (refine End.mk ?_; exact hF) | refine End.mk ?_ | refine brT ?_ | refine brF ?_ | (refine brT' ?_ ?_; focus with_reducible assumption) | (refine brF' ?_ ?_; focus with_reducible assumption) | (refine Br.mk ?_ ?_ <;> (intro hb; have h := hb; (try simp only [decide_eq_true_eq, decide_eq_false_iff_not, Bool.not_eq_true', Bool.not_eq_false', Bool.not_eq_eq_eq_not, Bool.not_true, Bool.not_false, ge_iff_le, gt_iff_lt, Bool.and_eq_true, Bool.and_eq_false_iff, Bool.or_eq_true, Bool.or_eq_false_iff, beq_self_eq_true, not_true_eq_false, and_self, Bool.true_eq_false, Bool.false_eq_true, not_false_eq_true] at h); (try dsimp only [EL.len] at h); (try (exfalso; first | omega | exact bnF h (by with_reducible assumption) | exact bnT h (by with_reducible assumption))))) | (refine fun (y : Int) (h0 : 0 ≤ y) h1 => ?_)))); done))))); (conv => whnf); (refine fun (y : Int) (h0 : 0 ≤ y) h1 => ?_); replace hF := hF y h0 h1)); (conv at hF => whnf))); replace hF := end_r hF)) | (refine End.mk ?_; exact hF) | refine End.mk ?_ | refine brT ?_ | refine brF ?_ | (refine brT' ?_ ?_; focus with_reducible assumption) | (refine brF' ?_ ?_; focus with_reducible assumption) | (refine Br.mk ?_ ?_ <;> (intro hb; have h := hb; (try simp only [decide_eq_true_eq, decide_eq_false_iff_not, Bool.not_eq_true', Bool.not_eq_false', Bool.not_eq_eq_eq_not, Bool.not_true, Bool.not_false, ge_iff_le, gt_iff_lt, Bool.and_eq_true, Bool.and_eq_false_iff, Bool.or_eq_true, Bool.or_eq_false_iff, beq_self_eq_true, not_true_eq_false, and_self, Bool.true_eq_false, Bool.false_eq_true, not_false_eq_true] at h); (try dsimp only [EL.len] at h); (try (exfalso; first | omega | exact bnF h (by with_reducible assumption) | exact bnT h (by with_reducible assumption))))) | (refine fun (y : Int) (h0 : 0 ≤ y) h1 => ?_)))
    all_goals exact ⟨rfl, _, rfl⟩
  · rintro e w' ⟨u, x, hp', β', rfl, ⟨rfl, T1, rfl⟩, h7, hI', hL⟩
    obtain ⟨n, us, g1, g2, g3, g4⟩ := ent_b hI' (k := 2) rfl
    obtain ⟨r', us0, f1, f2, f3, f4⟩ := ent_b hI' (k := 0) rfl
    have e0 : β'[0]? = some (.b r) := hL.ext 0 (.b r) (by simp) rfl
    rw [e0] at f1
    obtain rfl : r = r' := by simpa using f1
    have hne := ent_ne hI' (i := 2) (k := 0) rfl rfl g1 e0 (by omega)
    obtain ⟨x, y, z, rfl, x1, x2, x3⟩ := lc3 f4
    obtain ⟨x', y', z', rfl, y1, y2, y3⟩ := lc3 g4
    rw [lcp x1 g1, lcp x2 g1, lcv x3] at f3
    rw [lcv y1, lcv y2, lcv y3] at g3
    obtain ⟨vs, rfl, hvs⟩ := h7
    have : vs = #[] := by cases hv : vs.toList with | nil => exact Array.toList_inj.1 hv | cons _ _ => rw [hv] at hvs; exact hvs.elim
    subst this
    refine ⟨rfl, n, ?_, f3, g3, ?_⟩
    · rcases g2 with g2 | g2
      · exact g2
      · simp at g2; omega
    · exact hI'.kp.mono fun b _ hb => by simpa using hb

set_option maxRecDepth 100000 in
set_option maxHeartbeats 2000000 in
theorem gput_cons (r m : Nat) (p0 : Value) (c : Nat) (a b : Int) (g : Int × Int) (w : World) (hne : r ≠ m) (hp0 : p0.oneCell' = true) (hc : c ≤ 1099511627776) (hb : w.heap[r]? = some (.cells #[p0, .pointer (some ⟨m, 0, none⟩), .int .i64 c] 151 (0, 0))) (hm : w.heap[m]? = some (.cells #[.int .i64 a, .int .i64 b, .pointer none] 154 (0, 0))) :
    Calls Tryd.prog 100 #[.pointer (some ⟨r, 0, none⟩), .agg #[.int .i64 g.1, .int .i64 g.2]] w fun e w' => e = .returned (.tuple #[]) ∧ ∃ n, w.heap.size ≤ n ∧ w'.heap[r]? = some (.cells #[p0, .pointer (some ⟨n, 0, none⟩), .int .i64 ((c : Int) + 1)] 151 (0, 0)) ∧
      w'.heap[m]? = some (.cells #[.int .i64 a, .int .i64 b, .pointer (some ⟨n, 0, none⟩)] 154 (0, 0)) ∧ w'.heap[n]? = some (.cells #[.int .i64 g.1, .int .i64 g.2, .pointer none] 154 (0, 0)) ∧ Tch (fun b => b = r ∨ b = m) w w' := by
  have hlr := (Array.getElem?_eq_some_iff.1 hb).1
  have hlm := (Array.getElem?_eq_some_iff.1 hm).1
  have hI := inv2 (cs := [.v p0, .p 1 0, .v (.int .i64 c)]) (ds := [.v (.int .i64 a), .v (.int .i64 b), .v (.pointer none)]) hne hb hm ⟨⟨hp0, rfl⟩, ⟨rfl, m, rfl, rfl⟩, ⟨rfl, rfl⟩, trivial⟩ ⟨⟨rfl, rfl⟩, ⟨rfl, rfl⟩, ⟨rfl, rfl⟩, trivial⟩
  refine Calls.mono (callN_spec (W0 := []) (TR := tr_i_gotList_put) (K := fun x hp => x = .t [] ∧ ∃ T1, hp = [.b [.v p0, .p 3 0, .v (.int .i64 ((c : Int) + 1))] 151, .b [.v (.int .i64 a), .v (.int .i64 b), .p 3 0] 154, .b [.v (.int .i64 g.1), .v (.int .i64 g.2)] T1, .b [.v (.int .i64 g.1), .v (.int .i64 g.2), .v (.pointer none)] 154]) tab_ok mixed_ok ⟨env_i_gotList_put_ok, .inl rfl⟩ Tryd.func100 hI (xs := [.l (.p 0 0), .a [.v (.int .i64 g.1), .v (.int .i64 g.2)]]) ⟨⟨rfl, r, rfl, rfl⟩, ⟨_, rfl, ⟨rfl, rfl⟩, ⟨rfl, rfl⟩, trivial⟩, trivial⟩ (by kernel_rfl) ?_) ?_
  · repeat' ((conv => whnf); (first | (refine Side.mk ?_ ?_; focus (first | omega | with_reducible assumption | kernel_rfl | exact rfl | (with_reducible first | omega | exact rngI (by omega) | (and_intros <;> first | trivial | omega | exact rngI (by omega))) | (dsimp only [EL.len]; with_reducible first | omega | exact rngI (by omega) | (and_intros <;> first | trivial | omega | exact rngI (by omega))) | with_reducible exact rngB (by omega) | with_reducible exact rngI ⟨by decide, by decide⟩ | exact ⟨rfl, trivial⟩ | exact ⟨rfl, rfl, trivial⟩ | exact ⟨⟨rfl, rfl, rfl, rfl⟩, trivial⟩ | (show (_ : Int) ≤ _ ∧ (_ : Int) ≤ _; omega) | (show (_ : Int) ≤ _; omega) | (simp only [EL.len, EL.sz, EL.take, EL.drop, maxL, la, ln, lc, ld, lt, ls, lna]; with_reducible first | omega | exact rngI (by omega) | (and_intros <;> first | trivial | omega | exact rngI (by omega))) | (simp only [EL.len, EL.sz, EL.take, EL.drop, maxL, la, ln, lc, ld, lt, ls, lna] at *; with_reducible first | omega | exact rngI (by omega) | (and_intros <;> first | trivial | omega | exact rngI (by omega))))) | (refine Fork.mk ?_ ?_; (intro K' hF; (conv at hF => whnf); (repeat ((first | (have hs := side_l hF; replace hF := side_r hF) | (replace hF := fork_r hF) | ((repeat ((conv => whnf); (first | (refine Side.mk ?_ ?_; focus (first | omega | with_reducible assumption | kernel_rfl | exact rfl | (with_reducible first | omega | exact rngI (by omega) | (and_intros <;> first | trivial | omega | exact rngI (by omega))) | (dsimp only [EL.len]; with_reducible first | omega | exact rngI (by omega) | (and_intros <;> first | trivial | omega | exact rngI (by omega))) | with_reducible exact rngB (by omega) | with_reducible exact rngI ⟨by decide, by decide⟩ | exact ⟨rfl, trivial⟩ | exact ⟨rfl, rfl, trivial⟩ | exact ⟨⟨rfl, rfl, rfl, rfl⟩, trivial⟩ | (show (_ : Int) ≤ _ ∧ (_ : Int) ≤ _; omega) | (show (_ : Int) ≤ _; omega) | (simp only [EL.len, EL.sz, EL.take, EL.drop, maxL, la, ln, lc, ld, lt, ls, lna]; with_reducible first | omega | exact rngI (by omega) | (and_intros <;> first | trivial | omega | exact rngI (by omega))) | (simp only [EL.len, EL.sz, EL.take, EL.drop, maxL, la, ln, lc, ld, lt, ls, lna] at *; with_reducible first | omega | exact rngI (by omega) | (and_intros <;> first | trivial | omega | exact rngI (by omega))))) | (refine Fork.mk ?_ ?_; focus (intro K' hF; (conv at hF => whnf); (repeat ((first | (have hs := side_l hF; replace hF := side_r hF) | (replace hF := fork_r hF) | ((repeat ((conv => whnf); (refine Side.mk ?_ ?_; focus (first | omega | with_reducible assumption | kernel_rfl | exact rfl | (with_reducible first | omega | exact rngI (by omega) | (and_intros <;> first | trivial | omega | exact rngI (by omega))) | (dsimp only [EL.len]; with_reducible first | omega | exact rngI (by omega) | (and_intros <;> first | trivial | omega | exact rngI (by omega))) | with_reducible exact rngB (by omega) | with_reducible exact rngI ⟨by decide, by decide⟩ | exact ⟨rfl, trivial⟩ | exact ⟨rfl, rfl, trivial⟩ | exact ⟨⟨rfl, rfl, rfl, rfl⟩, trivial⟩ | (show (_ : Int) ≤ _ ∧ (_ : Int) ≤ _; omega) | (show (_ : Int) ≤ _; omega) | (simp only [EL.len, EL.sz, EL.take, EL.drop, maxL, la, ln, lc, ld, lt, ls, lna]; with_reducible first | omega | exact rngI (by omega) | (and_intros <;> first | trivial | omega | exact rngI (by omega))) | (simp only [EL.len, EL.sz, EL.take, EL.drop, maxL, la, ln, lc, ld, lt, ls, lna] at *; with_reducible first | omega | exact rngI (by omega) | (and_intros <;> first | trivial | omega | exact rngI (by omega))))))); (conv => whnf); (refine fun (y : Int) (h0 : 0 ≤ y) h1 => ?_); replace hF := hF y h0 h1)); (conv at hF => whnf))); replace hF := end_r hF; (repeat' ((conv => whnf); (first | (refine Side.mk ?_ ?_; focus (first | omega | with_reducible assumption | kernel_rfl | exact rfl | (with_reducible first | omega | exact rngI (by omega) | (and_intros <;> first | trivial | omega | exact rngI (by omega))) | (dsimp only [EL.len]; with_reducible first | omega | exact rngI (by omega) | (and_intros <;> first | trivial | omega | exact rngI (by omega))) | with_reducible exact rngB (by omega) | with_reducible exact rngI ⟨by decide, by decide⟩ | exact ⟨rfl, trivial⟩ | exact ⟨rfl, rfl, trivial⟩ | exact ⟨⟨rfl, rfl, rfl, rfl⟩, trivial⟩ | (show (_ : Int) ≤ _ ∧ (_ : Int) ≤ _; omega) | (show (_ : Int) ≤ _; omega) | (simp only [EL.len, EL.sz, EL.take, EL.drop, maxL, la, ln, lc, ld, lt, ls, lna]; with_reducible first | omega | exact rngI (by omega) | (and_intros <;> first | trivial | omega | exact rngI (by omega))) | (simp only [EL.len, EL.sz, EL.take, EL.drop, maxL, la, ln, lc, ld, lt, ls, lna] at *; with_reducible first | omega | exact rngI (by omega) | (and_intros <;> first | trivial | omega | exact rngI (by omega))))) | (refine End.mk ?_; exact hF) | refine End.mk ?_ | refine brT ?_ | refine brF ?_ | (refine brT' ?_ ?_; focus with_reducible assumption) | (refine brF' ?_ ?_; focus with_reducible assumption) | (refine Br.mk ?_ ?_ <;> (intro hb; have h := hb; (try simp only [decide_eq_true_eq, decide_eq_false_iff_not, Bool.not_eq_true', Bool.not_eq_false', Bool.not_eq_eq_eq_not, Bool.not_true, Bool.not_false, ge_iff_le, gt_iff_lt, Bool.and_eq_true, Bool.and_eq_false_iff, Bool.or_eq_true, Bool.or_eq_false_iff, beq_self_eq_true, not_true_eq_false, and_self, Bool.true_eq_false, Bool.false_eq_true, not_false_eq_true] at h); (try dsimp only [EL.len] at h); (try (exfalso; first | omega | exact bnF h (by with_reducible assumption) | exact bnT h (by with_reducible assumption))))) | (refine fun (y : Int) (h0 : 0 ≤ y) h1 => ?_)))); done))))); (conv => whnf); (refine fun (y : Int) (h0 : 0 ≤ y) h1 => ?_); replace hF := hF y h0 h1)); (conv at hF => whnf))); replace hF := end_r hF)) | (refine End.mk ?_; exact hF) | refine End.mk ?_ | refine brT ?_ | refine brF ?_ | (refine brT' ?_ ?_; focus with_reducible assumption) | (refine brF' ?_ ?_; focus with_reducible assumption) | (refine Br.mk ?_ ?_ <;> (intro hb; have h := hb; (try simp only [decide_eq_true_eq, decide_eq_false_iff_not, Bool.not_eq_true', Bool.not_eq_false', Bool.not_eq_eq_eq_not, Bool.not_true, Bool.not_false, ge_iff_le, gt_iff_lt, Bool.and_eq_true, Bool.and_eq_false_iff, Bool.or_eq_true, Bool.or_eq_false_iff, beq_self_eq_true, not_true_eq_false, and_self, Bool.true_eq_false, Bool.false_eq_true, not_false_eq_true] at h); (try dsimp only [EL.len] at h); (try (exfalso; first | omega | exact bnF h (by with_reducible assumption) | exact bnT h (by with_reducible assumption))))) | (refine fun (y : Int) (h0 : 0 ≤ y) h1 => ?_)))
    all_goals exact ⟨rfl, _, rfl⟩
  · rintro e w' ⟨u, x, hp', β', rfl, ⟨rfl, T1, rfl⟩, h7, hI', hL⟩
    obtain ⟨n, us, g1, g2, g3, g4⟩ := ent_b hI' (k := 3) rfl
    obtain ⟨r', us0, f1, f2, f3, f4⟩ := ent_b hI' (k := 0) rfl
    obtain ⟨m', us1, k1, k2, k3, k4⟩ := ent_b hI' (k := 1) rfl
    have e0 : β'[0]? = some (.b r) := hL.ext 0 (.b r) (by simp) rfl
    have e1 : β'[1]? = some (.b m) := hL.ext 1 (.b m) (by simp) rfl
    rw [e0] at f1
    obtain rfl : r = r' := by simpa using f1
    rw [e1] at k1
    obtain rfl : m = m' := by simpa using k1
    have hne0 := ent_ne hI' (i := 3) (k := 0) rfl rfl g1 e0 (by omega)
    have hne1 := ent_ne hI' (i := 3) (k := 1) rfl rfl g1 e1 (by omega)
    obtain ⟨x, y, z, rfl, x1, x2, x3⟩ := lc3 f4
    obtain ⟨x', y', z', rfl, y1, y2, y3⟩ := lc3 g4
    obtain ⟨x'', y'', z'', rfl, z1, z2, z3⟩ := lc3 k4
    rw [lcv x1, lcp x2 g1, lcv x3] at f3
    rw [lcv y1, lcv y2, lcv y3] at g3
    rw [lcv z1, lcv z2, lcp z3 g1] at k3
    obtain ⟨vs, rfl, hvs⟩ := h7
    have : vs = #[] := by cases hv : vs.toList with | nil => exact Array.toList_inj.1 hv | cons _ _ => rw [hv] at hvs; exact hvs.elim
    subst this
    refine ⟨rfl, n, ?_, f3, k3, g3, ?_⟩
    · rcases g2 with g2 | g2
      · exact g2
      · simp at g2; omega
    · exact hI'.kp.mono fun b _ hb => by simpa using hb

theorem lc2 {cx : Cx} {β : List En} {a b : LV} {us : Array Value} (h : LCs cx β [a, b] us.toList) : ∃ x y, us = #[x, y] ∧ LC cx β a x ∧ LC cx β b y := by
  cases hu : us.toList with
  | nil => rw [hu] at h; exact h.elim
  | cons x r =>
    rw [hu] at h
    match r, h with
    | [y], ⟨h1, h2, _⟩ => exact ⟨x, y, Array.toList_inj.1 hu, h1, h2⟩
theorem tkres {cx : Cx} {β : List En} {a b : Int} {t : Bool} {u : Value} (h : AC cx β (.t [.inr [.v (.int .i64 a), .v (.int .i64 b)], .inl (.v (.bool t))]) u) : u = .tuple #[.agg #[.int .i64 a, .int .i64 b], .bool t] := by
  obtain ⟨vs, rfl, h⟩ := h
  cases hv : vs.toList with
  | nil => rw [hv] at h; exact h.elim
  | cons x r =>
    rw [hv] at h
    match r, h with
    | [y], ⟨⟨us, e, h1⟩, h2, _⟩ =>
      obtain ⟨p, q, rfl, h3, h4⟩ := lc2 h1
      rw [lcv h3, lcv h4] at e
      have hy : y = .bool t := lcv h2
      rw [show vs = #[x, y] from Array.toList_inj.1 hv, e, hy]

def env_i_gotList_take : Env := []
theorem env_i_gotList_take_ok : EnvOk Tryd.prog env_i_gotList_take := envAll_ok trivial
def tr_i_gotList_take : Nat → Tr := fun n => match n with
  | _ => .nil
set_option maxRecDepth 100000 in
set_option maxHeartbeats 2000000 in
theorem gtake_nil0 (r : Nat) (w : World) (hb : w.heap[r]? = some (.cells #[.pointer none, .pointer none, .int .i64 0] 151 (0, 0))) :
    Calls Tryd.prog 79 #[.pointer (some ⟨r, 0, none⟩)] w fun e w' => e = .returned (.tuple #[.agg #[.int .i64 0, .int .i64 0], .bool false]) ∧ Tch (fun b => b = r) w w' := by
  have hI := inv1 (cs := [.v (.pointer none), .v (.pointer none), .v (.int .i64 0)]) hb ⟨⟨rfl, rfl⟩, ⟨rfl, rfl⟩, ⟨rfl, rfl⟩, trivial⟩
  refine Calls.mono (callN_spec (W0 := []) (TR := tr_i_gotList_take) (K := fun x hp => x = .t [.inr [.v (.int .i64 0), .v (.int .i64 0)], .inl (.v (.bool false))]) tab_ok mixed_ok ⟨env_i_gotList_take_ok, .inl rfl⟩ Tryd.func79 hI (xs := [.l (.p 0 0)]) ⟨⟨rfl, r, rfl, rfl⟩, trivial⟩ (by kernel_rfl) ?_) ?_
  · repeat' ((conv => whnf); (first | (refine Side.mk ?_ ?_; focus (first | omega | with_reducible assumption | kernel_rfl | exact rfl | (with_reducible first | omega | exact rngI (by omega) | (and_intros <;> first | trivial | omega | exact rngI (by omega))) | (dsimp only [EL.len]; with_reducible first | omega | exact rngI (by omega) | (and_intros <;> first | trivial | omega | exact rngI (by omega))) | with_reducible exact rngB (by omega) | with_reducible exact rngI ⟨by decide, by decide⟩ | exact ⟨rfl, trivial⟩ | exact ⟨rfl, rfl, trivial⟩ | exact ⟨⟨rfl, rfl, rfl, rfl⟩, trivial⟩ | (show (_ : Int) ≤ _ ∧ (_ : Int) ≤ _; omega) | (show (_ : Int) ≤ _; omega) | (simp only [EL.len, EL.sz, EL.take, EL.drop, maxL, la, ln, lc, ld, lt, ls, lna]; with_reducible first | omega | exact rngI (by omega) | (and_intros <;> first | trivial | omega | exact rngI (by omega))) | (simp only [EL.len, EL.sz, EL.take, EL.drop, maxL, la, ln, lc, ld, lt, ls, lna] at *; with_reducible first | omega | exact rngI (by omega) | (and_intros <;> first | trivial | omega | exact rngI (by omega))))) | (refine Fork.mk ?_ ?_; (intro K' hF; (conv at hF => whnf); (repeat ((first | (have hs := side_l hF; replace hF := side_r hF) | (replace hF := fork_r hF) | ((repeat ((conv => whnf); (first | (refine Side.mk ?_ ?_; focus (first | omega | with_reducible assumption | kernel_rfl | exact rfl | (with_reducible first | omega | exact rngI (by omega) | (and_intros <;> first | trivial | omega | exact rngI (by omega))) | (dsimp only [EL.len]; with_reducible first | omega | exact rngI (by omega) | (and_intros <;> first | trivial | omega | exact rngI (by omega))) | with_reducible exact rngB (by omega) | with_reducible exact rngI ⟨by decide, by decide⟩ | exact ⟨rfl, trivial⟩ | exact ⟨rfl, rfl, trivial⟩ | exact ⟨⟨rfl, rfl, rfl, rfl⟩, trivial⟩ | (show (_ : Int) ≤ _ ∧ (_ : Int) ≤ _; omega) | (show (_ : Int) ≤ _; omega) | (simp only [EL.len, EL.sz, EL.take, EL.drop, maxL, la, ln, lc, ld, lt, ls, lna]; with_reducible first | omega | exact rngI (by omega) | (and_intros <;> first | trivial | omega | exact rngI (by omega))) | (simp only [EL.len, EL.sz, EL.take, EL.drop, maxL, la, ln, lc, ld, lt, ls, lna] at *; with_reducible first | omega | exact rngI (by omega) | (and_intros <;> first | trivial | omega | exact rngI (by omega))))) | (refine Fork.mk ?_ ?_; focus (intro K' hF; (conv at hF => whnf); (repeat ((first | (have hs := side_l hF; replace hF := side_r hF) | (replace hF := fork_r hF) | ((repeat ((conv => whnf); (refine Side.mk ?_ ?_; focus (first | omega | with_reducible assumption | kernel_rfl | exact rfl | (with_reducible first | omega | exact rngI (by omega) | (and_intros <;> first | trivial | omega | exact rngI (by omega))) | (dsimp only [EL.len]; with_reducible first | omega | exact rngI (by omega) | (and_intros <;> first | trivial | omega | exact rngI (by omega))) | with_reducible exact rngB (by omega) | with_reducible exact rngI ⟨by decide, by decide⟩ | exact ⟨rfl, trivial⟩ | exact ⟨rfl, rfl, trivial⟩ | exact ⟨⟨rfl, rfl, rfl, rfl⟩, trivial⟩ | (show (_ : Int) ≤ _ ∧ (_ : Int) ≤ _; omega) | (show (_ : Int) ≤ _; omega) | (simp only [EL.len, EL.sz, EL.take, EL.drop, maxL, la, ln, lc, ld, lt, ls, lna]; with_reducible first | omega | exact rngI (by omega) | (and_intros <;> first | trivial | omega | exact rngI (by omega))) | (simp only [EL.len, EL.sz, EL.take, EL.drop, maxL, la, ln, lc, ld, lt, ls, lna] at *; with_reducible first | omega | exact rngI (by omega) | (and_intros <;> first | trivial | omega | exact rngI (by omega))))))); (conv => whnf); (refine fun (y : Int) (h0 : 0 ≤ y) h1 => ?_); replace hF := hF y h0 h1)); (conv at hF => whnf))); replace hF := end_r hF; (repeat' ((conv => whnf); (first | (refine Side.mk ?_ ?_; focus (first | omega | with_reducible assumption | kernel_rfl | exact rfl | (with_reducible first | omega | exact rngI (by omega) | (and_intros <;> first | trivial | omega | exact rngI (by omega))) | (dsimp only [EL.len]; with_reducible first | omega | exact rngI (by omega) | (and_intros <;> first | trivial | omega | exact rngI (by omega))) | with_reducible exact rngB (by omega) | with_reducible exact rngI ⟨by decide, by decide⟩ | exact ⟨rfl, trivial⟩ | exact ⟨rfl, rfl, trivial⟩ | exact ⟨⟨rfl, rfl, rfl, rfl⟩, trivial⟩ | (show (_ : Int) ≤ _ ∧ (_ : Int) ≤ _; omega) | (show (_ : Int) ≤ _; omega) | (simp only [EL.len, EL.sz, EL.take, EL.drop, maxL, la, ln, lc, ld, lt, ls, lna]; with_reducible first | omega | exact rngI (by omega) | (and_intros <;> first | trivial | omega | exact rngI (by omega))) | (simp only [EL.len, EL.sz, EL.take, EL.drop, maxL, la, ln, lc, ld, lt, ls, lna] at *; with_reducible first | omega | exact rngI (by omega) | (and_intros <;> first | trivial | omega | exact rngI (by omega))))) | (refine End.mk ?_; exact hF) | refine End.mk ?_ | refine brT ?_ | refine brF ?_ | (refine brT' ?_ ?_; focus with_reducible assumption) | (refine brF' ?_ ?_; focus with_reducible assumption) | (refine Br.mk ?_ ?_ <;> (intro hb; have h := hb; (try simp only [decide_eq_true_eq, decide_eq_false_iff_not, Bool.not_eq_true', Bool.not_eq_false', Bool.not_eq_eq_eq_not, Bool.not_true, Bool.not_false, ge_iff_le, gt_iff_lt, Bool.and_eq_true, Bool.and_eq_false_iff, Bool.or_eq_true, Bool.or_eq_false_iff, beq_self_eq_true, not_true_eq_false, and_self, Bool.true_eq_false, Bool.false_eq_true, not_false_eq_true] at h); (try dsimp only [EL.len] at h); (try (exfalso; first | omega | exact bnF h (by with_reducible assumption) | exact bnT h (by with_reducible assumption))))) | (refine fun (y : Int) (h0 : 0 ≤ y) h1 => ?_)))); done))))); (conv => whnf); (refine fun (y : Int) (h0 : 0 ≤ y) h1 => ?_); replace hF := hF y h0 h1)); (conv at hF => whnf))); replace hF := end_r hF)) | (refine End.mk ?_; exact hF) | refine End.mk ?_ | refine brT ?_ | refine brF ?_ | (refine brT' ?_ ?_; focus with_reducible assumption) | (refine brF' ?_ ?_; focus with_reducible assumption) | (refine Br.mk ?_ ?_ <;> (intro hb; have h := hb; (try simp only [decide_eq_true_eq, decide_eq_false_iff_not, Bool.not_eq_true', Bool.not_eq_false', Bool.not_eq_eq_eq_not, Bool.not_true, Bool.not_false, ge_iff_le, gt_iff_lt, Bool.and_eq_true, Bool.and_eq_false_iff, Bool.or_eq_true, Bool.or_eq_false_iff, beq_self_eq_true, not_true_eq_false, and_self, Bool.true_eq_false, Bool.false_eq_true, not_false_eq_true] at h); (try dsimp only [EL.len] at h); (try (exfalso; first | omega | exact bnF h (by with_reducible assumption) | exact bnT h (by with_reducible assumption))))) | (refine fun (y : Int) (h0 : 0 ≤ y) h1 => ?_)))
    all_goals exact rfl
  · rintro e w' ⟨u, x, hp', β', rfl, rfl, h7, hI', hL⟩
    exact ⟨by rw [tkres h7], hI'.kp.mono fun b _ hb => by simpa using hb⟩

set_option maxRecDepth 100000 in
set_option maxHeartbeats 2000000 in
theorem gtake_one (r m : Nat) (c : Nat) (a b : Int) (w : World) (hne : r ≠ m) (hc : c ≤ 1099511627776) (hb : w.heap[r]? = some (.cells #[.pointer (some ⟨m, 0, none⟩), .pointer (some ⟨m, 0, none⟩), .int .i64 ((c : Int) + 1)] 151 (0, 0))) (hm : w.heap[m]? = some (.cells #[.int .i64 a, .int .i64 b, .pointer none] 154 (0, 0))) :
    Calls Tryd.prog 79 #[.pointer (some ⟨r, 0, none⟩)] w fun e w' => e = .returned (.tuple #[.agg #[.int .i64 a, .int .i64 b], .bool true]) ∧ w'.heap[r]? = some (.cells #[.pointer none, .pointer none, .int .i64 ((c : Int) + 1 - 1)] 151 (0, 0)) ∧ (∀ q, q < w.heap.size → q ≠ r → q ≠ m → w'.heap[q]? = w.heap[q]?) ∧ Tch (fun b => b = r ∨ b = m) w w' := by
  have hI := inv2 (cs := [.p 1 0, .p 1 0, .v (.int .i64 ((c : Int) + 1))]) (ds := [.v (.int .i64 a), .v (.int .i64 b), .v (.pointer none)]) hne hb hm ⟨⟨rfl, m, rfl, rfl⟩, ⟨rfl, m, rfl, rfl⟩, ⟨rfl, rfl⟩, trivial⟩ ⟨⟨rfl, rfl⟩, ⟨rfl, rfl⟩, ⟨rfl, rfl⟩, trivial⟩
  refine Calls.mono (callN_spec (W0 := []) (TR := tr_i_gotList_take) (K := fun x hp => x = .t [.inr [.v (.int .i64 a), .v (.int .i64 b)], .inl (.v (.bool true))] ∧ hp[0]? = some (.b [.v (.pointer none), .v (.pointer none), .v (.int .i64 ((c : Int) + 1 - 1))] 151)) tab_ok mixed_ok ⟨env_i_gotList_take_ok, .inl rfl⟩ Tryd.func79 hI (xs := [.l (.p 0 0)]) ⟨⟨rfl, r, rfl, rfl⟩, trivial⟩ (by kernel_rfl) ?_) ?_
  · repeat' ((conv => whnf); (first | (refine Side.mk ?_ ?_; focus (first | omega | with_reducible assumption | kernel_rfl | exact rfl | (with_reducible first | omega | exact rngI (by omega) | (and_intros <;> first | trivial | omega | exact rngI (by omega))) | (dsimp only [EL.len]; with_reducible first | omega | exact rngI (by omega) | (and_intros <;> first | trivial | omega | exact rngI (by omega))) | with_reducible exact rngB (by omega) | with_reducible exact rngI ⟨by decide, by decide⟩ | exact ⟨rfl, trivial⟩ | exact ⟨rfl, rfl, trivial⟩ | exact ⟨⟨rfl, rfl, rfl, rfl⟩, trivial⟩ | (show (_ : Int) ≤ _ ∧ (_ : Int) ≤ _; omega) | (show (_ : Int) ≤ _; omega) | (simp only [EL.len, EL.sz, EL.take, EL.drop, maxL, la, ln, lc, ld, lt, ls, lna]; with_reducible first | omega | exact rngI (by omega) | (and_intros <;> first | trivial | omega | exact rngI (by omega))) | (simp only [EL.len, EL.sz, EL.take, EL.drop, maxL, la, ln, lc, ld, lt, ls, lna] at *; with_reducible first | omega | exact rngI (by omega) | (and_intros <;> first | trivial | omega | exact rngI (by omega))))) | (refine Fork.mk ?_ ?_; (intro K' hF; (conv at hF => whnf); (repeat ((first | (have hs := side_l hF; replace hF := side_r hF) | (replace hF := fork_r hF) | ((repeat ((conv => whnf); (first | (refine Side.mk ?_ ?_; focus (first | omega | with_reducible assumption | kernel_rfl | exact rfl | (with_reducible first | omega | exact rngI (by omega) | (and_intros <;> first | trivial | omega | exact rngI (by omega))) | (dsimp only [EL.len]; with_reducible first | omega | exact rngI (by omega) | (and_intros <;> first | trivial | omega | exact rngI (by omega))) | with_reducible exact rngB (by omega) | with_reducible exact rngI ⟨by decide, by decide⟩ | exact ⟨rfl, trivial⟩ | exact ⟨rfl, rfl, trivial⟩ | exact ⟨⟨rfl, rfl, rfl, rfl⟩, trivial⟩ | (show (_ : Int) ≤ _ ∧ (_ : Int) ≤ _; omega) | (show (_ : Int) ≤ _; omega) | (simp only [EL.len, EL.sz, EL.take, EL.drop, maxL, la, ln, lc, ld, lt, ls, lna]; with_reducible first | omega | exact rngI (by omega) | (and_intros <;> first | trivial | omega | exact rngI (by omega))) | (simp only [EL.len, EL.sz, EL.take, EL.drop, maxL, la, ln, lc, ld, lt, ls, lna] at *; with_reducible first | omega | exact rngI (by omega) | (and_intros <;> first | trivial | omega | exact rngI (by omega))))) | (refine Fork.mk ?_ ?_; focus (intro K' hF; (conv at hF => whnf); (repeat ((first | (have hs := side_l hF; replace hF := side_r hF) | (replace hF := fork_r hF) | ((repeat ((conv => whnf); (refine Side.mk ?_ ?_; focus (first | omega | with_reducible assumption | kernel_rfl | exact rfl | (with_reducible first | omega | exact rngI (by omega) | (and_intros <;> first | trivial | omega | exact rngI (by omega))) | (dsimp only [EL.len]; with_reducible first | omega | exact rngI (by omega) | (and_intros <;> first | trivial | omega | exact rngI (by omega))) | with_reducible exact rngB (by omega) | with_reducible exact rngI ⟨by decide, by decide⟩ | exact ⟨rfl, trivial⟩ | exact ⟨rfl, rfl, trivial⟩ | exact ⟨⟨rfl, rfl, rfl, rfl⟩, trivial⟩ | (show (_ : Int) ≤ _ ∧ (_ : Int) ≤ _; omega) | (show (_ : Int) ≤ _; omega) | (simp only [EL.len, EL.sz, EL.take, EL.drop, maxL, la, ln, lc, ld, lt, ls, lna]; with_reducible first | omega | exact rngI (by omega) | (and_intros <;> first | trivial | omega | exact rngI (by omega))) | (simp only [EL.len, EL.sz, EL.take, EL.drop, maxL, la, ln, lc, ld, lt, ls, lna] at *; with_reducible first | omega | exact rngI (by omega) | (and_intros <;> first | trivial | omega | exact rngI (by omega))))))); (conv => whnf); (refine fun (y : Int) (h0 : 0 ≤ y) h1 => ?_); replace hF := hF y h0 h1)); (conv at hF => whnf))); replace hF := end_r hF; (repeat' ((conv => whnf); (first | (refine Side.mk ?_ ?_; focus (first | omega | with_reducible assumption | kernel_rfl | exact rfl | (with_reducible first | omega | exact rngI (by omega) | (and_intros <;> first | trivial | omega | exact rngI (by omega))) | (dsimp only [EL.len]; with_reducible first | omega | exact rngI (by omega) | (and_intros <;> first | trivial | omega | exact rngI (by omega))) | with_reducible exact rngB (by omega) | with_reducible exact rngI ⟨by decide, by decide⟩ | exact ⟨rfl, trivial⟩ | exact ⟨rfl, rfl, trivial⟩ | exact ⟨⟨rfl, rfl, rfl, rfl⟩, trivial⟩ | (show (_ : Int) ≤ _ ∧ (_ : Int) ≤ _; omega) | (show (_ : Int) ≤ _; omega) | (simp only [EL.len, EL.sz, EL.take, EL.drop, maxL, la, ln, lc, ld, lt, ls, lna]; with_reducible first | omega | exact rngI (by omega) | (and_intros <;> first | trivial | omega | exact rngI (by omega))) | (simp only [EL.len, EL.sz, EL.take, EL.drop, maxL, la, ln, lc, ld, lt, ls, lna] at *; with_reducible first | omega | exact rngI (by omega) | (and_intros <;> first | trivial | omega | exact rngI (by omega))))) | (refine End.mk ?_; exact hF) | refine End.mk ?_ | refine brT ?_ | refine brF ?_ | (refine brT' ?_ ?_; focus with_reducible assumption) | (refine brF' ?_ ?_; focus with_reducible assumption) | (refine Br.mk ?_ ?_ <;> (intro hb; have h := hb; (try simp only [decide_eq_true_eq, decide_eq_false_iff_not, Bool.not_eq_true', Bool.not_eq_false', Bool.not_eq_eq_eq_not, Bool.not_true, Bool.not_false, ge_iff_le, gt_iff_lt, Bool.and_eq_true, Bool.and_eq_false_iff, Bool.or_eq_true, Bool.or_eq_false_iff, beq_self_eq_true, not_true_eq_false, and_self, Bool.true_eq_false, Bool.false_eq_true, not_false_eq_true] at h); (try dsimp only [EL.len] at h); (try (exfalso; first | omega | exact bnF h (by with_reducible assumption) | exact bnT h (by with_reducible assumption))))) | (refine fun (y : Int) (h0 : 0 ≤ y) h1 => ?_)))); done))))); (conv => whnf); (refine fun (y : Int) (h0 : 0 ≤ y) h1 => ?_); replace hF := hF y h0 h1)); (conv at hF => whnf))); replace hF := end_r hF)) | (refine End.mk ?_; exact hF) | refine End.mk ?_ | refine brT ?_ | refine brF ?_ | (refine brT' ?_ ?_; focus with_reducible assumption) | (refine brF' ?_ ?_; focus with_reducible assumption) | (refine Br.mk ?_ ?_ <;> (intro hb; have h := hb; (try simp only [decide_eq_true_eq, decide_eq_false_iff_not, Bool.not_eq_true', Bool.not_eq_false', Bool.not_eq_eq_eq_not, Bool.not_true, Bool.not_false, ge_iff_le, gt_iff_lt, Bool.and_eq_true, Bool.and_eq_false_iff, Bool.or_eq_true, Bool.or_eq_false_iff, beq_self_eq_true, not_true_eq_false, and_self, Bool.true_eq_false, Bool.false_eq_true, not_false_eq_true] at h); (try dsimp only [EL.len] at h); (try (exfalso; first | omega | exact bnF h (by with_reducible assumption) | exact bnT h (by with_reducible assumption))))) | (refine fun (y : Int) (h0 : 0 ≤ y) h1 => ?_)))
    all_goals exact ⟨rfl, rfl⟩
  · rintro e w' ⟨u, x, hp', β', rfl, ⟨rfl, h0⟩, h7, hI', hL⟩
    obtain ⟨r', us0, f1, f2, f3, f4⟩ := ent_b hI' (k := 0) h0
    have e0 : β'[0]? = some (.b r) := hL.ext 0 (.b r) (by simp) rfl
    rw [e0] at f1
    obtain rfl : r = r' := by simpa using f1
    obtain ⟨x, y, z, rfl, x1, x2, x3⟩ := lc3 f4
    rw [lcv x1, lcv x2, lcv x3] at f3
    exact ⟨by rw [tkres h7], f3, fun q hq h1 h2 => hI'.kp.block q hq (by simp [h1, h2]), hI'.kp.mono fun b _ hb => by simpa using hb⟩
set_option maxRecDepth 100000 in
set_option maxHeartbeats 2000000 in
theorem gtake_more (r m n2 : Nat) (last : Value) (c : Nat) (a b : Int) (w : World) (hne : r ≠ m) (hlast : last.oneCell' = true) (hc : c ≤ 1099511627776) (hb : w.heap[r]? = some (.cells #[.pointer (some ⟨m, 0, none⟩), last, .int .i64 ((c : Int) + 1)] 151 (0, 0))) (hm : w.heap[m]? = some (.cells #[.int .i64 a, .int .i64 b, .pointer (some ⟨n2, 0, none⟩)] 154 (0, 0))) :
    Calls Tryd.prog 79 #[.pointer (some ⟨r, 0, none⟩)] w fun e w' => e = .returned (.tuple #[.agg #[.int .i64 a, .int .i64 b], .bool true]) ∧ w'.heap[r]? = some (.cells #[.pointer (some ⟨n2, 0, none⟩), last, .int .i64 ((c : Int) + 1 - 1)] 151 (0, 0)) ∧ (∀ q, q < w.heap.size → q ≠ r → q ≠ m → w'.heap[q]? = w.heap[q]?) ∧ Tch (fun b => b = r ∨ b = m) w w' := by
  have hI := inv2 (cs := [.p 1 0, .v last, .v (.int .i64 ((c : Int) + 1))]) (ds := [.v (.int .i64 a), .v (.int .i64 b), .v (.pointer (some ⟨n2, 0, none⟩))]) hne hb hm ⟨⟨rfl, m, rfl, rfl⟩, ⟨hlast, rfl⟩, ⟨rfl, rfl⟩, trivial⟩ ⟨⟨rfl, rfl⟩, ⟨rfl, rfl⟩, ⟨rfl, rfl⟩, trivial⟩
  refine Calls.mono (callN_spec (W0 := []) (TR := tr_i_gotList_take) (K := fun x hp => x = .t [.inr [.v (.int .i64 a), .v (.int .i64 b)], .inl (.v (.bool true))] ∧ hp[0]? = some (.b [.v (.pointer (some ⟨n2, 0, none⟩)), .v last, .v (.int .i64 ((c : Int) + 1 - 1))] 151)) tab_ok mixed_ok ⟨env_i_gotList_take_ok, .inl rfl⟩ Tryd.func79 hI (xs := [.l (.p 0 0)]) ⟨⟨rfl, r, rfl, rfl⟩, trivial⟩ (by kernel_rfl) ?_) ?_
  · repeat' ((conv => whnf); (first | (refine Side.mk ?_ ?_; focus (first | omega | with_reducible assumption | kernel_rfl | exact rfl | (with_reducible first | omega | exact rngI (by omega) | (and_intros <;> first | trivial | omega | exact rngI (by omega))) | (dsimp only [EL.len]; with_reducible first | omega | exact rngI (by omega) | (and_intros <;> first | trivial | omega | exact rngI (by omega))) | with_reducible exact rngB (by omega) | with_reducible exact rngI ⟨by decide, by decide⟩ | exact ⟨rfl, trivial⟩ | exact ⟨rfl, rfl, trivial⟩ | exact ⟨⟨rfl, rfl, rfl, rfl⟩, trivial⟩ | (show (_ : Int) ≤ _ ∧ (_ : Int) ≤ _; omega) | (show (_ : Int) ≤ _; omega) | (simp only [EL.len, EL.sz, EL.take, EL.drop, maxL, la, ln, lc, ld, lt, ls, lna]; with_reducible first | omega | exact rngI (by omega) | (and_intros <;> first | trivial | omega | exact rngI (by omega))) | (simp only [EL.len, EL.sz, EL.take, EL.drop, maxL, la, ln, lc, ld, lt, ls, lna] at *; with_reducible first | omega | exact rngI (by omega) | (and_intros <;> first | trivial | omega | exact rngI (by omega))))) | (refine Fork.mk ?_ ?_; (intro K' hF; (conv at hF => whnf); (repeat ((first | (have hs := side_l hF; replace hF := side_r hF) | (replace hF := fork_r hF) | ((repeat ((conv => whnf); (first | (refine Side.mk ?_ ?_; focus (first | omega | with_reducible assumption | kernel_rfl | exact rfl | (with_reducible first | omega | exact rngI (by omega) | (and_intros <;> first | trivial | omega | exact rngI (by omega))) | (dsimp only [EL.len]; with_reducible first | omega | exact rngI (by omega) | (and_intros <;> first | trivial | omega | exact rngI (by omega))) | with_reducible exact rngB (by omega) | with_reducible exact rngI ⟨by decide, by decide⟩ | exact ⟨rfl, trivial⟩ | exact ⟨rfl, rfl, trivial⟩ | exact ⟨⟨rfl, rfl, rfl, rfl⟩, trivial⟩ | (show (_ : Int) ≤ _ ∧ (_ : Int) ≤ _; omega) | (show (_ : Int) ≤ _; omega) | (simp only [EL.len, EL.sz, EL.take, EL.drop, maxL, la, ln, lc, ld, lt, ls, lna]; with_reducible first | omega | exact rngI (by omega) | (and_intros <;> first | trivial | omega | exact rngI (by omega))) | (simp only [EL.len, EL.sz, EL.take, EL.drop, maxL, la, ln, lc, ld, lt, ls, lna] at *; with_reducible first | omega | exact rngI (by omega) | (and_intros <;> first | trivial | omega | exact rngI (by omega))))) | (refine Fork.mk ?_ ?_; focus (intro K' hF; (conv at hF => whnf); (repeat ((first | (have hs := side_l hF; replace hF := side_r hF) | (replace hF := fork_r hF) | ((repeat ((conv => whnf); (refine Side.mk ?_ ?_; focus (first | omega | with_reducible assumption | kernel_rfl | exact rfl | (with_reducible first | omega | exact rngI (by omega) | (and_intros <;> first | trivial | omega | exact rngI (by omega))) | (dsimp only [EL.len]; with_reducible first | omega | exact rngI (by omega) | (and_intros <;> first | trivial | omega | exact rngI (by omega))) | with_reducible exact rngB (by omega) | with_reducible exact rngI ⟨by decide, by decide⟩ | exact ⟨rfl, trivial⟩ | exact ⟨rfl, rfl, trivial⟩ | exact ⟨⟨rfl, rfl, rfl, rfl⟩, trivial⟩ | (show (_ : Int) ≤ _ ∧ (_ : Int) ≤ _; omega) | (show (_ : Int) ≤ _; omega) | (simp only [EL.len, EL.sz, EL.take, EL.drop, maxL, la, ln, lc, ld, lt, ls, lna]; with_reducible first | omega | exact rngI (by omega) | (and_intros <;> first | trivial | omega | exact rngI (by omega))) | (simp only [EL.len, EL.sz, EL.take, EL.drop, maxL, la, ln, lc, ld, lt, ls, lna] at *; with_reducible first | omega | exact rngI (by omega) | (and_intros <;> first | trivial | omega | exact rngI (by omega))))))); (conv => whnf); (refine fun (y : Int) (h0 : 0 ≤ y) h1 => ?_); replace hF := hF y h0 h1)); (conv at hF => whnf))); replace hF := end_r hF; (repeat' ((conv => whnf); (first | (refine Side.mk ?_ ?_; focus (first | omega | with_reducible assumption | kernel_rfl | exact rfl | (with_reducible first | omega | exact rngI (by omega) | (and_intros <;> first | trivial | omega | exact rngI (by omega))) | (dsimp only [EL.len]; with_reducible first | omega | exact rngI (by omega) | (and_intros <;> first | trivial | omega | exact rngI (by omega))) | with_reducible exact rngB (by omega) | with_reducible exact rngI ⟨by decide, by decide⟩ | exact ⟨rfl, trivial⟩ | exact ⟨rfl, rfl, trivial⟩ | exact ⟨⟨rfl, rfl, rfl, rfl⟩, trivial⟩ | (show (_ : Int) ≤ _ ∧ (_ : Int) ≤ _; omega) | (show (_ : Int) ≤ _; omega) | (simp only [EL.len, EL.sz, EL.take, EL.drop, maxL, la, ln, lc, ld, lt, ls, lna]; with_reducible first | omega | exact rngI (by omega) | (and_intros <;> first | trivial | omega | exact rngI (by omega))) | (simp only [EL.len, EL.sz, EL.take, EL.drop, maxL, la, ln, lc, ld, lt, ls, lna] at *; with_reducible first | omega | exact rngI (by omega) | (and_intros <;> first | trivial | omega | exact rngI (by omega))))) | (refine End.mk ?_; exact hF) | refine End.mk ?_ | refine brT ?_ | refine brF ?_ | (refine brT' ?_ ?_; focus with_reducible assumption) | (refine brF' ?_ ?_; focus with_reducible assumption) | (refine Br.mk ?_ ?_ <;> (intro hb; have h := hb; (try simp only [decide_eq_true_eq, decide_eq_false_iff_not, Bool.not_eq_true', Bool.not_eq_false', Bool.not_eq_eq_eq_not, Bool.not_true, Bool.not_false, ge_iff_le, gt_iff_lt, Bool.and_eq_true, Bool.and_eq_false_iff, Bool.or_eq_true, Bool.or_eq_false_iff, beq_self_eq_true, not_true_eq_false, and_self, Bool.true_eq_false, Bool.false_eq_true, not_false_eq_true] at h); (try dsimp only [EL.len] at h); (try (exfalso; first | omega | exact bnF h (by with_reducible assumption) | exact bnT h (by with_reducible assumption))))) | (refine fun (y : Int) (h0 : 0 ≤ y) h1 => ?_)))); done))))); (conv => whnf); (refine fun (y : Int) (h0 : 0 ≤ y) h1 => ?_); replace hF := hF y h0 h1)); (conv at hF => whnf))); replace hF := end_r hF)) | (refine End.mk ?_; exact hF) | refine End.mk ?_ | refine brT ?_ | refine brF ?_ | (refine brT' ?_ ?_; focus with_reducible assumption) | (refine brF' ?_ ?_; focus with_reducible assumption) | (refine Br.mk ?_ ?_ <;> (intro hb; have h := hb; (try simp only [decide_eq_true_eq, decide_eq_false_iff_not, Bool.not_eq_true', Bool.not_eq_false', Bool.not_eq_eq_eq_not, Bool.not_true, Bool.not_false, ge_iff_le, gt_iff_lt, Bool.and_eq_true, Bool.and_eq_false_iff, Bool.or_eq_true, Bool.or_eq_false_iff, beq_self_eq_true, not_true_eq_false, and_self, Bool.true_eq_false, Bool.false_eq_true, not_false_eq_true] at h); (try dsimp only [EL.len] at h); (try (exfalso; first | omega | exact bnF h (by with_reducible assumption) | exact bnT h (by with_reducible assumption))))) | (refine fun (y : Int) (h0 : 0 ≤ y) h1 => ?_)))
    all_goals exact ⟨rfl, rfl⟩
  · rintro e w' ⟨u, x, hp', β', rfl, ⟨rfl, h0⟩, h7, hI', hL⟩
    obtain ⟨r', us0, f1, f2, f3, f4⟩ := ent_b hI' (k := 0) h0
    have e0 : β'[0]? = some (.b r) := hL.ext 0 (.b r) (by simp) rfl
    rw [e0] at f1
    obtain rfl : r = r' := by simpa using f1
    obtain ⟨x, y, z, rfl, x1, x2, x3⟩ := lc3 f4
    rw [lcv x1, lcv x2, lcv x3] at f3
    exact ⟨by rw [tkres h7], f3, fun q hq h1 h2 => hI'.kp.block q hq (by simp [h1, h2]), hI'.kp.mono fun b _ hb => by simpa using hb⟩

theorem below_tch {B : Nat} {w w' : World} {S : Nat → Prop} (h : Tch S w w') (hB : B ≤ w.heap.size) (hS : ∀ b, S b → B ≤ b) : Below B w w' :=
  ⟨h.os, h.tape, h.output, h.size, fun k hk => h.block k (by omega) fun e => by have := hS k e; omega⟩

theorem gput_any (r B : Nat) (l : List (Int × Int)) (g : Int × Int) (w : World) (h : GL w B r l) (hB : B ≤ w.heap.size) (hl : l.length ≤ 1099511627776) :
    Calls Tryd.prog 100 #[.pointer (some ⟨r, 0, none⟩), .agg #[.int .i64 g.1, .int .i64 g.2]] w fun e w' => e = .returned (.tuple #[]) ∧ GL w' B r (l ++ [g]) ∧ Below B w w' := by
  obtain ⟨ns, hb, hc, hd, hn, hr⟩ := h
  have hrl := (Array.getElem?_eq_some_iff.1 hb).1
  rcases List.eq_nil_or_concat ns with rfl | ⟨is, m, e⟩
  · have : l = [] := by have := hc.len; exact List.eq_nil_of_length_eq_zero this.symm
    subst this
    refine Calls.mono (gput_nil r g w hb) ?_
    rintro e w' ⟨rfl, n, h1, h2, h3, h4⟩
    exact ⟨rfl, ⟨[n], by simpa [nodeP] using h2, ⟨by simpa [nodeP] using h3, trivial⟩, by simp, by simp; omega, hr⟩, below_tch h4 hB (by rintro b rfl; exact hr)⟩
  · rw [List.concat_eq_append] at e
    subst e
    obtain ⟨a, b, hm⟩ := hc.last
    have hmr : m ≠ r := (hn m (by simp)).2
    have hmB : B ≤ m := (hn m (by simp)).1
    have hlast : (is ++ [m]).getLast? = some m := by simp
    rw [hlast] at hb
    have hlt := hc.lt
    refine Calls.mono (gput_cons r m _ l.length a b g w (Ne.symm hmr) (by unfold nodeP; cases (is ++ [m]).head? <;> rfl) hl hb hm) ?_
    rintro e w' ⟨rfl, n, h1, h2, h3, h4, h5⟩
    rw [List.nodup_append] at hd
    refine ⟨rfl, ⟨is ++ [m, n], ?_, Chain.snoc h4 (fun a' b' hab => ?_) hc (fun b hb => ?_), ?_, ?_, hr⟩, below_tch h5 hB (by rintro b (rfl | rfl) <;> assumption)⟩
    · have e1 : (is ++ [m, n]).head? = (is ++ [m]).head? := by cases is <;> rfl
      have e2 : (is ++ [m, n]).getLast? = some n := by simp
      rw [e1, e2]
      simpa [nodeP] using h2
    · rw [hm] at hab
      simp only [Option.some.injEq, Obj.cells.injEq, and_true] at hab
      have := congrArg Array.toList hab
      simp only [List.cons.injEq, Value.int.injEq, true_and, and_true] at this
      rw [← this.1, ← this.2]
      exact h3
    · have h6 : b ≠ m := hd.2.2 b hb m (by simp)
      exact h5.block b (hlt b (by simp [hb])) (by rintro (e | e); exact (hn b (by simp [hb])).2 e; exact h6 e)
    · rw [List.nodup_append]
      refine ⟨hd.1, ?_, ?_⟩
      · have := hlt m (by simp)
        simp; omega
      · intro x hx y hy
        have h6 : x ≠ m := hd.2.2 x hx m (by simp)
        have := hlt x (by simp [hx])
        simp at hy
        rcases hy with rfl | rfl
        · exact h6
        · omega
    · intro x hx
      simp at hx
      rcases hx with hx | rfl | rfl
      · exact hn x (by simp [hx])
      · exact ⟨hmB, hmr⟩
      · exact ⟨by omega, by omega⟩

theorem gtake_nil (r B : Nat) (w : World) (h : GL w B r []) (hB : B ≤ w.heap.size) :
    Calls Tryd.prog 79 #[.pointer (some ⟨r, 0, none⟩)] w fun e w' => e = .returned (.tuple #[.agg #[.int .i64 0, .int .i64 0], .bool false]) ∧ Below B w w' := by
  obtain ⟨ns, hb, hc, hd, hn, hr⟩ := h
  have : ns = [] := List.eq_nil_of_length_eq_zero hc.len
  subst this
  refine Calls.mono (gtake_nil0 r w hb) ?_
  rintro e w' ⟨rfl, h⟩
  exact ⟨rfl, below_tch h hB (by rintro b rfl; exact hr)⟩
theorem gtake_cons (r B : Nat) (g : Int × Int) (l : List (Int × Int)) (w : World) (h : GL w B r (g :: l)) (hB : B ≤ w.heap.size) (hl : l.length ≤ 1099511627776) :
    Calls Tryd.prog 79 #[.pointer (some ⟨r, 0, none⟩)] w fun e w' => e = .returned (.tuple #[.agg #[.int .i64 g.1, .int .i64 g.2], .bool true]) ∧ GL w' B r l ∧ Below B w w' := by
  obtain ⟨ns, hb, hc, hd, hn, hr⟩ := h
  match ns, hc with
  | n :: ns, hc =>
    have hmr : n ≠ r := (hn n (by simp)).2
    have hmB : B ≤ n := (hn n (by simp)).1
    have hlt := hc.lt
    have hcl : (((g :: l).length : Nat) : Int) = (l.length : Int) + 1 := by simp
    have hcl2 : (l.length : Int) + 1 - 1 = (l.length : Int) := by omega
    rw [hcl] at hb
    match ns, l, hc with
    | [], [], hc =>
      refine Calls.mono (gtake_one r n 0 g.1 g.2 w (Ne.symm hmr) (by omega) hb hc.1) ?_
      rintro e w' ⟨rfl, h1, h2, h3⟩
      exact ⟨rfl, ⟨[], by simpa [nodeP] using h1, trivial, by simp, by simp, hr⟩, below_tch h3 hB (by rintro b (rfl | rfl) <;> assumption)⟩
    | [], _ :: _, hc => exact hc.2.elim
    | n2 :: ns, l, hc =>
      refine Calls.mono (gtake_more r n n2 _ l.length g.1 g.2 w (Ne.symm hmr) (by unfold nodeP; cases (n :: n2 :: ns).getLast? <;> rfl) hl hb hc.1) ?_
      rintro e w' ⟨rfl, h1, h2, h3⟩
      rw [hcl2] at h1
      refine ⟨rfl, ⟨n2 :: ns, ?_, hc.2.keep fun b hbn => ?_, (List.nodup_cons.1 hd).2, fun x hx => hn x (by simp [hx]), hr⟩, below_tch h3 hB (by rintro b (rfl | rfl) <;> assumption)⟩
      · rw [List.getLast?_cons_cons] at h1
        exact h1
      · refine h2 b (hlt b (by simp [hbn])) (hn b (by simp [hbn])).2 ?_
        rintro rfl
        exact (List.nodup_cons.1 hd).1 hbn

def OwnG (w : World) (base : Nat) (v : Value) (l : List (Int × Int)) : Prop := w.ownsRow base 78 2 v l.length (Ab.EL.gots l).enc
theorem OwnG.form {w : World} {base : Nat} {v : Value} {l : List (Int × Int)} (h : OwnG w base v l) : ∃ a c, v = .slice a l.length c := by
  obtain ⟨_, h | ⟨g, cap, cur, h, _⟩⟩ := h
  · exact ⟨none, 0, by rw [h.1, h.2]⟩
  · exact ⟨_, _, h⟩
theorem infoGot : (Tryd.prog.info? 78).map (fun i => (i.zero, i.size, i.bytes)) = some (some (.agg #[.int .i64 0, .int .i64 0]), 2, 16) := by kernel_rfl
theorem Chain.at {w : World} : ∀ {ns : List Nat} {l : List (Int × Int)} {k : Nat}, Chain w ns l → k < l.length → ∃ n, (ns.drop k).head? = some n ∧ n ∈ ns ∧ w.heap[n]? = some (.cells #[.int .i64 (l.getD k (0, 0)).1, .int .i64 (l.getD k (0, 0)).2, nodeP (ns.drop (k + 1)).head?] 154 (0, 0))
  | n :: ns, g :: l, 0, h, _ => ⟨n, rfl, by simp, by simpa using h.1⟩
  | n :: ns, g :: l, k + 1, h, hk => by
    obtain ⟨m, h1, h2, h3⟩ := Chain.at (k := k) h.2 (by simpa using hk)
    exact ⟨m, by simpa using h1, by simp [h2], by simpa using h3⟩
  | [], [], _, _, hk => by simp at hk
  | [], _ :: _, _, h, _ => h.elim
  | _ :: _, [], _, h, _ => h.elim

theorem Sl.got {w : World} {v : Value} {l : List (Int × Int)} (h : Sl w 2 v l.length (Ab.EL.gots l).enc) : ∃ a cap, v = .slice a l.length cap ∧ ∀ k, k < l.length → ∀ w1, Below w.heap.size w w1 → ∃ g off, a = some ⟨g, off, none⟩ ∧ w1.cell? ⟨g, off + k * 2, none⟩ = some (.int .i64 (l.getD k (0, 0)).1) ∧ w1.cell? ⟨g, off + k * 2 + 1, none⟩ = some (.int .i64 (l.getD k (0, 0)).2) := by
  obtain ⟨a, cap, rfl, _⟩ := h.form
  refine ⟨a, cap, rfl, fun k hk w1 hb => ?_⟩
  obtain ⟨a', cap', he, hc⟩ := (h.below hb).form
  simp only [Value.slice.injEq, true_and] at he
  obtain ⟨rfl, rfl⟩ := he
  obtain ⟨g, off, rfl, hj⟩ := hc k hk
  have e : ∀ (l : List (Int × Int)) (k : Nat), k < l.length → (Ab.EL.gots l).enc.getD (k * 2) undef = .int .i64 (l.getD k (0, 0)).1 ∧ (Ab.EL.gots l).enc.getD (k * 2 + 1) undef = .int .i64 (l.getD k (0, 0)).2 := by
    intro l
    induction l with
    | nil => intro k hk; simp at hk
    | cons x l ih =>
      intro k hk
      cases k with
      | zero => simp [Ab.EL.enc]
      | succ k =>
        have := ih k (by simpa using hk)
        have e1 : (k + 1) * 2 = k * 2 + 1 + 1 := by omega
        simpa [Ab.EL.enc, e1] using this
  refine ⟨g, off, rfl, ?_, ?_⟩
  · have := hj 0 (by omega)
    rw [Nat.add_zero, (e l k hk).1] at this
    exact this
  · have := hj 1 (by omega)
    rw [(e l k hk).2, ← Nat.add_assoc] at this
    exact this

theorem take_push' (l : List (Int × Int)) (k : Nat) (h : k < l.length) : l.take (k + 1) = l.take k ++ [l[k]] := by rw [List.take_add_one, List.getElem?_eq_getElem h]; rfl
set_option maxHeartbeats 400000 in
theorem gotListOf_any (v : Value) (l : List (Int × Int)) (w : World) (hv : Sl w 2 v l.length (Ab.EL.gots l).enc) (hl : l.length ≤ 1099511627776) :
    Calls Tryd.prog 78 #[v] w fun e w' => ∃ r, e = .returned (.pointer (some ⟨r, 0, none⟩)) ∧ GL w' w.heap.size r l ∧ Below w.heap.size w w' := by
  obtain ⟨a, cap, rfl, hc⟩ := hv.got
  have HC := hid hc
  clear hv hc
  go_enter Tryd.func78, Tryd.ntmps78
  go_wp2
  go_loopw [10] (fun i wr => ∃ k : Nat, k ≤ l.length ∧ i = .int .i64 k ∧ GL wr w.heap.size w.heap.size (l.take k) ∧ Below w.heap.size w wr) (fun i _ => l.length - (intOf i).toNat)
  case atStart => exact ⟨0, Nat.zero_le _, rfl, ⟨[], look_new rfl, trivial, by simp, by simp, Nat.le_refl _⟩, below_alloc _ _⟩
  case round =>
    obtain ⟨k, hk, rfl, hgl, hB⟩ := hrel
    have HR := hid hgl
    have hB' := hid hB
    clear hgl
    by_cases hlt : k < l.length
    · obtain ⟨g, off, rfl, hc1, hc2⟩ := HC.out k hlt _ hB
      have hz := hB.size
      clear hB
      go_wp2_with fail
      refine (gput_any _ w.heap.size _ (l[k].1, l[k].2) _ (HR.out.below (below_alloc _ _)) (by simp; omega) (by simp; omega)).mono ?_
      rintro e w2 ⟨rfl, hgl2, hb2⟩
      have HR2 := hid hgl2
      have HB2 := hid hb2
      clear hgl2 hb2 hc1 hc2
      go_wp2_with fail
      go_roundw
      case rel =>
        refine ⟨k + 1, by omega, by go_num, ?_, ?_⟩
        · rw [take_push' l k hlt]
          exact HR2.out
        · exact (hB'.out.alloc (by omega) _).trans HB2.out
      case measure => simp [intOf]; omega
    · clear hB
      go_wp2
      go_ret
      have hgl := HR.out
      rw [List.take_of_length_le (by omega)] at hgl
      exact ⟨_, rfl, hgl, hB'.out⟩


theorem OwnG.lt {w : World} {base : Nat} {v : Value} {l : List (Int × Int)} (h : OwnG w base v l) : ∀ k, v.ownBlock = some k → base ≤ k ∧ k < w.heap.size := World.ownsRow.lt h
theorem OwnG.alloc {w : World} {base : Nat} {v : Value} {l : List (Int × Int)} (h : OwnG w base v l) (o : Obj) : OwnG (w.alloc o) base v l := World.ownsRow.alloc h o
theorem wpList_append_gots {w : World} {ops : Array Oper} {rest : List Oper} {o : Oper} {a : Act} {Q : Exit → Act → World → Prop} (hg : o.guard = none) (s x : Operand)
    (ho : o.op = .call { callee := .builtin .append, args := #[s, x], argTypes := #[36, 36] })
    (base : Nat) (v : Value) (l : List (Int × Int)) (hs : a.eval s = v) (hown : OwnG w base v l) (vs : Value) (m : List (Int × Int)) (hx : a.eval x = vs) (hsl : Sl w 2 vs m.length (EL.gots m).enc)
    (hb : l.length + m.length ≤ 1099511627776) (hbase : base ≤ w.heap.size)
    (h : ∀ a' c' w', OwnG w' base (.slice a' (l ++ m).length c') (l ++ m) → w.grownBy w' v.ownBlock → wpList Tryd.prog ops Q rest (a.put o.dst (.slice a' (l ++ m).length c')) w') : wpList Tryd.prog ops Q (o :: rest) a w :=
  wpList_plain hg fun _ hK => wp_append_sl s x _ ho base 78 (.agg #[.int .i64 0, .int .i64 0]) 2 16 Tryd.underlying36 infoGot rfl (by omega) v _ _ hs hown vs _ _ hx hsl (EL.one (.gots m)) (by simp only [maxLen]; omega) (by omega) hbase fun v' w' h1 h2 _ => by
    have h3 : OwnG w' base v' (l ++ m) := by unfold OwnG; rw [List.length_append]; have e : (EL.gots (l ++ m)).enc = (EL.gots l).enc ++ (EL.gots m).enc := by simp [EL.enc]
                                             rw [e]; exact h1
    obtain ⟨a', c', rfl⟩ := h3.form
    exact hK _ _ (h a' c' w' h3 h2)
theorem wpList_make_gots {w : World} {ops : Array Oper} {rest : List Oper} {o : Oper} {a : Act} {Q : Exit → Act → World → Prop} (hg : o.guard = none) (c : Operand)
    (hop : o.op = Op.makeSlice 36 (.const (.int .i64 0)) c) (n : Nat) (hc : a.eval c = .int .i64 n) (hn : n ≤ 1099511627776) (base : Nat) (hb : base ≤ w.heap.size)
    (hK : ∀ w', OwnG w' base (.slice (some ⟨w.heap.size, 0, none⟩) 0 n) [] → Below w.heap.size w w' → wpList Tryd.prog ops Q rest (a.put o.dst (.slice (some ⟨w.heap.size, 0, none⟩) 0 n)) w') :
    wpList Tryd.prog ops Q (o :: rest) a w := by
  obtain ⟨i0, hi0, hz0, hz1, hz2⟩ := info_parts infoGot
  exact wpList_make_own w hg (.const (.int .i64 0)) c 36 hop base 78 i0 (.agg #[.int .i64 0, .int .i64 0]) 2 Tryd.underlying36 hi0 hz0 hz1 .i64 .i64 n n rfl hc rfl (by rw [hz2]; omega) (by unfold maxLen; omega) hb
    fun w' h1 h2 => hK w' h1 ⟨h2.os, h2.tape, h2.output, h2.size, fun k hk => h2.block k hk (by simp)⟩
def slen : Value → Nat
  | .slice _ n _ => n
  | _ => 0
theorem sl_lit (w : World) (g : Int × Int) : Sl (w.alloc (.cells #[.int .i64 g.1, .int .i64 g.2] 78)) 2 (.slice (some ⟨w.heap.size, 0, none⟩) 1 1) 1 (EL.gots [g]).enc :=
  ⟨rfl, .inr ⟨w.heap.size, 0, 1, #[.int .i64 g.1, .int .i64 g.2], (78, (0, 0)), rfl, Nat.le_refl _, look_new rfl, by simp, by simp [EL.enc]⟩⟩

set_option maxRecDepth 100000 in
set_option maxHeartbeats 1000000 in
theorem gitems_any (r B : Nat) (l : List (Int × Int)) (w : World) (h : GL w B r l) (hl : l.length ≤ 1099511627776) :
    Calls Tryd.prog 80 #[.pointer (some ⟨r, 0, none⟩)] w fun e w' => ∃ a c, e = .returned (.slice a l.length c) ∧ OwnG w' w.heap.size (.slice a l.length c) l ∧ Below w.heap.size w w' := by
  obtain ⟨ns, hb, hc, hd, hn, hr⟩ := h
  have hrlt := (Array.getElem?_eq_some_iff.1 hb).1
  obtain ⟨c0, f0⟩ := blk hb
  have HB := hid hb
  have HC := hid hc
  clear hc hb hd hn
  go_enter Tryd.func80, Tryd.ntmps80
  go_wp2_with (refine wpList_make_gots rfl (.tmp 8) rfl l.length rfl (by omega) w.heap.size (by simp) ?_; intro w1 hown hg; obtain ⟨c2, f2⟩ := blk (look_below hg (by omega) HB.out))
  have hB := hid hg
  have HO1 := hid hown
  clear hg hown c2 f2
  go_loopw [3, 4] (fun v p wr => ∃ (k : Nat) (a : Option Addr) (c : Nat), k ≤ l.length ∧ v = .slice a k c ∧ p = nodeP (ns.drop k).head? ∧ OwnG wr w.heap.size (.slice a k c) (l.take k) ∧ Below w.heap.size w wr) (fun v _ _ => l.length - slen v)
  case atStart => exact ⟨0, _, _, Nat.zero_le _, rfl, rfl, HO1.out, hB.out⟩
  case round =>
    obtain ⟨k, a, c, hk, rfl, rfl, hown, hBr⟩ := hrel
    have HO := hid hown
    have HB1 := hid hBr
    have hz := hBr.size
    clear hown
    by_cases hlt : k < l.length
    · obtain ⟨n, hn1, hn2, hn3⟩ := HC.out.at hlt
      rw [hn1]
      have hnl := (Array.getElem?_eq_some_iff.1 hn3).1
      obtain ⟨c2, f2⟩ := blk (look_below hBr hnl hn3)
      clear hBr
      have hlen : (l.take k ++ [l[k]]).length = k + 1 := by simp; omega
      have hrow : ∀ j, (Value.slice a k c).ownBlock = some j → w.heap.size ≤ j := fun j hj => (HO.out.lt j hj).1
      simp only [nodeP, Option.map_some]
      go_wp2_with (refine wpList_append_gots rfl (.tmp 20) (.tmp 25) rfl w.heap.size (.slice a k c) (l.take k) rfl (HO.out.alloc _) _ [l[k]] rfl (sl_lit wr l[k]) (by simp; omega) (by simp; omega) ?_; intro a2 c3 w2 hown2 hg2; rw [hlen] at hown2 ⊢; have HB2 := hid ((HB1.out.alloc (by omega) (.cells #[.int .i64 l[k].1, .int .i64 l[k].2] 78)).grown hg2 (by simp; omega) (fun j hj => by have := hrow j hj; omega)); obtain ⟨c4, f4⟩ := blk (look_below HB2.out hnl hn3); have HO2 := hid hown2; clear hown2 hg2)
      go_roundw
      case rel => exact ⟨k + 1, a2, c3, by omega, rfl, by simp [nodeP], by rw [take_push' l k hlt]; exact HO2.out, HB2.out⟩
      case measure => simp [slen]; omega
    · obtain rfl : k = l.length := by omega
      have hd : ns.drop l.length = [] := by rw [← HC.out.len]; simp
      rw [hd]
      have hown := HO.out
      rw [List.take_length] at hown
      replace hown := hid hown
      simp only [List.head?_nil, nodeP, Option.map_none]
      clear hBr
      go_wp2
      go_ret
      exact ⟨_, _, rfl, hown.out, HB1.out⟩

end Go.Proofs.YtkhggobpanfkfaaDoor
