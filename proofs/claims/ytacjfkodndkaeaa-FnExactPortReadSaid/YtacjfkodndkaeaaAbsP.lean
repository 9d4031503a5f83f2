/-
  The soft operations on lists and structs: what the abstract walk says of them is what they answer. Plain lemmas; the conditions are the types' rows (TIok).
-/
import Derived.Test.YtacjfkodndkaeaaAbsO
namespace Go.Proofs.Ytacjfkodndkaeaa
open Go.RowKit
namespace Ab

theorem addr_add (g o j : Nat) : (⟨g, o, none⟩ : Addr).add j = ⟨g, o + j, none⟩ := by unfold Addr.add; split <;> simp_all

theorem EL.len_take (l : EL) (n : Nat) : (l.take n).len = min n l.len := by cases l <;> simp [EL.take, EL.len]
theorem EL.len_drop (l : EL) (n : Nat) : (l.drop n).len = l.len - n := by cases l <;> simp [EL.drop, EL.len]
theorem EL.sz_take (l : EL) (n : Nat) : (l.take n).sz = l.sz := by cases l <;> rfl
theorem EL.sz_drop (l : EL) (n : Nat) : (l.drop n).sz = l.sz := by cases l <;> rfl
theorem EL.sz_pos (l : EL) : 0 < l.sz := by cases l <;> simp [EL.sz]
theorem gots_take (l : List (Int × Int)) (n : Nat) : EL.enc (.gots (l.take n)) = (EL.enc (.gots l)).take (n * 2) := by
  induction l generalizing n with
  | nil => simp [EL.enc]
  | cons a r ih =>
    cases n with
    | zero => simp [EL.enc]
    | succ n =>
      have := ih n
      simp only [EL.enc] at this ⊢
      simp only [List.take_succ_cons, List.flatMap_cons, Nat.succ_mul]
      rw [show n * 2 + 2 = (n * 2 + 1) + 1 from rfl]
      simp [this]
theorem gots_drop (l : List (Int × Int)) (n : Nat) : EL.enc (.gots (l.drop n)) = (EL.enc (.gots l)).drop (n * 2) := by
  induction l generalizing n with
  | nil => simp [EL.enc]
  | cons a r ih =>
    cases n with
    | zero => simp [EL.enc]
    | succ n =>
      have := ih n
      simp only [EL.enc] at this ⊢
      simp only [List.drop_succ_cons, List.flatMap_cons, Nat.succ_mul]
      rw [show n * 2 + 2 = (n * 2 + 1) + 1 from rfl]
      simp [this]
theorem k3_take (l : List (Int × Int × Int)) (n : Nat) : EL.enc (.k3 (l.take n)) = (EL.enc (.k3 l)).take (n * 3) := by
  induction l generalizing n with
  | nil => simp [EL.enc]
  | cons a r ih =>
    cases n with
    | zero => simp [EL.enc]
    | succ n =>
      have := ih n
      simp only [EL.enc] at this ⊢
      simp only [List.take_succ_cons, List.flatMap_cons, Nat.succ_mul]
      rw [show n * 3 + 3 = (n * 3 + 1 + 1) + 1 from rfl]
      simp [this]
theorem k3_drop (l : List (Int × Int × Int)) (n : Nat) : EL.enc (.k3 (l.drop n)) = (EL.enc (.k3 l)).drop (n * 3) := by
  induction l generalizing n with
  | nil => simp [EL.enc]
  | cons a r ih =>
    cases n with
    | zero => simp [EL.enc]
    | succ n =>
      have := ih n
      simp only [EL.enc] at this ⊢
      simp only [List.drop_succ_cons, List.flatMap_cons, Nat.succ_mul]
      rw [show n * 3 + 3 = (n * 3 + 1 + 1) + 1 from rfl]
      simp [this]
theorem EL.enc_take (l : EL) (n : Nat) : (l.take n).enc = l.enc.take (n * l.sz) := by
  cases l with
  | ints l => simp [EL.take, EL.enc, EL.sz]
  | bytes l => simp [EL.take, EL.enc, EL.sz]
  | gots l => exact gots_take l n
  | k3 l => exact k3_take l n
theorem EL.enc_drop (l : EL) (n : Nat) : (l.drop n).enc = l.enc.drop (n * l.sz) := by
  cases l with
  | ints l => simp [EL.drop, EL.enc, EL.sz]
  | bytes l => simp [EL.drop, EL.enc, EL.sz]
  | gots l => exact gots_drop l n
  | k3 l => exact k3_drop l n

section
variable {P : Program} {cx : Cx} {β : List En} {hp : Hp} {w : World}

theorem Sl.sub {sz n i h c : Nat} {a : Option Addr} {xs : List Value} (hs : Sl w sz (.slice a n c) n xs) (h1 : i ≤ h) (h2 : h ≤ n) :
    n ≤ c ∧ Sl w sz (.slice (if c = i then a else a.map (·.add (i * sz))) (h - i) (c - i)) (h - i) ((xs.drop (i * sz)).take ((h - i) * sz)) := by
  have hlen : ((xs.drop (i * sz)).take ((h - i) * sz)).length = (h - i) * sz := by
    rw [List.length_take, List.length_drop, hs.1, ← Nat.sub_mul]
    exact Nat.min_eq_left (Nat.mul_le_mul_right _ (by omega))
  rcases hs.2 with ⟨rfl, a', cap, he, hn⟩ | ⟨g, off, cap, cur, T, he, h3, h4, h5, h6⟩
  · simp only [Value.slice.injEq, true_and] at he
    obtain ⟨rfl, rfl⟩ := he
    refine ⟨Nat.zero_le _, hlen, .inl ⟨by omega, _, _, by rw [show h - i = 0 by omega], fun e => ?_⟩⟩
    split at e
    · omega
    · have := hn (by cases a <;> simp_all)
      omega
  · simp only [Value.slice.injEq, true_and] at he
    obtain ⟨rfl, rfl⟩ := he
    refine ⟨h3, hlen, ?_⟩
    by_cases h0 : h - i = 0
    · refine .inl ⟨h0, _, _, by rw [h0], fun e => ?_⟩
      split at e <;> cases e
    · have hc : ¬ c = i := by omega
      refine .inr ⟨g, off + i * sz, c - i, cur, T, by simp [hc, addr_add], by omega, h4, ?_, ?_⟩
      · have : i * sz + (c - i) * sz = c * sz := by rw [← Nat.add_mul]; congr 1; omega
        omega
      · rw [← h6, List.drop_take, List.take_take, List.drop_drop]
        congr 1
        rw [← Nat.sub_mul]
        exact (Nat.min_eq_left (Nat.mul_le_mul_right _ (by omega))).symm

theorem FZ.sub {n i h c : Nat} {a : Option Addr} {l : EL} (hf : FZ cx (.slice a n c) l) (hn : n = l.len) (h1 : i ≤ h) (h2 : h ≤ n) :
    FZ cx (.slice (if c = i then a else a.map (·.add (i * l.sz))) (h - i) (c - i)) ((l.drop i).take (h - i)) := by
  subst hn
  have hl : ((l.drop i).take (h - i)).len = h - i := by rw [EL.len_take, EL.len_drop]; omega
  have hsz : ((l.drop i).take (h - i)).sz = l.sz := by rw [EL.sz_take, EL.sz_drop]
  refine ⟨?_, by rw [hl]; have := hf.2.1; omega, fun h0 b hb => ?_⟩
  · rw [hl, hsz, EL.enc_take, EL.sz_drop, EL.enc_drop]
    exact (Sl.sub hf.1 h1 h2).2
  · rw [hl] at h0
    refine hf.2.2 (by omega) b ?_
    rw [← hb]
    split
    · cases a <;> rfl
    · cases a with
      | none => rfl
      | some x => simp [Value.ownBlock, Addr.add_block]

theorem PartOf.whole {sz n i h c base : Nat} {E : TypeId} {a : Option Addr} {xs : List Value} (ho : w.ownsRow base E sz (.slice a n c) n xs) (h1 : i ≤ h) (h2 : h ≤ n) :
    PartOf (.slice a n c) sz i (h - i) (.slice (if c = i then a else a.map (·.add (i * sz))) (h - i) (c - i)) := by
  rcases ho.2 with ⟨he, rfl⟩ | ⟨g, cap, cur, he, hb, hg, h3, h4, h5, h6⟩
  · simp only [Value.slice.injEq, true_and] at he
    obtain ⟨rfl, rfl⟩ := he
    exact ⟨_, _, rfl, fun _ => by omega, fun h => by omega⟩
  · simp only [Value.slice.injEq, true_and] at he
    obtain ⟨rfl, rfl⟩ := he
    refine ⟨_, _, rfl, fun e => ?_, fun h0 => ⟨g, n, c, rfl, ?_, by omega, by omega⟩⟩
    · split at e <;> cases e
    · have hc : ¬ c = i := by omega
      simp [hc, addr_add]
theorem PartOf.sub {v1 : Value} {sz n i0 i h c : Nat} {a : Option Addr} (hp : PartOf v1 sz i0 n (.slice a n c)) (h1 : i ≤ h) (h2 : h ≤ n) :
    PartOf v1 sz (i0 + i) (h - i) (.slice (if c = i then a else a.map (·.add (i * sz))) (h - i) (c - i)) := by
  obtain ⟨a', c', he, hn, hpos⟩ := hp
  simp only [Value.slice.injEq, true_and] at he
  obtain ⟨rfl, rfl⟩ := he
  refine ⟨_, _, rfl, fun e => ?_, fun h0 => ?_⟩
  · split at e
    · omega
    · have := hn (by cases a <;> simp_all)
      omega
  · obtain ⟨g, n1, c1, rfl, rfl, h3, h4⟩ := hpos (by omega)
    have hc : ¬ c = i := by omega
    exact ⟨g, n1, c1, rfl, by simp [hc, addr_add, Nat.add_mul], by omega, by omega⟩
theorem PartOf.sl {v1 v : Value} {sz i n n1 base : Nat} {E : TypeId} {xs : List Value} (hp : PartOf v1 sz i n v) (ho : w.ownsRow base E sz v1 n1 xs) (hle : i + n ≤ n1) : Sl w sz v n ((xs.drop (i * sz)).take (n * sz)) := by
  obtain ⟨a, c, rfl, hn, hpos⟩ := hp
  have hlen : ((xs.drop (i * sz)).take (n * sz)).length = n * sz := by
    rw [List.length_take, List.length_drop, ho.1, ← Nat.sub_mul]
    exact Nat.min_eq_left (Nat.mul_le_mul_right _ (by omega))
  refine ⟨hlen, ?_⟩
  by_cases h0 : n = 0
  · exact .inl ⟨h0, a, c, by rw [h0], hn⟩
  · obtain ⟨g, n2, c1, rfl, rfl, h3, h4⟩ := hpos (by omega)
    rcases ho.2 with ⟨he, _⟩ | ⟨g', cap, cur, he, hb, hg, h5, h6, h7, h8⟩
    · simp at he
    · simp only [Value.slice.injEq, Option.some.injEq, Addr.mk.injEq, and_true] at he
      obtain ⟨rfl, rfl, rfl⟩ := he
      refine .inr ⟨g, i * sz, c, cur, (E, (0, 0)), rfl, h3, hg, ?_, ?_⟩
      · have : i * sz + c * sz ≤ c1 * sz := by rw [← Nat.add_mul]; exact Nat.mul_le_mul_right _ (by omega)
        omega
      · rw [← h8, List.drop_take, List.take_take, ← Nat.sub_mul]
        congr 1
        exact (Nat.min_eq_left (Nat.mul_le_mul_right _ (by omega))).symm

/-! ### The list behind an abstract slice -/
theorem rowK_spec {k ver : Nat} {K : TypeId → EL → Prop} (h : rowK hp k ver K) : ∃ E l, hp[k]? = some (.r ver E l) ∧ K E l := by
  obtain ⟨x, h1, h⟩ := getH_iff.1 h
  split at h
  · rename_i ver' E l
    cases hb : Nat.beq ver ver' with
    | true =>
      simp only [hb] at h
      have : ver = ver' := Nat.eq_of_beq_eq_true hb
      subst this
      exact ⟨E, l, h1, h⟩
    | false => simp only [hb] at h
  · exact h.elim

theorem row_own (hI : Inv cx β hp w) {k ver : Nat} {E : TypeId} {l : EL} (h : hp[k]? = some (.r ver E l)) : ∃ v, β[k]? = some (.r v ver) ∧ w.ownsRow cx.w0.heap.size E l.sz v l.len l.enc ∧ l.len ≤ maxL := by
  have hlt : k < β.length := by rw [hI.len]; exact (List.getElem?_eq_some_iff.1 h).1
  have he : β[k]? = some β[k] := List.getElem?_eq_getElem hlt
  have ho := hI.ent k _ _ h he
  cases hx : β[k] with
  | r v ver' =>
    rw [hx] at ho he
    obtain ⟨rfl, h2, h3⟩ := ho
    exact ⟨v, he, h2, h3⟩
  | _ => rw [hx] at ho; exact ho.elim

theorem s_val {k ver : Nat} {v v1 : Value} (h : LC cx β (.s k ver) v) (h1 : β[k]? = some (.r v1 ver)) : v = v1 := by
  obtain ⟨_, v2, ver2, h2, h3, h4⟩ := h
  rw [h1] at h2
  simp only [Option.some.injEq, En.r.injEq] at h2
  obtain ⟨rfl, rfl⟩ := h2
  exact h4 rfl
theorem w_val {k ver sz i n : Nat} {v v1 : Value} (h : LC cx β (.w k ver sz i n) v) (h1 : β[k]? = some (.r v1 ver)) : PartOf v1 sz i n v := by
  obtain ⟨_, v2, ver2, h2, h3, h4⟩ := h
  rw [h1] at h2
  simp only [Option.some.injEq, En.r.injEq] at h2
  obtain ⟨rfl, rfl⟩ := h2
  exact h4 rfl
theorem owns_form {base n sz : Nat} {E : TypeId} {v : Value} {xs : List Value} (h : w.ownsRow base E sz v n xs) : ∃ a c, v = .slice a n c := by
  rcases h.2 with ⟨rfl, rfl⟩ | ⟨g, cap, cur, rfl, _⟩
  · exact ⟨_, _, rfl⟩
  · exact ⟨_, _, rfl⟩

theorem lenOf_spec (hI : Inv cx β hp w) {a : AV} {v : Value} {K : Nat → Prop} (ha : AC cx β a v) (h : lenOfK hp a K) : ∃ n, K n ∧ ∃ ad c, v = .slice ad n c := by
  unfold lenOfK at h
  split at h
  · obtain ⟨a, c, he, _⟩ := ha.2.1.form
    exact ⟨_, h, a, c, he⟩
  · obtain ⟨a, c, he, _⟩ := ha.2.2.1.form
    exact ⟨_, h, a, c, he⟩
  · obtain ⟨E, l, h1, h⟩ := rowK_spec h
    obtain ⟨v1, h2, h3, _⟩ := row_own hI h1
    rw [s_val (cx := cx) ha h2]
    exact ⟨_, h, owns_form h3⟩
  · obtain ⟨E, l, h1, h⟩ := rowK_spec h
    obtain ⟨v1, h2, h3, _⟩ := row_own hI h1
    obtain ⟨a, c, rfl, _⟩ := w_val (cx := cx) ha h2
    exact ⟨_, h, _, _, rfl⟩
  · obtain ⟨_, rfl⟩ := ha
    exact ⟨_, h, _, _, rfl⟩
  · exact h.elim

/-- What a slice that is read holds. -/
theorem read_spec (hI : Inv cx β hp w) {ek : EK} {a : AV} {v : Value} {K : EL → Prop} (ha : AC cx β a v) (h : readK hp ek a K) : ∃ l, K l ∧ Sl w l.sz v l.len l.enc ∧ l.len ≤ maxL := by
  unfold readK at h
  split at h
  · exact ⟨_, h, ha.2.sl hI, ha.2.2.1⟩
  · obtain ⟨E, l, h1, h⟩ := rowK_spec h
    obtain ⟨v1, h2, h3, h4⟩ := row_own hI h1
    rw [s_val (cx := cx) ha h2]
    exact ⟨_, h, sl_of_owns h3, h4⟩
  · obtain ⟨E, l, h1, h⟩ := rowK_spec h
    obtain ⟨v1, h2, h3, h4⟩ := row_own hI h1
    obtain ⟨hb, h⟩ := side_iff.1 h
    obtain ⟨hle, h⟩ := side_iff.1 h
    have hsz := Nat.eq_of_beq_eq_true hb
    have hp := w_val (cx := cx) ha h2
    rw [hsz] at hp
    have hl := PartOf.sl hp h3 hle
    refine ⟨_, h, ?_, ?_⟩
    · rw [EL.sz_take, EL.sz_drop, EL.len_take, EL.len_drop, EL.enc_take, EL.sz_drop, EL.enc_drop, Nat.min_eq_left (by omega)]
      exact hl
    · rw [EL.len_take, EL.len_drop]; omega
  · obtain ⟨_, rfl⟩ := ha
    refine ⟨_, h, ?_⟩
    cases ek <;> exact ⟨⟨rfl, .inl ⟨rfl, none, 0, rfl, fun _ => rfl⟩⟩, Nat.zero_le _⟩
  · exact h.elim

def OptV (a : Act) (x : Option Operand) (d n : Int) : Prop := match x with
  | none => n = d
  | some y => ∃ k, a.eval y = .int k n
theorem opt_spec {fr : Fr} {a : Act} (hf : FR cx β fr a.tmps) {x : Option Operand} {d : Int} {K : Int → Prop} (h : optK fr x d K) : ∃ n, K n ∧ OptV a x d n := by
  cases x with
  | none => exact ⟨_, h, rfl⟩
  | some y =>
    obtain ⟨r, h1, h2⟩ := ev_spec hf h
    split at h1
    · exact ⟨_, h1, _, h2.2⟩
    · exact h1.elim

theorem run_slice {t e : TypeId} {esz n c : Nat} {ad : Option Addr} (ht : P.underlying t = some (.slice e)) (hs : (P.info? e).map (·.size) = some esz) (hc : n ≤ c)
    {a : Act} {lo hi : Option Operand} {i h : Int} (hi0 : OptV a lo 0 i) (hh0 : OptV a hi n h)
    (h1 : 0 ≤ i) (h2 : i ≤ h) (h3 : h ≤ n) (w : World) :
    (Instr.sliceAt t (.slice ad n c) (lo.map a.eval) (hi.map a.eval) none).run P w = .ok (.slice (if c = i.toNat then ad else ad.map (·.add (i.toNat * esz))) (h.toNat - i.toNat) (c - i.toNat)) w := by
  have hh : h ≤ (c : Int) := by omega
  cases hi with
  | none =>
    have hh1 : h = n := hh0
    subst hh1
    cases lo with
    | none =>
      have hi1 : i = 0 := hi0
      subst hi1
      simp [Instr.sliceAt, Instr.slice, Instr.sliceBounds, run_underlying ht, run_sz hs]
    | some y =>
      obtain ⟨k, hk⟩ := hi0
      simp [Instr.sliceAt, Instr.slice, Instr.sliceBounds, run_underlying ht, hk, Instr.sliceBound, asIntOf, h1, h2, run_sz hs]
  | some z =>
    obtain ⟨k', hk'⟩ := hh0
    have h0 : 0 ≤ h := by omega
    obtain ⟨m, rfl⟩ := Int.eq_ofNat_of_zero_le h0
    have hmc : m ≤ c := by omega
    cases lo with
    | none =>
      have hi1 : i = 0 := hi0
      subst hi1
      simp [Instr.sliceAt, Instr.slice, Instr.sliceBounds, run_underlying ht, hk', Instr.sliceBound, asIntOf, hmc, run_sz hs]
    | some y =>
      obtain ⟨k, hk⟩ := hi0
      simp [Instr.sliceAt, Instr.slice, Instr.sliceBounds, run_underlying ht, hk', hk, Instr.sliceBound, asIntOf, hmc, run_sz hs, h1, h2]

theorem slice_len_eq {n c m sz : Nat} {ad : Option Addr} {xs : List Value} (h : Sl w sz (.slice ad n c) m xs) : n = m := by
  obtain ⟨a', c', he, _⟩ := h.form
  simp only [Value.slice.injEq] at he
  exact he.2.1
theorem cut_spec (hI : Inv cx β hp w) {fr : Fr} {a : Act} (hf : FR cx β fr a.tmps) {t e : TypeId} {esz : Nat} (ht : P.underlying t = some (.slice e)) (hs : (P.info? e).map (·.size) = some esz) {x : AV} {v : Value} (hx : AC cx β x v) {lo hi : Option Operand} {K : AV → Prop} (h : cutS esz x hp fr lo hi K) :
    ∃ r, K r ∧ ∃ u, AC cx β r u ∧ ∀ w, (Instr.sliceAt t v (lo.map a.eval) (hi.map a.eval) none).run P w = .ok u w := by
  obtain ⟨n, g1, ad, c, rfl⟩ := lenOf_spec hI hx h
  obtain ⟨i, g2, hi0⟩ := opt_spec hf g1
  obtain ⟨m, g3, hm0⟩ := opt_spec hf g2
  obtain ⟨⟨h1, h2, h3⟩, g4⟩ := side_iff.1 g3
  clear h g1 g2 g3
  split at g4
  · rename_i l
    obtain ⟨hb, g5⟩ := side_iff.1 g4
    have hsz : esz = l.sz := Nat.eq_of_beq_eq_true hb
    have hz := hx.2
    have hn : n = l.len := slice_len_eq hz.1
    have hc : n ≤ c := by
      have := hz.1
      rw [← hn] at this
      exact (Sl.sub this (Nat.le_refl _) (Nat.le_refl _)).1
    have hF := FZ.sub hz hn (i := i.toNat) (h := m.toNat) (by omega) (by omega)
    rw [← hsz] at hF
    exact ⟨_, g5, _, ⟨rfl, hF⟩, run_slice ht hs hc hi0 hm0 h1 h2 h3⟩
  · rename_i k ver
    obtain ⟨E, l, hr, g5⟩ := rowK_spec g4
    obtain ⟨hb, g6⟩ := side_iff.1 g5
    have hsz : esz = l.sz := Nat.eq_of_beq_eq_true hb
    obtain ⟨v1, r2, r3, r4⟩ := row_own hI hr
    have hv := s_val (cx := cx) hx r2
    subst hv
    have hn : n = l.len := slice_len_eq (sl_of_owns r3)
    rw [← hn, ← hsz] at r3
    have hc : n ≤ c := (Sl.sub (sl_of_owns r3) (Nat.le_refl _) (Nat.le_refl _)).1
    exact ⟨_, g6, _, ⟨rfl, _, _, r2, Nat.le_refl _, fun _ => PartOf.whole r3 (by omega) (by omega)⟩, run_slice ht hs hc hi0 hm0 h1 h2 h3⟩
  · rename_i k ver sz i0 n0
    obtain ⟨E, l, hr, g5⟩ := rowK_spec g4
    obtain ⟨hb, g6⟩ := side_iff.1 g5
    have hsz : esz = sz := Nat.eq_of_beq_eq_true hb
    subst hsz
    obtain ⟨v1, r2, r3, r4⟩ := row_own hI hr
    have hP := w_val (cx := cx) hx r2
    have hP' := hP
    obtain ⟨a', c', he, hn', hpos⟩ := hP'
    simp only [Value.slice.injEq] at he
    obtain ⟨rfl, rfl, rfl⟩ := he
    have hc : n ≤ c := by
      by_cases h0 : 0 < n
      · obtain ⟨_, _, _, _, _, h4, _⟩ := hpos h0
        exact h4
      · omega
    exact ⟨_, g6, _, ⟨rfl, _, _, r2, Nat.le_refl _, fun _ => hP.sub (by omega) (by omega)⟩, run_slice ht hs hc hi0 hm0 h1 h2 h3⟩
  · exact g4.elim

/-! ### Elements -/
theorem enc_ints (l : List Int) (i : Nat) (h : i < l.length) : (EL.ints l).enc[i]? = some (.int .i64 (l.getD i 0)) := by
  simp [EL.enc, h, List.getD]
theorem enc_gots (l : List (Int × Int)) : ∀ (i : Nat), i < l.length → (EL.gots l).enc[i * 2]? = some (.int .i64 (l.getD i (0, 0)).1) ∧ (EL.gots l).enc[i * 2 + 1]? = some (.int .i64 (l.getD i (0, 0)).2) := by
  induction l with
  | nil => intro i h; simp at h
  | cons a r ih =>
    intro i h
    cases i with
    | zero => simp [EL.enc]
    | succ i =>
      have := ih i (by simpa using h)
      simp only [EL.enc] at this ⊢
      simp only [List.flatMap_cons, Nat.succ_mul, List.getD_cons_succ]
      constructor
      · rw [show i * 2 + 2 = (i * 2 + 1) + 1 from rfl]; simpa using this.1
      · rw [show i * 2 + 2 + 1 = (i * 2 + 1 + 1) + 1 from rfl]; simpa using this.2

theorem enc_k3 (l : List (Int × Int × Int)) : ∀ (i : Nat), i < l.length → (EL.k3 l).enc[i * 3]? = some (.int .i64 (l.getD i (0, 0, 0)).1) ∧ (EL.k3 l).enc[i * 3 + 1]? = some (.int .i64 (l.getD i (0, 0, 0)).2.1) ∧ (EL.k3 l).enc[i * 3 + 2]? = some (.int .i64 (l.getD i (0, 0, 0)).2.2) := by
  induction l with
  | nil => intro i h; simp at h
  | cons a r ih =>
    intro i h
    cases i with
    | zero => simp [EL.enc]
    | succ i =>
      have := ih i (by simpa using h)
      simp only [EL.enc] at this ⊢
      simp only [List.flatMap_cons, Nat.succ_mul, List.getD_cons_succ]
      refine ⟨?_, ?_, ?_⟩
      · rw [show i * 3 + 3 = (i * 3 + 1 + 1) + 1 from rfl]; simpa using this.1
      · rw [show i * 3 + 3 + 1 = (i * 3 + 1 + 1 + 1) + 1 from rfl]; simpa using this.2.1
      · rw [show i * 3 + 3 + 2 = (i * 3 + 2 + 1 + 1) + 1 from rfl]; simpa using this.2.2

theorem el_load {t : TypeId} {ti : TI} (hT : TIok P t ti) {l : EL} {i off g o : Nat} {K : AV → Prop} (hcell : ∀ (j : Nat) u, l.enc[j]? = some u → w.cell? ⟨g, o + j, none⟩ = some u) (hi : i < l.len) (h : elK l i off ti.agg ti.sz K) :
    ∃ r, K r ∧ ∃ v, AC cx β r v ∧ ∀ w' : World, w'.heap[g]? = w.heap[g]? → (loadVar t ⟨g, o + (i * l.sz + off), none⟩).run P w' = .ok v w' := by
  have cell : ∀ w' : World, w'.heap[g]? = w.heap[g]? → ∀ (j : Nat) u, l.enc[j]? = some u → w'.cell? ⟨g, o + j, none⟩ = some u := fun w' hw j u hu => by
    rw [World.cell?_of_block (w := w) (a := ⟨g, o + j, none⟩) hw]; exact hcell j u hu
  have one : ∀ (j : Nat) u, l.enc[j]? = some u → ti.agg = false → ∀ w' : World, w'.heap[g]? = w.heap[g]? → (loadVar t ⟨g, o + j, none⟩).run P w' = .ok u w' := fun j u hu hg w' hw => by
    have := cell w' hw j u hu
    simp [loadVar, run_ag (hg ▸ hT.agg), load, Sem.run, this]
  cases l with
  | ints l =>
    have h0 := enc_ints l i hi
    cases hg : ti.agg with
    | true => simp only [elK, hg] at h
    | false =>
      simp only [elK, hg] at h
      split at h
      · exact ⟨_, h, _, acI _ _, one _ _ (by simpa [EL.sz] using h0) hg⟩
      · exact h.elim
  | bytes l =>
    have h0 : (EL.bytes l).enc[i]? = some (.int .u8 ((l.getD i 0).toNat : Int)) := by
      have hi' : i < l.length := hi
      simp [EL.enc, hi', List.getD]
    cases hg : ti.agg with
    | true => simp only [elK, hg] at h
    | false =>
      simp only [elK, hg] at h
      split at h
      · exact ⟨_, h, _, acI _ _, one _ _ (by simpa [EL.sz] using h0) hg⟩
      · exact h.elim
  | gots l =>
    have h0 := enc_gots l i hi
    cases hg : ti.agg with
    | true =>
      simp only [elK, hg] at h
      split at h
      · split at h
        · rename_i hsz
          refine ⟨_, h, .agg #[.int .i64 (l.getD i (0, 0)).1, .int .i64 (l.getD i (0, 0)).2], ⟨_, rfl, ⟨rfl, rfl⟩, ⟨rfl, rfl⟩, trivial⟩, fun w' hw => ?_⟩
          have hL := run_loadCells_list (P := P) w' ⟨g, o + (i * 2 + 0), none⟩ [.int .i64 (l.getD i (0, 0)).1, .int .i64 (l.getD i (0, 0)).2] (fun j v hj => by
            rw [addr_add]
            match j with
            | 0 => simp only [List.getElem?_cons_zero, Option.some.injEq] at hj; subst hj; exact cell w' hw (i * 2) _ h0.1
            | 1 => simp only [List.getElem?_cons_succ, List.getElem?_cons_zero, Option.some.injEq] at hj; subst hj; exact cell w' hw (i * 2 + 1) _ h0.2
            | j + 2 => simp at hj)
          have hsz' := hT.size
          rw [hsz] at hsz'
          simp only [List.length_cons, List.length_nil, Nat.zero_add] at hL
          simp [EL.sz, loadVar, run_ag (hg ▸ hT.agg), run_sz hsz'] at hL ⊢
          simp [hL]
        · exact h.elim
      · exact h.elim
    | false =>
      simp only [elK, hg] at h
      split at h
      · exact ⟨_, h, _, acI _ _, one _ _ (by simpa [EL.sz] using h0.1) hg⟩
      · exact ⟨_, h, _, acI _ _, one _ _ (by simpa [EL.sz] using h0.2) hg⟩
      · exact h.elim
  | k3 l =>
    have h0 := enc_k3 l i hi
    cases hg : ti.agg with
    | true =>
      simp only [elK, hg] at h
      split at h
      · split at h
        · rename_i hsz
          refine ⟨_, h, .agg #[.int .i64 (l.getD i (0, 0, 0)).1, .int .i64 (l.getD i (0, 0, 0)).2.1, .int .i64 (l.getD i (0, 0, 0)).2.2], ⟨_, rfl, ⟨rfl, rfl⟩, ⟨rfl, rfl⟩, ⟨rfl, rfl⟩, trivial⟩, fun w' hw => ?_⟩
          have hL := run_loadCells_list (P := P) w' ⟨g, o + (i * 3 + 0), none⟩ [.int .i64 (l.getD i (0, 0, 0)).1, .int .i64 (l.getD i (0, 0, 0)).2.1, .int .i64 (l.getD i (0, 0, 0)).2.2] (fun j v hj => by
            rw [addr_add]
            match j with
            | 0 => simp only [List.getElem?_cons_zero, Option.some.injEq] at hj; subst hj; exact cell w' hw (i * 3) _ h0.1
            | 1 => simp only [List.getElem?_cons_succ, List.getElem?_cons_zero, Option.some.injEq] at hj; subst hj; exact cell w' hw (i * 3 + 1) _ h0.2.1
            | 2 => simp only [List.getElem?_cons_succ, List.getElem?_cons_zero, Option.some.injEq] at hj; subst hj; exact cell w' hw (i * 3 + 2) _ h0.2.2
            | j + 3 => simp at hj)
          have hsz' := hT.size
          rw [hsz] at hsz'
          simp only [List.length_cons, List.length_nil, Nat.zero_add] at hL
          simp [EL.sz, loadVar, run_ag (hg ▸ hT.agg), run_sz hsz'] at hL ⊢
          simp [hL]
        · exact h.elim
      · exact h.elim
    | false =>
      simp only [elK, hg] at h
      split at h
      · exact ⟨_, h, _, acI _ _, one _ _ (by simpa [EL.sz] using h0.1) hg⟩
      · exact ⟨_, h, _, acI _ _, one _ _ (by simpa [EL.sz] using h0.2.1) hg⟩
      · exact ⟨_, h, _, acI _ _, one _ _ (by simpa [EL.sz] using h0.2.2) hg⟩
      · exact h.elim

theorem owns_cells {base n sz g c : Nat} {E : TypeId} {xs : List Value} (h : w.ownsRow base E sz (.slice (some ⟨g, 0, none⟩) n c) n xs) : ∀ (j : Nat) u, xs[j]? = some u → w.cell? ⟨g, 0 + j, none⟩ = some u := by
  intro j u hu
  have := h.cells (g := g) rfl j u hu
  rwa [addr_add] at this

theorem run_index {t e : TypeId} {esz n c : Nat} {ad : Addr} (ht : P.underlying t = some (.slice e)) (hs : (P.info? e).map (·.size) = some esz) {k : IntKind} {i : Int} (h1 : 0 ≤ i) (h2 : i < n) (w : World) :
    (Instr.indexAt t (.slice (some ad) n c) (.int k i)).run P w = .ok (.pointer (some (ad.add (i.toNat * esz)))) w := by
  simp [Instr.indexAt, run_underlying ht, asIntOf, h1, h2, run_sz hs]

end
end Ab
end Go.Proofs.Ytacjfkodndkaeaa
