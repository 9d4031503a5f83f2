/-
  How slices lie in memory, for the walks: what is read (Sl), what a call has made (ownsRow of the kit).
-/
import Derived.Test.YtacjfkodndkaeaaWalkE
import Derived.Maps.AppendAt
namespace Go.Proofs.Ytacjfkodndkaeaa
open Go.RowKit

theorem hid {q : Prop} (h : q) : Hid q := h

/-- The slice value v, of n elements of sz cells each, reads as the cells xs. -/
def Sl (w : World) (sz : Nat) (v : Value) (n : Nat) (xs : List Value) : Prop :=
  xs.length = n * sz ∧ ((n = 0 ∧ ∃ a cap, v = .slice a 0 cap ∧ (a = none → cap = 0)) ∨
    ∃ (g off cap : Nat) (cur : Array Value) (T : TypeId × (Nat × Nat)), v = .slice (some ⟨g, off, none⟩) n cap ∧ n ≤ cap ∧ w.heap[g]? = some (.cells cur T.1 T.2) ∧ off + cap * sz ≤ cur.size ∧ (cur.toList.drop off).take (n * sz) = xs)

theorem Sl.below {w w' : World} {sz : Nat} {v : Value} {n : Nat} {xs : List Value} (h : Sl w sz v n xs) (hb : Below w.heap.size w w') : Sl w' sz v n xs := by
  refine ⟨h.1, h.2.imp id fun ⟨g, off, cap, cur, T, h1, h2, h3, h4, h5⟩ => ⟨g, off, cap, cur, T, h1, h2, ?_, h4, h5⟩⟩
  rw [hb.block g (Array.getElem?_eq_some_iff.1 h3).1]; exact h3

theorem Sl.form {w : World} {sz : Nat} {v : Value} {n : Nat} {xs : List Value} (h : Sl w sz v n xs) : ∃ a cap, v = .slice a n cap ∧ ∀ k, k < n → ∃ g off, a = some ⟨g, off, none⟩ ∧ ∀ j, j < sz → w.cell? ⟨g, off + (k * sz + j), none⟩ = some (xs.getD (k * sz + j) undef) := by
  rcases h.2 with ⟨rfl, a, cap, rfl, _⟩ | ⟨g, off, cap, cur, T, rfl, h2, h3, h4, h5⟩
  · exact ⟨a, cap, rfl, fun k hk => by omega⟩
  · refine ⟨_, cap, rfl, fun k hk => ⟨g, off, rfl, fun j hj => ?_⟩⟩
    have hlt : k * sz + j < n * sz := by
      have : (k + 1) * sz ≤ n * sz := Nat.mul_le_mul_right _ hk
      rw [Nat.add_mul] at this; omega
    have hle : n * sz ≤ cap * sz := Nat.mul_le_mul_right _ h2
    have hx : xs[k * sz + j]? = cur.toList[off + (k * sz + j)]? := by
      rw [← h5, List.getElem?_take, if_pos hlt, List.getElem?_drop]
    unfold World.cell?
    simp only [h3]
    rw [List.getD_eq_getElem?_getD, hx]
    have : off + (k * sz + j) < cur.size := by omega
    simp [this]

theorem Sl.cells {w : World} {sz : Nat} {g off cap n : Nat} {xs : List Value} (h : Sl w sz (.slice (some ⟨g, off, none⟩) n cap) n xs) (h0 : 0 < n) : ∀ j u, xs[j]? = some u → w.cell? ((⟨g, off, none⟩ : Addr).add j) = some u := by
  rcases h.2 with ⟨rfl, _⟩ | ⟨g', off', cap', cur, T, he, h2, h3, h4, h5⟩
  · omega
  · simp only [Value.slice.injEq, Option.some.injEq, Addr.mk.injEq, and_true, true_and] at he
    obtain ⟨⟨rfl, rfl⟩, rfl⟩ := he
    intro j u hu
    rw [← h5, List.getElem?_take] at hu
    split at hu
    · rw [List.getElem?_drop] at hu
      have hadd : (⟨g, off, none⟩ : Addr).add j = ⟨g, off + j, none⟩ := by unfold Addr.add; split <;> simp_all
      rw [hadd]
      unfold World.cell?
      simp only [h3]
      simpa using hu
    · cases hu

/-- What a call has made, read. -/
theorem sl_of_owns {w : World} {base : Nat} {e : TypeId} {sz : Nat} {v : Value} {n : Nat} {xs : List Value} (h : w.ownsRow base e sz v n xs) : Sl w sz v n xs := by
  refine ⟨h.1, ?_⟩
  rcases h.2 with ⟨rfl, rfl⟩ | ⟨g, cap, cur, rfl, hb, hg, hn, hm, hs, ht⟩
  · exact .inl ⟨rfl, none, 0, rfl, fun _ => rfl⟩
  · exact .inr ⟨g, 0, cap, cur, (e, (0, 0)), rfl, hn, hg, by omega, by simpa using ht⟩

theorem owns_below {w w' : World} {base : Nat} {e : TypeId} {sz : Nat} {v : Value} {n : Nat} {xs : List Value} (h : w.ownsRow base e sz v n xs) (hb : Below w.heap.size w w') : w'.ownsRow base e sz v n xs :=
  h.kept (row := none) ⟨hb.os, hb.tape, hb.output, hb.size, fun k hk _ => hb.block k hk⟩ (by cases hv : v.ownBlock <;> simp)

theorem owns_base {w : World} {base base' : Nat} {e : TypeId} {sz : Nat} {v : Value} {n : Nat} {xs : List Value} (h : w.ownsRow base e sz v n xs) (hb : base' ≤ base) : w.ownsRow base' e sz v n xs :=
  ⟨h.1, h.2.imp id fun ⟨g, cap, cur, h1, h2, h3⟩ => ⟨g, cap, cur, h1, Nat.le_trans hb h2, h3⟩⟩

/-- 'append(dst, src...)': dst the call's own, src whatever reads. -/
theorem wp_append_sl {P : Program} {w : World} {o : Oper} {a : Act} {K : Act → World → Prop} {Q : Exit → Act → World → Prop} (s x : Operand) (t : TypeId)
    (ho : o.op = .call { callee := .builtin .append, args := #[s, x], argTypes := #[t, t] })
    (base : Nat) (e : TypeId) (z : Value) (size bytes : Nat) (ht : P.underlying t = some (.slice e)) (hi : (P.info? e).map (fun i => (i.zero, i.size, i.bytes)) = some (some z, size, bytes))
    (hzs : z.cells.size = size) (hsz : 0 < size)
    (v : Value) (n : Nat) (xs : List Value) (hs : a.eval s = v) (hown : w.ownsRow base e size v n xs)
    (vs : Value) (m : Nat) (news : List Value) (hx : a.eval x = vs) (hsl : Sl w size vs m news) (h1 : ∀ u ∈ news, u.oneCell' = true)
    (h63 : n + m ≤ maxLen) (hbytes : (n + m) * bytes ≤ 140737488355328) (hbase : base ≤ w.heap.size)
    (h : ∀ v' w', w'.ownsRow base e size v' (n + m) (xs ++ news) → w.grownBy w' v.ownBlock → (v'.ownBlock = v.ownBlock ∨ v'.ownBlock = some w.heap.size) → K (a.put o.dst v') w') : o.wp P a w K Q := by
  have at_own : ∀ (ad : Addr) (c : Nat) (hx : a.eval x = .slice (some ad) m c) (hnews : ∀ j u, news[j]? = some u → w.cell? (ad.add j) = some u), o.wp P a w K Q := by
    intro ad c hx hnews
    obtain ⟨i, hi, hz, hz1, hz2⟩ := info_parts hi
    obtain ⟨v', w', hr, h2, h3, _, h5⟩ := run_append_own_at (P := P) w base t o.type e i z size bytes ht hi hz hz1 hz2 hzs hsz v n xs hown ad m c news hsl.1 hnews h1 h63 hbytes hbase
    unfold Oper.wp execOp
    simp only [ho, resolve, invoke, builtin, Sem.run_bind, Sem.run_pure, Result.andThen_ok, List.map_toArray, List.map_cons, List.map_nil, hs, hx, hr]
    exact h v' w' h2 h3 h5
  obtain ⟨i, hi, hz, hz1, hz2⟩ := info_parts hi
  have hsl0 := hsl
  rcases hsl.2 with ⟨rfl, a0, cap0, rfl, hnone⟩ | ⟨g, off, cap, cur, T, rfl, h2, h3, h4, h5⟩
  · have hnews : news = [] := List.eq_nil_of_length_eq_zero (by simpa using hsl.1)
    subst hnews
    cases a0 with
    | none =>
      rw [hnone rfl] at hx
      have hrun := run_append_owned_none (P := P) (w := w) base t o.type e i size ht hi v n xs hown
      unfold Oper.wp
      simp only [execOp, ho, resolve, invoke, builtin, Sem.run_bind, Sem.run_pure, Result.andThen_ok, List.map_toArray, List.map_cons, List.map_nil, hs, hx, hrun]
      exact h v w (by simpa using hown) ⟨rfl, rfl, rfl, Nat.le_refl _, fun _ _ _ => rfl⟩ (.inl rfl)
    | some ad => exact at_own ad cap0 hx (by simp)
  · by_cases h0 : 0 < m
    · exact at_own ⟨g, off, none⟩ cap hx (hsl0.cells h0)
    · obtain rfl : m = 0 := by omega
      have hnews : news = [] := List.eq_nil_of_length_eq_zero (by simpa using hsl.1)
      subst hnews
      exact at_own ⟨g, off, none⟩ cap hx (by simp)

/-- A slice without room: nil, or the literal of no elements. -/
def Bare (w : World) (base : Nat) (e : TypeId) (v : Value) : Prop := v = .slice none 0 0 ∨ ∃ g, v = .slice (some ⟨g, 0, none⟩) 0 0 ∧ base ≤ g ∧ w.heap[g]? = some (.cells #[] e (0, 0))

theorem run_append_bare {P : Program} (w : World) (t ty e : TypeId) (z : Value) (size bytes : Nat) (ht : P.underlying t = some (.slice e)) (hmap : (P.info? e).map (fun i => (i.zero, i.size, i.bytes)) = some (some z, size, bytes))
    (hzs : z.cells.size = size) (v vs : Value) (m : Nat) (news : List Value) (hsl : Sl w size vs m news) (h63 : m ≤ maxLen) (hbytes : m * bytes ≤ 140737488355328) (base : Nat) (hbase : base ≤ w.heap.size) (hv : Bare w base e v) :
    ∃ v' w', (Builtin.append_ #[t, t] ty #[v, vs]).run P w = .ok v' w' ∧ w'.ownsRow base e size v' m news ∧ Below w.heap.size w w' := by
  obtain ⟨i, hi, hz, rfl, rfl⟩ := info_parts hmap
  clear hmap
  have hsmall : m ≤ 9223372036854775807 := by simp only [maxLen] at h63; omega
  have made : ∀ n old, n = m → (w.drew.alloc (.cells (news.toArray ++ Builtin.zeroCells z.cells (grownCap w n old e - n)) e)).ownsRow base e i.size (.slice (some ⟨w.heap.size, 0, none⟩) n (grownCap w n old e)) n news ∧
      Below w.heap.size w (w.drew.alloc (.cells (news.toArray ++ Builtin.zeroCells z.cells (grownCap w n old e - n)) e)) := by
    intro n old hn
    subst hn
    have hge := grownCap_ge w n old e
    refine ⟨⟨hsl.1, .inr ⟨w.heap.size, _, _, rfl, hbase, heap_alloc_new w.drew _, hge, grownCap_le_maxLen w n old e h63, ?_, ?_⟩⟩, (Below.refl _ _).drew.alloc (Nat.le_refl _) _⟩
    · simp only [Array.size_append, List.size_toArray, size_zeroCells, hzs, hsl.1, ← Nat.add_mul]
      congr 1
      omega
    · simp only [Array.toList_append]
      rw [← hsl.1]
      exact List.take_left
  by_cases hm : m = 0
  · subst hm
    have hnews : news = [] := List.eq_nil_of_length_eq_zero (by simpa using hsl.1)
    subst hnews
    obtain ⟨a, cap, rfl, _⟩ := hsl.form
    refine ⟨v, w, ?_, ?_, Below.refl _ _⟩
    · rcases hv with rfl | ⟨g, rfl, _, hg⟩ <;> cases a <;> simp [Builtin.append_, run_underlying ht, sizeOf, typeInfo, hi, Builtin.lenOf, Builtin.firstCells, loadCells, loadCellsFrom, storeCells]
    · rcases hv with rfl | ⟨g, rfl, hb, hg⟩
      · exact World.ownsRow_nil _ _ _ _
      · exact ⟨by simp, .inr ⟨g, 0, #[], rfl, hb, hg, Nat.le_refl _, Nat.zero_le _, by simp, by simp⟩⟩
  · obtain ⟨a, cap, rfl, hc⟩ := hsl.form
    obtain ⟨g0, off, rfl, _⟩ := hc 0 (by omega)
    have hcells := hsl.cells (by omega)
    rcases hv with rfl | ⟨g, rfl, hb, hg⟩
    · have hr := run_append_nil (P := P) w t ty e i z ht hi hz ⟨g0, off, none⟩ m cap news hsl.1 hcells (by omega) (by omega) (by omega)
      exact ⟨_, _, hr, (made m 0 rfl).1, (made m 0 rfl).2⟩
    · have hr := run_append_grow (P := P) w t ty e i z ht hi hz ⟨g, 0, none⟩ 0 0 [] (by simp) (by simp) ⟨g0, off, none⟩ m cap news hsl.1 hcells (by omega) (by omega) (growslice_fits (by omega) (by simpa using hbytes))
      simp only [Nat.zero_add, Array.empty_append] at hr
      exact ⟨_, _, hr, (made m 0 rfl).1, (made m 0 rfl).2⟩

/-- An append to a bare slice: a copy of the call's own. -/
theorem wp_copy_sl {P : Program} {w : World} {o : Oper} {a : Act} {K : Act → World → Prop} {Q : Exit → Act → World → Prop} (s x : Operand) (t : TypeId)
    (ho : o.op = .call { callee := .builtin .append, args := #[s, x], argTypes := #[t, t] })
    (base : Nat) (e : TypeId) (z : Value) (size bytes : Nat) (ht : P.underlying t = some (.slice e)) (hi : (P.info? e).map (fun i => (i.zero, i.size, i.bytes)) = some (some z, size, bytes))
    (hzs : z.cells.size = size) (v : Value) (hs : a.eval s = v) (hv : Bare w base e v)
    (vs : Value) (m : Nat) (news : List Value) (hx : a.eval x = vs) (hsl : Sl w size vs m news)
    (h63 : m ≤ maxLen) (hbytes : m * bytes ≤ 140737488355328) (hbase : base ≤ w.heap.size)
    (h : ∀ v' w', w'.ownsRow base e size v' m news → Below w.heap.size w w' → K (a.put o.dst v') w') : o.wp P a w K Q := by
  obtain ⟨v', w', hr, h1, h2⟩ := run_append_bare (P := P) w t o.type e z size bytes ht hi hzs v vs m news hsl h63 hbytes base hbase hv
  unfold Oper.wp execOp
  simp only [ho, resolve, invoke, builtin, Sem.run_bind, Sem.run_pure, Result.andThen_ok, List.map_toArray, List.map_cons, List.map_nil, hs, hx, hr]
  exact h v' w' h1 h2

/-- 'v[k:]'. -/
theorem Sl.drop {w : World} {sz g off cap n k : Nat} {xs : List Value} (h : Sl w sz (.slice (some ⟨g, off, none⟩) n cap) n xs) (hk : k ≤ n) (hn : 0 < n) (a' : Option Addr) (ha : k < cap → a' = some ⟨g, off + k * sz, none⟩) (ha' : a' ≠ none) :
    Sl w sz (.slice a' (n - k) (cap - k)) (n - k) (xs.drop (k * sz)) := by
  refine ⟨by rw [List.length_drop, h.1, Nat.sub_mul], ?_⟩
  rcases h.2 with ⟨rfl, _⟩ | ⟨g', off', cap', cur, T, he, h2, h3, h4, h5⟩
  · omega
  · simp only [Value.slice.injEq, Option.some.injEq, Addr.mk.injEq, and_true, true_and] at he
    obtain ⟨⟨rfl, rfl⟩, rfl⟩ := he
    by_cases hkn : k < n
    · refine .inr ⟨g, off + k * sz, cap - k, cur, T, by rw [ha (by omega)], by omega, h3, ?_, ?_⟩
      · have : (cap - k) * sz + k * sz = cap * sz := by rw [← Nat.add_mul]; congr 1; omega
        omega
      · rw [← h5, List.drop_take, List.drop_drop, ← Nat.sub_mul, Nat.add_comm]
    · refine .inl ⟨by omega, a', cap - k, by rw [show n - k = 0 by omega], fun e => absurd e ha'⟩

/-- A slice of int. -/
def Ints (w : World) (v : Value) (l : List Int) : Prop := Sl w 1 v l.length (l.map (Value.int .i64))

theorem Ints.below {w w' : World} {v : Value} {l : List Int} (h : Ints w v l) (hb : Below w.heap.size w w') : Ints w' v l := Sl.below h hb

/-- A slice of int that the call has made, in blocks from base on. -/
def OwnI (w : World) (base : Nat) (v : Value) (l : List Int) : Prop := w.ownsRow base 3 1 v l.length (l.map (Value.int .i64))
theorem OwnI.ints {w : World} {base : Nat} {v : Value} {l : List Int} (h : OwnI w base v l) : Ints w v l := sl_of_owns h
theorem OwnI.below {w w' : World} {base : Nat} {v : Value} {l : List Int} (h : OwnI w base v l) (hb : Below w.heap.size w w') : OwnI w' base v l := owns_below h hb
theorem OwnI.base {w : World} {base base' : Nat} {v : Value} {l : List Int} (h : OwnI w base v l) (hb : base' ≤ base) : OwnI w base' v l := owns_base h hb

theorem OwnI.made {w : World} {base : Nat} (hb : base ≤ w.heap.size) : OwnI (w.alloc (.cells #[] 3)) base (.slice (some ⟨w.heap.size, 0, none⟩) 0 0) [] :=
  World.ownsRow_made w #[] 0 hb (by simp [maxLen]) (by simp)
theorem OwnI.grown {w w' : World} {base : Nat} {row : Option Nat} {v : Value} {l : List Int} (h : OwnI w base v l) (hg : w.grownBy w' row) (hne : v.ownBlock = none ∨ v.ownBlock ≠ row) : OwnI w' base v l := h.kept hg hne

theorem Ints.lit1 (w : World) (x : Int) : Ints (w.alloc (.cells #[.int .i64 x] 3)) (.slice (some ⟨w.heap.size, 0, none⟩) 1 1) [x] :=
  ⟨rfl, .inr ⟨w.heap.size, 0, 1, #[.int .i64 x], (3, (0, 0)), rfl, Nat.le_refl _, heap_alloc_new w _, by simp, rfl⟩⟩
theorem OwnI.nil (w : World) (base : Nat) : OwnI w base (.slice none 0 0) [] := World.ownsRow_nil _ _ _ _
theorem Ints.lit1' {w : World} {k : Nat} (h : k = w.heap.size) (x : Int) : Ints (w.alloc (.cells #[.int .i64 x] 3)) (.slice (some ⟨k, 0, none⟩) 1 1) [x] := h ▸ Ints.lit1 w x
theorem Ints.drew {w : World} {v : Value} {l : List Int} (h : Ints w v l) : Ints w.drew v l := h
theorem OwnI.drew {w : World} {base : Nat} {v : Value} {l : List Int} (h : OwnI w base v l) : OwnI w.drew base v l := h
theorem OwnI.alloc {w : World} {base : Nat} {v : Value} {l : List Int} (h : OwnI w base v l) (o : Obj) : OwnI (w.alloc o) base v l := World.ownsRow.alloc h o
theorem OwnI.lt {w : World} {base : Nat} {v : Value} {l : List Int} (h : OwnI w base v l) : ∀ k, v.ownBlock = some k → base ≤ k ∧ k < w.heap.size := World.ownsRow.lt h
theorem OwnI.set {w : World} {base : Nat} {v : Value} {l : List Int} (h : OwnI w base v l) {p : Addr} (hp : p.block < base) (u : Value) : OwnI (w.setCell p u) base v l := ownsRow_setCell_below h hp u
theorem OwnI.form {w : World} {base : Nat} {v : Value} {l : List Int} (h : OwnI w base v l) : ∃ a c, v = .slice a l.length c := by
  obtain ⟨a, c, rfl, _⟩ := Sl.form h.ints
  exact ⟨a, c, rfl⟩

theorem ints_one (l : List Int) : ∀ u ∈ l.map (Value.int .i64), u.oneCell' = true := by
  intro u hu
  obtain ⟨x, _, rfl⟩ := List.mem_map.1 hu
  rfl
theorem infoInt : (Try.prog.info? 3).map (fun i => (i.zero, i.size, i.bytes)) = some (some (.int .i64 0), 1, 8) := by kernel_rfl

theorem wp_append_ints {w : World} {o : Oper} {a : Act} {K : Act → World → Prop} {Q : Exit → Act → World → Prop} (s x : Operand)
    (ho : o.op = .call { callee := .builtin .append, args := #[s, x], argTypes := #[30, 30] })
    (base : Nat) (v : Value) (l : List Int) (hs : a.eval s = v) (hown : OwnI w base v l) (vs : Value) (m : List Int) (hx : a.eval x = vs) (hsl : Ints w vs m)
    (hb : l.length + m.length ≤ 1099511627776) (hbase : base ≤ w.heap.size)
    (h : ∀ a' c' w', OwnI w' base (.slice a' (l ++ m).length c') (l ++ m) → w.grownBy w' v.ownBlock → ((Value.slice a' (l ++ m).length c').ownBlock = v.ownBlock ∨ (Value.slice a' (l ++ m).length c').ownBlock = some w.heap.size) → K (a.put o.dst (.slice a' (l ++ m).length c')) w') : o.wp Try.prog a w K Q :=
  wp_append_sl s x _ ho base 3 (.int .i64 0) 1 8 Try.underlying30 infoInt rfl (by omega) v _ _ hs hown vs _ _ hx hsl (ints_one m) (by simp only [maxLen]; omega) (by omega) hbase fun v' w' h1 h2 h5 =>
    have h3 : OwnI w' base v' (l ++ m) := by unfold OwnI; rw [List.length_append, List.map_append]; exact h1
    by obtain ⟨a', c', rfl⟩ := h3.form; exact h a' c' w' h3 h2 h5

theorem wp_copy_ints {w : World} {o : Oper} {a : Act} {K : Act → World → Prop} {Q : Exit → Act → World → Prop} (s x : Operand)
    (ho : o.op = .call { callee := .builtin .append, args := #[s, x], argTypes := #[30, 30] })
    (base : Nat) (v : Value) (hs : a.eval s = v) (hv : Bare w base 3 v) (vs : Value) (m : List Int) (hx : a.eval x = vs) (hsl : Ints w vs m)
    (hb : m.length ≤ 1099511627776) (hbase : base ≤ w.heap.size)
    (h : ∀ a' c' w', OwnI w' base (.slice a' m.length c') m → Below w.heap.size w w' → K (a.put o.dst (.slice a' m.length c')) w') : o.wp Try.prog a w K Q :=
  wp_copy_sl s x _ ho base 3 (.int .i64 0) 1 8 Try.underlying30 infoInt rfl v hs hv vs _ _ hx hsl (by simp only [maxLen]; omega) (by omega) hbase fun v' w' h1 h2 => by
    have h3 : OwnI w' base v' m := h1
    obtain ⟨a', c', rfl⟩ := h3.form; exact h a' c' w' h3 h2

/-- 'make([]int, 0, n)'. -/
theorem wpList_make_ints {w : World} {ops : Array Oper} {rest : List Oper} {o : Oper} {a : Act} {Q : Exit → Act → World → Prop} (hg : o.guard = none) (c : Operand)
    (hop : o.op = Op.makeSlice 30 (.const (.int .i64 0)) c) (n : Nat) (hc : a.eval c = .int .i64 n) (hn : n ≤ 1099511627776) (base : Nat) (hb : base ≤ w.heap.size)
    (hK : ∀ w', OwnI w' base (.slice (some ⟨w.heap.size, 0, none⟩) 0 n) [] → Below w.heap.size w w' → wpList Try.prog ops Q rest (a.put o.dst (.slice (some ⟨w.heap.size, 0, none⟩) 0 n)) w') :
    wpList Try.prog ops Q (o :: rest) a w := by
  obtain ⟨i0, hi0, hz0, hz1, hz2⟩ := info_parts infoInt
  exact wpList_make_own w hg (.const (.int .i64 0)) c 30 hop base 3 i0 (.int .i64 0) 1 Try.underlying30 hi0 hz0 hz1 .i64 .i64 n n rfl hc rfl (by rw [hz2]; omega) (by unfold maxLen; omega) hb
    fun w' h1 h2 => hK w' h1 ⟨h2.os, h2.tape, h2.output, h2.size, fun k hk => h2.block k hk (by simp)⟩

theorem Bare.nil {w : World} {base : Nat} {e : TypeId} : Bare w base e (.slice none 0 0) := .inl rfl
theorem Bare.lit {w : World} {base g : Nat} {e : TypeId} (hb : base ≤ g) (h : w.heap[g]? = some (.cells #[] e (0, 0))) : Bare w base e (.slice (some ⟨g, 0, none⟩) 0 0) := .inr ⟨g, rfl, hb, h⟩

theorem Ints.form {w : World} {v : Value} {l : List Int} (h : Ints w v l) : ∃ a cap, v = .slice a l.length cap ∧ ∀ k, k < l.length → ∃ g off, a = some ⟨g, off, none⟩ ∧ w.cell? ⟨g, off + k, none⟩ = some (.int .i64 (l.getD k 0)) := by
  obtain ⟨a, cap, rfl, hc⟩ := Sl.form h
  refine ⟨a, cap, rfl, fun k hk => ?_⟩
  obtain ⟨g, off, rfl, hg⟩ := hc k hk
  refine ⟨g, off, rfl, ?_⟩
  have := hg 0 (by omega)
  simp only [Nat.mul_one, Nat.add_zero] at this
  rw [this]
  simp [List.getD, hk]

theorem below_alloc (w : World) (o : Obj) : Below w.heap.size w (w.alloc o) := (Below.refl _ _).alloc (Nat.le_refl _) o

theorem below_alloc2 (w : World) (o o' : Obj) : Below w.heap.size w ((w.alloc o).alloc o') := ((Below.refl _ _).alloc (Nat.le_refl _) o).alloc (by simp) o'

/-- A block that is known whole: its cells, for the walk. -/
theorem blk {w : World} {b : Nat} {cs : Array Value} {T : TypeId} (h : w.heap[b]? = some (.cells cs T (0, 0))) : (∀ o, w.cell? ⟨b, o, none⟩ = cs[o]?) ∧ (∀ o, w.frozen? ⟨b, o, none⟩ = false) :=
  ⟨fun o => by unfold World.cell?; simp [h], fun o => by unfold World.frozen?; simp [h]⟩
theorem size_alloc (w : World) (o : Obj) : (w.alloc o).heap.size = w.heap.size + 1 := by simp
theorem size_drew (w : World) : w.drew.heap.size = w.heap.size := rfl
theorem size_drewN (w : World) (n : Nat) : (w.drewN n).heap.size = w.heap.size := rfl
theorem size_set (w : World) (p : Addr) (v : Value) : (w.setCell p v).heap.size = w.heap.size := by simp [World.setCell]
theorem look_new {w : World} {o : Obj} {k : Nat} (h : k = w.heap.size) : (w.alloc o).heap[k]? = some o := by subst h; exact heap_alloc_new w o
theorem look_old {w : World} {o : Obj} {k : Nat} {x : Obj} (h : w.heap[k]? = some x) : (w.alloc o).heap[k]? = some x := by
  rw [show (w.alloc o).heap = w.heap.push o from rfl, Array.getElem?_push, if_neg (by have := (Array.getElem?_eq_some_iff.1 h).1; omega)]; exact h
theorem look_drew {w : World} {k : Nat} {x : Obj} (h : w.heap[k]? = some x) : w.drew.heap[k]? = some x := h
theorem look_drewN {w : World} {k n : Nat} {x : Obj} (h : w.heap[k]? = some x) : (w.drewN n).heap[k]? = some x := h
theorem look_ne {w : World} {p : Addr} {v : Value} {k : Nat} {x : Obj} (hne : p.block ≠ k) (h : w.heap[k]? = some x) : (w.setCell p v).heap[k]? = some x := by
  simp only [World.setCell, Array.getElem?_modify]; rw [if_neg hne]; exact h
theorem look_set {w : World} {b o : Nat} {v : Value} {cs : Array Value} {T : TypeId} {fz : Nat × Nat} (h : w.heap[b]? = some (.cells cs T fz)) : (w.setCell ⟨b, o, none⟩ v).heap[b]? = some (.cells (cs.setIfInBounds o v) T fz) := by
  simp only [World.setCell, Array.getElem?_modify, if_true, h, Option.map_some]; rfl
theorem look_grown {w w' : World} {k : Nat} {x : Obj} {row : Option Nat} (hg : w.grownBy w' row) (hne : some k ≠ row) (h : w.heap[k]? = some x) : w'.heap[k]? = some x := (hg.block k (Array.getElem?_eq_some_iff.1 h).1 hne).trans h
theorem grown_refl (w : World) (row : Option Nat) : w.grownBy w row := ⟨rfl, rfl, rfl, Nat.le_refl _, fun _ _ _ => rfl⟩
theorem grown_set {w w1 : World} {r o : Nat} (h : w.grownBy w1 (some r)) (v : Value) : w.grownBy (w1.setCell ⟨r, o, none⟩ v) (some r) :=
  ⟨h.os, h.tape, h.output, by rw [size_set]; exact h.size, fun k hk hne => (Below.heap_setCell _ _ _ _ (by intro e; exact hne (by rw [e]))).trans (h.block k hk hne)⟩
theorem grown_drew {w w1 : World} {row : Option Nat} (h : w.grownBy w1 row) : w.grownBy w1.drew row := ⟨h.os, h.tape, h.output, h.size, h.block⟩
theorem grown_own {w w1 w2 : World} {row row' : Option Nat} (h : w.grownBy w1 row) (hg : w1.grownBy w2 row') (hr : ∀ j, row' = some j → w.heap.size ≤ j) : w.grownBy w2 row :=
  ⟨hg.os.trans h.os, hg.tape.trans h.tape, hg.output.trans h.output, Nat.le_trans h.size hg.size, fun k hk hne => (hg.block k (Nat.lt_of_lt_of_le hk h.size) (fun e => by have := hr k e.symm; omega)).trans (h.block k hk hne)⟩
theorem grown_new {w w1 : World} {row : Option Nat} (h : w.grownBy w1 row) {p : Addr} (hp : w.heap.size ≤ p.block) (v : Value) : w.grownBy (w1.setCell p v) row :=
  ⟨h.os, h.tape, h.output, by rw [size_set]; exact h.size, fun k hk hne => (Below.heap_setCell _ _ _ _ (by omega)).trans (h.block k hk hne)⟩
theorem grown_undrew {w w1 : World} {row : Option Nat} (h : w.drew.grownBy w1 row) : w.grownBy w1 row := ⟨h.os, h.tape, h.output, h.size, h.block⟩
theorem grown_trans {w w1 w2 : World} {row : Option Nat} (h : w.grownBy w1 row) (h2 : w1.grownBy w2 row) : w.grownBy w2 row :=
  ⟨h2.os.trans h.os, h2.tape.trans h.tape, h2.output.trans h.output, Nat.le_trans h.size h2.size, fun k hk hne => (h2.block k (Nat.lt_of_lt_of_le hk h.size) hne).trans (h.block k hk hne)⟩
theorem grown_of_below {w w1 : World} (h : Below w.heap.size w w1) (row : Option Nat) : w.grownBy w1 row := ⟨h.os, h.tape, h.output, h.size, fun k hk _ => h.block k hk⟩
theorem grown_alloc {w w1 : World} {row : Option Nat} (h : w.grownBy w1 row) (o : Obj) : w.grownBy (w1.alloc o) row := grown_trans h (grown_of_below (below_alloc w1 o) row)
theorem OwnI.set_ne {w : World} {base : Nat} {v : Value} {l : List Int} (h : OwnI w base v l) {b o : Nat} (hp : ∀ j, v.ownBlock = some j → j ≠ b) (u : Value) : OwnI (w.setCell ⟨b, o, none⟩ u) base v l :=
  h.grown (grown_set (grown_refl w (some b)) u) (.inr fun e => hp b e rfl)
theorem below_drewN {B : Nat} {w w1 : World} (h : Below B w w1) (n : Nat) : Below B w (w1.drewN n) := ⟨h.os, h.tape, h.output, h.size, h.block⟩
theorem below_undrew {w w1 : World} (h : Below w.drew.heap.size w.drew w1) : Below w.heap.size w w1 := ⟨h.os, h.tape, h.output, h.size, h.block⟩
theorem below_of_grown {w w1 w2 : World} {B r : Nat} (h : Below B w w1) (hg : w1.grownBy w2 (some r)) (hB : B ≤ w1.heap.size) (hr : B ≤ r) : Below B w w2 := h.grown hg hB (by simp; omega)

theorem look_below {w w' : World} {B k : Nat} {x : Obj} (hb : Below B w w') (hk : k < B) (h : w.heap[k]? = some x) : w'.heap[k]? = some x := (hb.block k hk).trans h

/-- Below, out of what a call leaves over blocks that were made before it. -/
theorem below_of {w w1 w2 : World} (h : Below w.heap.size w w1) (h2 : Below w1.heap.size w1 w2) : Below w.heap.size w w2 := h.trans (h2.mono h.size)

theorem entry1 {w w1 : World} {A : Obj} (h : Below (w.alloc A).heap.size (w.alloc A) w1) : w1.heap[w.heap.size]? = some A ∧ w.heap.size + 1 ≤ w1.heap.size ∧ Below w.heap.size w w1 :=
  ⟨look_below h (by simp) (look_new rfl), by have := h.size; simpa using this, below_of (below_alloc w A) h⟩
theorem entry2 {w w1 : World} {A B : Obj} (h : Below ((w.alloc A).alloc B).heap.size ((w.alloc A).alloc B) w1) : w1.heap[w.heap.size]? = some A ∧ w1.heap[w.heap.size + 1]? = some B ∧ w.heap.size + 2 ≤ w1.heap.size ∧ Below w.heap.size w w1 :=
  ⟨look_below h (by simp; omega) (look_old (look_new rfl)), look_below h (by simp) (look_new (by simp)), by have := h.size; simpa using this, below_of (below_alloc2 w A B) h⟩
theorem entry3 {w w1 : World} {A B C : Obj} (h : Below (((w.alloc A).alloc B).alloc C).heap.size (((w.alloc A).alloc B).alloc C) w1) :
    w1.heap[w.heap.size]? = some A ∧ w1.heap[w.heap.size + 1]? = some B ∧ w1.heap[w.heap.size + 2]? = some C ∧ w.heap.size + 3 ≤ w1.heap.size ∧ Below w.heap.size w w1 :=
  ⟨look_below h (by simp; omega) (look_old (look_old (look_new rfl))), look_below h (by simp) (look_old (look_new (by simp))), look_below h (by simp) (look_new (by simp)), by have := h.size; simpa using this,
    below_of ((below_alloc2 w A B).alloc (by simp; omega) C) h⟩

theorem bcell {W w1 : World} (hb : Below W.heap.size W w1) : (∀ b o, b < W.heap.size → w1.cell? ⟨b, o, none⟩ = W.cell? ⟨b, o, none⟩) ∧ (∀ b o, b < W.heap.size → w1.frozen? ⟨b, o, none⟩ = W.frozen? ⟨b, o, none⟩) :=
  ⟨fun b o h => hb.cell (p := ⟨b, o, none⟩) h, fun b o h => hb.frozen (p := ⟨b, o, none⟩) h⟩

theorem ret_b {x y : Bool} (h : x = y) : Ending.returned (.bool x) = .returned (.bool y) := by rw [h]
theorem ret_i {k : IntKind} {x y : Int} (h : x = y) : Ending.returned (.int k x) = .returned (.int k y) := by rw [h]

/-! ### Plain facts -/
def byteB (x : Int) : Bool := decide (0 ≤ x) && decide (x ≤ 255)
def allB (l : List Int) : Bool := l.all byteB
theorem allB_take_succ (l : List Int) (k : Nat) (hk : k < l.length) : allB (l.take (k + 1)) = (allB (l.take k) && byteB (l.getD k 0)) := by
  unfold allB
  rw [List.take_add_one, List.getD_eq_getElem?_getD]
  have h1 : l[k]? = some l[k] := List.getElem?_eq_getElem hk
  rw [h1]
  simp only [Option.toList_some, List.all_append, List.all_cons, List.all_nil, Option.getD_some, Bool.and_true]
theorem allB_false (l : List Int) (k : Nat) (hk : k < l.length) (h : byteB (l.getD k 0) = false) : allB l = false := by
  simp only [allB, List.all_eq_false]
  exact ⟨l[k], List.getElem_mem hk, by simpa [List.getD, hk] using h⟩

theorem Ints.cons {w : World} {v : Value} {x : Int} {l : List Int} (h : Ints w v (x :: l)) : ∃ g off cap, v = .slice (some ⟨g, off, none⟩) (l.length + 1) cap ∧ g < w.heap.size ∧ l.length + 1 ≤ cap ∧ w.cell? ⟨g, off, none⟩ = some (.int .i64 x) := by
  rcases h.2 with ⟨h0, _⟩ | ⟨g, off, cap, cur, T, rfl, h2, h3, h4, h5⟩
  · simp at h0
  · refine ⟨g, off, cap, rfl, (Array.getElem?_eq_some_iff.1 h3).1, by simpa using h2, ?_⟩
    have := Sl.cells h (by simp) 0 _ (by simp; rfl)
    simpa [Addr.add] using this
theorem Ints.nil {w : World} {v : Value} (h : Ints w v []) : ∃ a cap, v = .slice a 0 cap := by
  obtain ⟨a, cap, rfl, _⟩ := Sl.form h
  exact ⟨a, cap, rfl⟩
theorem Ints.tail {w : World} {x : Int} {l : List Int} {g off cap : Nat} (h : Ints w (.slice (some ⟨g, off, none⟩) (l.length + 1) cap) (x :: l)) (a' : Option Addr) (ha : 1 < cap → a' = some ⟨g, off + 1, none⟩) (ha' : a' ≠ none) : Ints w (.slice a' l.length (cap - 1)) l := by
  have := Sl.drop h (k := 1) (by simp) (by simp) a' (by simpa using ha) ha'
  simpa [Ints] using this

/-- 'v[1:]': where the rest lies, without a case on the capacity. -/
theorem slice_from1 (g off n cap : Nat) (hc : n + 1 ≤ cap) (hm : n + 1 ≤ 9223372036854775807) : ∃ a', (1 < cap → a' = some ⟨g, off + 1, none⟩) ∧ a' ≠ none ∧
    ∀ w, (Instr.sliceAt 30 (.slice (some ⟨g, off, none⟩) (n + 1) cap) (some (.int .i64 1)) none none).run Try.prog w = .ok (.slice a' n (cap - 1)) w := by
  have hi : (1 : Int) ≤ (n : Int) + 1 := by omega
  by_cases h1 : cap = 1
  · subst h1
    refine ⟨some ⟨g, off, none⟩, by omega, by simp, fun w => ?_⟩
    simp [Instr.sliceAt, Instr.slice, run_underlying Try.underlying30, Instr.sliceBounds, Instr.sliceBound, asIntOf, hi]
  · refine ⟨some ⟨g, off + 1, none⟩, fun _ => rfl, by simp, fun w => ?_⟩
    simp [Instr.sliceAt, Instr.slice, run_underlying Try.underlying30, Instr.sliceBounds, Instr.sliceBound, asIntOf, hi, h1, Addr.add]

/-- A queue is valid. -/
def fifoB (room : Int) (l : List Int) : Bool := decide (1 ≤ room) && decide (room ≤ 16) && decide ((l.length : Int) ≤ room) && allB l

end Go.Proofs.Ytacjfkodndkaeaa
