/-
  One operation: what the abstract walk says of it is what it does. Plain lemmas; the conditions are the types' rows (TIok) and the contracts (CSok).
-/
import Derived.Test.YtacjfkodndkaeaaAbsE
import Derived.Laws.OwnMore
import Derived.Laws.MakeOwn
namespace Go.Proofs.Ytacjfkodndkaeaa
open Go.RowKit
namespace Ab
section
variable {P : Program} {cx : Cx} {β : List En} {hp : Hp} {w : World}

theorem below_al (w : World) (o : Obj) : Below w.heap.size w (w.alloc o) := (Below.refl _ _).alloc (Nat.le_refl _) o

theorem vrun2 {s : Sem Value} {v : Value} {w w' : World} (h : s.run P w = .ok v w') : (do pure (Next.value (← s)) : Sem Next).run P w = .ok (.value v) w' := by
  simp [h]
theorem LCs.ext' {β' : List En} (hx : Ext β β') {xs : List LV} {vs : List Value} (h : LCs cx β xs vs) : LCs cx β' xs vs := LCs.ext hx h

/-- A list of zeros, as it is made. -/
theorem repl_enc (ek : EK) (n : Nat) : (ek.repl n).sz = ek.sz ∧ (ek.repl n).len = n ∧ (ek.repl n).enc = (madeCells ek.zero.cells (n * ek.sz)).toList := by
  refine ⟨by cases ek <;> rfl, by cases ek <;> simp [EK.repl, EL.len], ?_⟩
  apply List.ext_getElem?
  intro j
  have h2 : ∀ n : Nat, (List.replicate n ((0 : Int), (0 : Int))).flatMap (fun g => [Value.int .i64 g.1, .int .i64 g.2]) = List.replicate (n * 2) (.int .i64 0) := by
    intro n
    induction n with
    | zero => rfl
    | succ n ih => rw [List.replicate_succ, List.flatMap_cons, ih, Nat.add_mul]; rfl
  have h3 : ∀ n : Nat, (List.replicate n ((0 : Int), (0 : Int), (0 : Int))).flatMap (fun g => [Value.int .i64 g.1, .int .i64 g.2.1, .int .i64 g.2.2]) = List.replicate (n * 3) (.int .i64 0) := by
    intro n
    induction n with
    | zero => rfl
    | succ n ih => rw [List.replicate_succ, List.flatMap_cons, ih, Nat.add_mul]; rfl
  cases ek with
  | k3 =>
    simp only [EK.repl, EL.enc, EK.zero, EK.sz, madeCells, h3, List.getElem?_replicate]
    by_cases hj : j < n * 3
    · have : j % 3 = 0 ∨ j % 3 = 1 ∨ j % 3 = 2 := by omega
      rcases this with e | e | e <;> simp [hj, Value.cells, e]
    · simp [hj]
  | ints =>
    simp only [EK.repl, EL.enc, EK.zero, EK.sz, madeCells, List.map_replicate, List.getElem?_replicate]
    by_cases hj : j < n
    · simp [hj, Nat.mod_one, Value.cells]
    · simp [hj]
  | bytes =>
    simp only [EK.repl, EL.enc, EK.zero, EK.sz, madeCells, List.map_replicate, List.getElem?_replicate]
    by_cases hj : j < n
    · simp [hj, Nat.mod_one, Value.cells]
    · simp [hj]
  | gots =>
    simp only [EK.repl, EL.enc, EK.zero, EK.sz, madeCells, h2, List.getElem?_replicate]
    by_cases hj : j < n * 2
    · have : j % 2 = 0 ∨ j % 2 = 1 := by omega
      rcases this with e | e <;> simp [hj, Value.cells, e]
    · simp [hj]
/-- An element's place in the cells. -/
theorem gots_split (l : List (Int × Int)) (i : Nat) (h : i < l.length) : ∃ A B : List Value, A.length = i * 2 ∧ (EL.gots l).enc = A ++ .int .i64 (l.getD i (0, 0)).1 :: .int .i64 (l.getD i (0, 0)).2 :: B ∧ ∀ g : Int × Int, (EL.gots (l.set i g)).enc = A ++ .int .i64 g.1 :: .int .i64 g.2 :: B := by
  refine ⟨(EL.gots (l.take i)).enc, (EL.gots (l.drop (i + 1))).enc, ?_, ?_, fun g => ?_⟩
  · have := EL.enc_len (.gots (l.take i))
    rw [this]
    simp [EL.len, EL.sz, Nat.min_eq_left (Nat.le_of_lt h)]
  · have e : l = l.take i ++ l[i] :: l.drop (i + 1) := by
      rw [← List.drop_eq_getElem_cons h, List.take_append_drop]
    have hg : l.getD i (0, 0) = l[i] := by simp [List.getD, h]
    rw [hg]
    conv => lhs; rw [e]
    simp only [EL.enc, List.flatMap_append, List.flatMap_cons, List.cons_append, List.nil_append]
  · rw [List.set_eq_take_append_cons_drop, if_pos h]
    simp only [EL.enc, List.flatMap_append, List.flatMap_cons, List.cons_append, List.nil_append]
theorem k3_split (l : List (Int × Int × Int)) (i : Nat) (h : i < l.length) : ∃ (A B : List Value) (x y z : Value), A.length = i * 3 ∧ (EL.k3 l).enc = A ++ x :: y :: z :: B ∧ ∀ g : Int × Int × Int, (EL.k3 (l.set i g)).enc = A ++ .int .i64 g.1 :: .int .i64 g.2.1 :: .int .i64 g.2.2 :: B := by
  refine ⟨(EL.k3 (l.take i)).enc, (EL.k3 (l.drop (i + 1))).enc, .int .i64 l[i].1, .int .i64 l[i].2.1, .int .i64 l[i].2.2, ?_, ?_, fun g => ?_⟩
  · have := EL.enc_len (.k3 (l.take i))
    rw [this]
    simp [EL.len, EL.sz, Nat.min_eq_left (Nat.le_of_lt h)]
  · have e : l = l.take i ++ l[i] :: l.drop (i + 1) := by
      rw [← List.drop_eq_getElem_cons h, List.take_append_drop]
    conv => lhs; rw [e]
    simp only [EL.enc, List.flatMap_append, List.flatMap_cons, List.cons_append, List.nil_append]
  · rw [List.set_eq_take_append_cons_drop, if_pos h]
    simp only [EL.enc, List.flatMap_append, List.flatMap_cons, List.cons_append, List.nil_append]
theorem ints_split (l : List Int) (i : Nat) (h : i < l.length) : ∃ (A B : List Value) (y : Value), A.length = i ∧ (EL.ints l).enc = A ++ y :: B ∧ ∀ g : Int, (EL.ints (l.set i g)).enc = A ++ .int .i64 g :: B := by
  refine ⟨(EL.ints (l.take i)).enc, (EL.ints (l.drop (i + 1))).enc, .int .i64 l[i], ?_, ?_, fun g => ?_⟩
  · simp [EL.enc, Nat.min_eq_left (Nat.le_of_lt h)]
  · have e : l = l.take i ++ l[i] :: l.drop (i + 1) := by
      rw [← List.drop_eq_getElem_cons h, List.take_append_drop]
    conv => lhs; rw [e]
    simp only [EL.enc, List.map_append, List.map_cons]
  · rw [List.set_eq_take_append_cons_drop, if_pos h]
    simp only [EL.enc, List.map_append, List.map_cons]
theorem setEL_spec {l : EL} {i off : Nat} {vs : List LV} {us : List Value} {K : EL → Prop} (hv : LCs cx β vs us) (hlt : i < l.len) (h : setEL l i off vs K) :
    ∃ l', K l' ∧ l'.len = l.len ∧ l'.sz = l.sz ∧ off + vs.length ≤ l.sz ∧ l'.enc = l.enc.take (i * l.sz + off) ++ us ++ l.enc.drop (i * l.sz + off + us.length) := by
  have one : ∀ {x : Value} {us : List Value}, LCs cx β [.v x] us → us = [x] := fun {x us} hv => by
    cases us with
    | nil => exact hv.elim
    | cons a r => cases r with
      | nil => obtain ⟨⟨_, e⟩, _⟩ := hv; rw [e]
      | cons _ _ => exact hv.2.elim
  have two : ∀ {x y : Value} {us : List Value}, LCs cx β [.v x, .v y] us → us = [x, y] := fun {x y us} hv => by
    cases us with
    | nil => exact hv.elim
    | cons a r =>
      obtain ⟨⟨_, e⟩, h2⟩ := hv
      have e : a = x := e
      rw [e, one h2]
  have three : ∀ {x y z : Value} {us : List Value}, LCs cx β [.v x, .v y, .v z] us → us = [x, y, z] := fun {x y z us} hv => by
    cases us with
    | nil => exact hv.elim
    | cons a r =>
      obtain ⟨⟨_, e⟩, h2⟩ := hv
      have e : a = x := e
      rw [e, two h2]
  unfold setEL at h
  split at h
  · rename_i l
    split at h
    · split at h
      · rename_i x
        have e := one hv
        subst e
        obtain ⟨A, B, y, h1, h2, h3⟩ := ints_split l i hlt
        refine ⟨_, h, by simp [EL.len], rfl, by simp [EL.sz], ?_⟩
        rw [h3, h2]
        simp [EL.sz, ← h1]
      · exact h.elim
    · exact h.elim
  · rename_i l
    obtain ⟨A, B, h1, h2, h3⟩ := gots_split l i hlt
    have e1 : i * (EL.gots l).sz = A.length := h1.symm
    split at h
    · split at h
      · have e := one hv
        subst e
        refine ⟨_, h, by simp [EL.len], rfl, by simp [EL.sz], ?_⟩
        rw [h3, h2, e1]
        simp
      · have e := two hv
        subst e
        refine ⟨_, h, by simp [EL.len], rfl, by simp [EL.sz], ?_⟩
        rw [h3, h2, e1]
        simp
      · exact h.elim
    · split at h
      · have e := one hv
        subst e
        refine ⟨_, h, by simp [EL.len], rfl, by simp [EL.sz], ?_⟩
        rw [h3, h2, e1]
        simp only [List.take_length_add_append, List.drop_length_add_append, Nat.add_assoc, List.take_succ_cons, List.take_zero, List.drop_succ_cons, List.drop_zero, List.length_singleton]
        simp
      · exact h.elim
    · exact h.elim
  · exact h.elim
  · rename_i l
    obtain ⟨A, B, x0, y0, z0, h1, h2, h3⟩ := k3_split l i hlt
    have e1 : i * (EL.k3 l).sz = A.length := h1.symm
    split at h
    · split at h
      · have e := three hv
        subst e
        refine ⟨_, h, by simp [EL.len], rfl, by simp [EL.sz], ?_⟩
        rw [h3, h2, e1]
        simp
      · exact h.elim
    · exact h.elim
theorem owns_store {w : World} {base : Nat} {E : TypeId} {sz g n cap : Nat} {xs us : List Value} {j : Nat} (h : w.ownsRow base E sz (.slice (some ⟨g, 0, none⟩) n cap) n xs) (hj : j + us.length ≤ n * sz) :
    ∃ cur, w.heap[g]? = some (.cells cur E (0, 0)) ∧ j + us.length ≤ cur.size ∧ ∀ w' : World, w'.heap[g]? = some (.cells (cur.toList.take j ++ us ++ cur.toList.drop (j + us.length)).toArray E (0, 0)) → w'.ownsRow base E sz (.slice (some ⟨g, 0, none⟩) n cap) n (xs.take j ++ us ++ xs.drop (j + us.length)) := by
  obtain ⟨h1, h2 | ⟨g', cap', cur, h2, h3, h4, h5, h6, h7, h8⟩⟩ := h
  · cases h2.1
  · simp only [Value.slice.injEq, Option.some.injEq, Addr.mk.injEq, true_and, and_true] at h2
    obtain ⟨rfl, rfl⟩ := h2
    have hle : n * sz ≤ cur.size := by rw [h7]; exact Nat.mul_le_mul_right _ h5
    refine ⟨cur, h4, by omega, fun w' hw => ⟨?_, .inr ⟨g, cap, _, rfl, h3, hw, h5, h6, ?_, ?_⟩⟩⟩
    · simp only [List.length_append, List.length_take, List.length_drop, h1]
      omega
    · simp only [List.size_toArray, List.length_append, List.length_take, List.length_drop, Array.length_toList, h7] at *
      omega
    · rw [← h8]
      apply List.ext_getElem?
      intro q
      simp only [List.getElem?_take, List.getElem?_append, List.getElem?_drop, List.length_append, List.length_take, Array.length_toList]
      rw [Nat.min_eq_left (by omega : j ≤ cur.size), Nat.min_eq_left (by omega : n * sz ≤ cur.size), Nat.min_eq_left (by omega : j ≤ n * sz)]
      repeat' split
      all_goals first | rfl | omega | (congr 1; omega)

theorem meth_spec : ∀ {ms : List (String × FuncId × Bool)} {m : String} {K : FuncId → Bool → Prop}, methK ms m K → ∃ f p, (m, f, p) ∈ ms ∧ K f p
  | [], _, _, h => h.elim
  | (n, f, p) :: r, m, K, h => by
    unfold methK at h
    split at h
    · rename_i e
      have e : n = m := by simpa using e
      subst e
      exact ⟨f, p, by simp, h⟩
    · obtain ⟨f', p', h1, h2⟩ := meth_spec (ms := r) h
      exact ⟨f', p', by simp [h1], h2⟩
theorem run_invoke {ρ : Operand → Value} {dst : Option Tmp} {rv : Operand} {name : String} {args : Array Operand} {ats : Array TypeId} {ty : TypeId} {pos : String} {after : Array Edge} {guard : Option (Nat × Bool)} {t : TypeId} {v r : Value} {f : FuncId} {w : World}
    (he : ρ rv = .iface t v) (hm : (method (P.types.size + Made.depth) t v name).run P w = .ok (f, r) w) (hc : (callFunc f (#[r] ++ args.map ρ)).run P w = .ok (.enter f (#[r] ++ args.map ρ)) w) :
    (execOp ρ { dst := dst, op := .call { callee := .invoke rv name, args := args, argTypes := ats }, type := ty, pos := pos, after := after, guard := guard }).run P w = .ok (.enter f (#[r] ++ args.map ρ)) w := by
  have h2 : (#[ρ rv] ++ args.map ρ)[0]? = some (.iface t v) := by rw [he, Array.getElem?_append_left (by simp)]; rfl
  have h3 : (#[ρ rv] ++ args.map ρ).extract 1 (#[ρ rv] ++ args.map ρ).size = args.map ρ := by
    apply Array.toList_inj.1
    simp
    rw [List.take_of_length_le (by simp)]
  simp only [execOp, resolve, Sem.run_bind, Sem.run_pure, Result.andThen_ok, invoke, h2, h3, callMethod]
  simp only [run_program, Result.andThen_ok, hm, hc]
theorem load_blk {t : TypeId} {ti : TI} (hT : TIok P t ti) (hI : Inv cx β hp w) {k n : Nat} {cs : List LV} {T1 : TypeId} (h9 : hp[k]? = some (.b cs T1)) (hn : β[k]? = some (.b n)) {K : AV → Prop} (h : cutK cs 0 ti.sz ti.agg K) :
    ∃ x v, K x ∧ AC cx β x v ∧ (loadVar t ⟨n, 0, none⟩).run P w = .ok v w := by
  obtain ⟨_, us, hb, hc⟩ := hI.ent k _ _ h9 hn
  obtain ⟨r, h8, v, h9, h10⟩ := cut_load hT hb hc h
  exact ⟨r, v, h8, h9, h10 w rfl⟩
theorem eff_spec {T : Tab} {G : Env} (hT : TabOk P T) (hG : EnvOk P G) {W : Option (Nat × List Nat)} {rsv : Option Nat} {fr : Fr} {a : Act} {o : Oper} {K : Fr → Hp → Prop} {Q : Exit → Act → World → Prop}
    (hI : Inv cx β hp w) (hf : FR cx β fr a.tmps) (hr : ∀ k, (rsv = some k ∨ hp.length ≤ k) → SW W k) (h : effP T G W rsv fr hp o K) : o.wp P a w (Post cx β hp w (SW W) a K) Q := by
  have soft : (softP T none fr hp o.op fun r => putF fr o.dst r fun fr' => K fr' hp) → o.wp P a w (Post cx β hp w (SW W) a K) Q := by
    intro hs
    obtain ⟨r, h1, v, h2, h3⟩ := soft_spec hT hI hf hs
    obtain ⟨fr', h4, h5, h6⟩ := put_spec h1 hf h2
    unfold Oper.wp
    rw [h3 w rfl]
    exact ⟨fr', hp, β, h4, h5, h6, Out.refl hI⟩
  have fresh : ∀ (x : HB) (v : Value) (e : En) (o' : Obj) (r : Nat → AV), (newH rsv hp x fun k hp' => putF fr o.dst (r k) fun fr' => K fr' hp') → (execOp a.eval o).run P w = .ok (.value v) (w.alloc o') →
      (∀ b, ownE x e = some b → w.heap.size ≤ b) → (∀ β', Ext β β' → HOk cx β' (w.alloc o') x e) → (∀ (k : Nat) β', β'[k]? = some e → AC cx β' (r k) v) → o.wp P a w (Post cx β hp w (SW W) a K) Q := by
    intro x v e o' r hn hrun hown hok hac
    obtain ⟨k, hp', β', h1, h2, h3⟩ := new_spec (S := SW W) hI hn e hr (below_al w o') hown hok
    obtain ⟨fr', h4, h5, h6⟩ := put_spec h1 (hf.ext h3.ext) (hac k β' h2)
    unfold Oper.wp
    rw [hrun]
    exact ⟨fr', hp', β', h4, h5, h6, h3⟩
  have kp := hI.kp.size
  obtain ⟨dst, op, ty, pos, after, guard⟩ := o
  cases op
  case alloc t =>
    obtain ⟨ti, h1, h2⟩ := tyK_iff.1 h
    have hti := hT t ti h1
    obtain ⟨z, hz, hrz⟩ := hti.run_zero
    refine fresh _ (.pointer (some ⟨w.heap.size, 0, none⟩)) (.b w.heap.size) (.cells z.cells t) _ h2 ?_ (fun b hb => ?_) (fun β' hx => ⟨.inl kp, z.cells, heap_alloc_new w _, by rw [hz]; exact hti.zeros⟩) (fun k β' hk => ⟨rfl, _, hk, rfl⟩)
    · simp [execOp, Instr.alloc, hrz, newVar, newRow]
    · simp only [ownE, Option.some.injEq] at hb; omega
  case box t x =>
    obtain ⟨ra, h1, h2⟩ := ev_spec hf h
    obtain ⟨vs, h3, h4⟩ := cells_spec h1 h2
    refine fresh _ (.pointer (some ⟨w.heap.size, 0, none⟩)) (.b w.heap.size) (.cells (a.eval x).cells t) _ h3 ?_ (fun b hb => ?_) (fun β' hx => ⟨.inl kp, _, heap_alloc_new w _, h4.ext hx⟩) (fun k β' hk => ⟨rfl, _, hk, rfl⟩)
    · simp [execOp, Instr.box, newVar, newRow]
    · simp only [ownE, Option.some.injEq] at hb; omega
  case makeChan t n =>
    obtain ⟨ti, h1, h2⟩ := tyK_iff.1 h
    have hk' := (hT t ti h1).kind
    split at h2
    · rename_i hk
      rw [hk] at hk'
      obtain ⟨d, hd, h3⟩ := Option.bind_eq_some_iff.1 hk'
      split at h3
      · rename_i dir e
        obtain ⟨inf, hinf, h4⟩ := Option.map_eq_some_iff.1 h3
        have hby : inf.bytes ≤ 16 := by simpa using h4
        split at h2
        · refine fresh _ (.chan (some w.heap.size)) (.b w.heap.size) (.chan 1 #[] false 0 0 false) _ h2 ?_ (fun b hb => ?_) (fun β' hx => ⟨.inl kp, _, heap_alloc_new w _, 0, 0, rfl⟩) (fun k β' hk => ⟨rfl, _, hk, rfl⟩)
          · have h5 : ¬ ((inf.bytes : Int) > 281474976710544) := by omega
            have h6 : IntKind.i64.max = 9223372036854775807 := rfl
            simp [execOp, Instr.makeChan, Act.eval, asInt, asIntOf, run_underlying hd, typeInfo, hinf, newObj, h6, h5]
            rfl
          · simp only [ownE, Option.some.injEq] at hb; omega
        · exact h2.elim
      · cases h3
    · exact h2.elim
  case buildSlice t n parts =>
    obtain ⟨ti, h1, h2⟩ := tyK_iff.1 h
    have hk' := (hT t ti h1).kind
    split at h2
    · rename_i e esz ek hk
      rw [hk] at hk'
      obtain ⟨k1, k2, k3, k4⟩ := hk'
      obtain ⟨inf, hinf, e1⟩ := Option.map_eq_some_iff.1 k2
      simp only [Prod.mk.injEq] at e1
      have hs : (P.info? e).map (·.size) = some esz := by rw [hinf, Option.map_some, e1.2]
      obtain ⟨hble, h3⟩ := side_iff.1 h2
      have hle : n * esz ≤ 16777216 := by simpa using hble
      obtain ⟨cs, h4, us, h5, h6, h7⟩ := parts_spec hf 0 n _ _ h3
      obtain ⟨l, h8, h9, h10⟩ := toEL_spec h4 h5
      have hsz : 0 < esz := by rw [k4]; cases ek <;> simp [EK.sz]
      have hlsz : l.sz = esz := by rw [h10, k4]
      have hlen : l.len = n := by
        have := l.enc_len
        rw [h9, h6, hlsz] at this
        exact (Nat.eq_of_mul_eq_mul_right hsz this).symm
      have hz : ∀ w, (zeroValue e).run P w = .ok ek.zero w := fun w => by simp [zeroValue, typeInfo, hinf, e1.1]
      have mk : ∀ zc : Array Value, ∃ cells' : Array Value, Instr.fill (fun i => some (i * esz, esz)) ((Array.range (n * esz)).map (zc[· % zc.size]!)) (parts.toList.map fun x => (x.1, a.eval x.2)) = some cells' ∧ cells'.toList = us := by
        intro zc
        obtain ⟨cells', c1, c2⟩ := h7 n ((Array.range (n * esz)).map (zc[· % zc.size]!)) (by omega) (by simp)
        exact ⟨cells', c1, by rw [c2]; simp⟩
      have hrun : ∃ cells' : Array Value, cells'.toList = us ∧ (Instr.buildSlice t n (parts.map fun x => (x.1, a.eval x.2))).run P w = .ok (.slice (some ⟨w.heap.size, 0, none⟩) n n) (w.alloc (.cells cells' e)) := by
        by_cases h0 : n * esz = 0
        · obtain ⟨cells', c1, c2⟩ := mk #[]
          refine ⟨cells', c2, ?_⟩
          unfold Instr.buildSlice
          rw [Sem.run_bind, run_underlying k1, Result.andThen_ok]
          dsimp only
          rw [Sem.run_bind, run_sz hs, Result.andThen_ok, if_neg (by omega)]
          simp only [h0, if_true, Sem.run_bind, Sem.run_pure, Result.andThen_ok, Array.toList_map] at c1 ⊢
          rw [c1]
          simp [newRow]
        · obtain ⟨cells', c1, c2⟩ := mk ek.zero.cells
          refine ⟨cells', c2, ?_⟩
          unfold Instr.buildSlice
          rw [Sem.run_bind, run_underlying k1, Result.andThen_ok]
          dsimp only
          rw [Sem.run_bind, run_sz hs, Result.andThen_ok, if_neg (by omega)]
          simp only [h0, if_false, Sem.run_bind, Sem.run_pure, Result.andThen_ok, Array.toList_map, hz] at c1 ⊢
          rw [c1]
          simp [newRow]
      obtain ⟨cells', c1, c2⟩ := hrun
      refine fresh _ (.slice (some ⟨w.heap.size, 0, none⟩) n n) (.r (.slice (some ⟨w.heap.size, 0, none⟩) n n) 0) (.cells cells' e) _ h8 ?_ (fun b hb => ?_) (fun β' hx => ⟨rfl, ?_, ?_⟩) (fun k β' hk => ⟨rfl, _, _, hk, Nat.le_refl _, fun _ => rfl⟩)
      · simp only [execOp]
        exact vrun2 c2
      · simp only [ownE, Value.ownBlock, Option.some.injEq] at hb; omega
      · refine ⟨l.enc_len, .inr ⟨w.heap.size, n, cells', by rw [hlen], kp, heap_alloc_new w _, by omega, ?_, ?_, ?_⟩⟩
        · have : n ≤ n * esz := Nat.le_mul_of_pos_right n hsz
          unfold maxLen; omega
        · rw [← Array.length_toList, c1, h6, hlsz]
        · rw [c1, h9, hlen, hlsz, ← h6, List.take_length]
      · have : n ≤ n * esz := Nat.le_mul_of_pos_right n hsz
        rw [hlen]; unfold maxL; omega
    · exact h2.elim
  case makeSlice t n c =>
    obtain ⟨ti, h1, h2⟩ := tyK_iff.1 h
    have hk' := (hT t ti h1).kind
    split at h2
    · rename_i e esz ek hk
      rw [hk] at hk'
      obtain ⟨k1, k2, k3, k4⟩ := hk'
      obtain ⟨inf, hinf, e1⟩ := Option.map_eq_some_iff.1 k2
      simp only [Prod.mk.injEq] at e1
      split at h2
      · obtain ⟨ra, h3, h4⟩ := ev_spec hf h2
        split at h3
        · rename_i m
          obtain ⟨⟨m0, m1⟩, h5⟩ := side_iff.1 h3
          obtain ⟨_, hc⟩ := h4
          obtain ⟨q, rfl⟩ := Int.eq_ofNat_of_zero_le m0
          have hby : inf.bytes ≤ 32 := by
            rw [hinf] at k3
            simpa using k3
          obtain ⟨w', r1, r2, r3⟩ := run_make_own (P := P) w cx.w0.heap.size t e inf _ esz k1 hinf e1.1 e1.2 .i64 .i64 q (by
            have : inf.bytes * q ≤ 32 * q := Nat.mul_le_mul_right _ hby
            omega) (by unfold maxLen; omega) kp
          have hb : Below w.heap.size w w' := ⟨r3.os, r3.tape, r3.output, r3.size, fun k hk => r3.block k hk (by simp)⟩
          obtain ⟨k, hp', β', g1, g2, g3⟩ := new_spec (S := SW W) hI h5 (.r (.slice (some ⟨w.heap.size, 0, none⟩) 0 q) 0) hr hb (fun b hb => by simp only [ownE, Value.ownBlock, Option.some.injEq] at hb; omega) (fun β' hx => ⟨rfl, by
            rw [k4] at r2
            cases ek <;> exact r2, by cases ek <;> exact Nat.zero_le _⟩)
          obtain ⟨fr', g4, g5, g6⟩ := put_spec (v := .slice (some ⟨w.heap.size, 0, none⟩) 0 q) g1 (hf.ext g3.ext) ⟨rfl, _, _, g2, Nat.le_refl _, fun _ => rfl⟩
          unfold Oper.wp
          have hrun : (execOp a.eval { dst := dst, op := .makeSlice t (.const (.int .i64 0)) c, type := ty, pos := pos, after := after, guard := guard }).run P w = .ok (.value (.slice (some ⟨w.heap.size, 0, none⟩) 0 q)) w' := by
            simp only [execOp, hc]
            exact vrun2 r1
          rw [hrun]
          exact ⟨fr', hp', β', g4, g5, g6, g3⟩
        · exact h3.elim
      · rename_i y
        obtain ⟨ra, h3, h4⟩ := ev_spec hf h2
        split at h3
        · rename_i m
          obtain ⟨rb, h6, h7⟩ := ev_spec hf h3
          split at h6
          · rename_i m2
            obtain ⟨⟨m0, m1⟩, h8⟩ := side_iff.1 h6
            obtain ⟨hmm, h5⟩ := side_iff.1 h8
            subst hmm
            obtain ⟨_, hc0⟩ := h4
            obtain ⟨_, hc⟩ := h7
            obtain ⟨q, rfl⟩ := Int.eq_ofNat_of_zero_le m0
            have hby : inf.bytes ≤ 32 := by
              rw [hinf] at k3
              simpa using k3
            obtain ⟨w', r1, r2, r3⟩ := run_make_full (P := P) (w := w) cx.w0.heap.size t e inf _ esz k1 hinf e1.1 e1.2 .i64 .i64 q (by
              have : inf.bytes * q ≤ 32 * q := Nat.mul_le_mul_right _ hby
              omega) (by unfold maxLen; omega) kp
            have hb : Below w.heap.size w w' := ⟨r3.os, r3.tape, r3.output, r3.size, fun k hk => r3.block k hk (by simp)⟩
            obtain ⟨k, hp', β', g1, g2, g3⟩ := new_spec (S := SW W) hI h5 (.r (.slice (some ⟨w.heap.size, 0, none⟩) q q) 0) hr hb (fun b hb => by simp only [ownE, Value.ownBlock, Option.some.injEq] at hb; omega) (fun β' hx => by
              obtain ⟨z1, z2, z3⟩ := repl_enc ek q
              refine ⟨rfl, ?_, by rw [Int.toNat_natCast, z2]; unfold maxL; omega⟩
              rw [Int.toNat_natCast, z1, z2, z3, ← k4]
              exact r2)
            obtain ⟨fr', g4, g5, g6⟩ := put_spec (v := .slice (some ⟨w.heap.size, 0, none⟩) q q) g1 (hf.ext g3.ext) ⟨rfl, _, _, g2, Nat.le_refl _, fun _ => rfl⟩
            unfold Oper.wp
            have hrun : (execOp a.eval { dst := dst, op := .makeSlice t (.tmp y) c, type := ty, pos := pos, after := after, guard := guard }).run P w = .ok (.value (.slice (some ⟨w.heap.size, 0, none⟩) q q)) w' := by
              simp only [execOp, hc, hc0]
              exact vrun2 r1
            rw [hrun]
            exact ⟨fr', hp', β', g4, g5, g6, g3⟩
          · exact h6.elim
        · exact h3.elim
      · exact h2.elim
    · exact h2.elim
  case store t x y =>
    obtain ⟨ra, h1, h2⟩ := ev_spec hf h
    obtain ⟨rb, h3, h4⟩ := ev_spec hf h1
    obtain ⟨vs, h5, h6⟩ := cells_spec h3 h4
    obtain ⟨ti, h7, h8⟩ := tyK_iff.1 h5
    obtain ⟨hlen, h9⟩ := lenK_iff.1 h8
    have hti := hT t ti h7
    split at h9
    · rename_i k off
      obtain ⟨hm, h10⟩ := side_iff.1 h9
      obtain ⟨hb0, h11, h12⟩ := getH_iff.1 h10
      split at h12
      · rename_i cs T'
        obtain ⟨hle, h13⟩ := replK_iff.1 h12
        obtain ⟨hkl, h14⟩ := setH_iff.1 h13
        obtain ⟨_, n, hn, he⟩ := h2
        have ho := hI.ent k _ _ h11 hn
        obtain ⟨hreg, us, hb, hc⟩ := ho
        have hsz : (a.eval y).cells.size = ti.sz := by rw [← hlen, h6.length]; simp
        have hcl : cs.length = us.size := by rw [hc.length]; simp
        have hrun := run_storeCells_at (P := P) n off T' (a.eval y).cells.toList 0 us w hb (by rw [Nat.add_zero, Array.length_toList, hsz, ← hlen, ← hcl]; exact hle) (fun v hv => h6.one v hv)
        simp only [Nat.add_zero, Array.length_toList] at hrun
        generalize hnew : (us.toList.take off ++ (a.eval y).cells.toList ++ us.toList.drop (off + (a.eval y).cells.size)).toArray = new at hrun
        have hnewc : LCs cx β (cs.take off ++ vs ++ cs.drop (off + vs.length)) new.toList := by
          rw [← hnew]
          simp only [List.append_assoc]
          rw [hsz, ← hlen]
          exact LCs.append (hc.take off) (LCs.append h6 (hc.drop _))
        have hkb : k < β.length := by rw [hI.len]; exact hkl
        have hown : ownB hp β k = some n := by rw [ownB_of h11 hn]; rfl
        have hout : Out cx β hp w (SW W) β (hp.set k (.b (cs.take off ++ vs ++ cs.drop (off + vs.length)) T')) (w.setRow n new) := by
          refine Out.upd (k0 := k) (h' := .b (cs.take off ++ vs ++ cs.drop (off + vs.length)) T') (e' := .b n) hI (mayPut_iff.1 hm) ?_ (fun i hi => ⟨List.getElem?_set_ne (Ne.symm hi), rfl⟩) (by simp [hkl]) hn (by simp [hI.len]) (by simp) (Ext.refl _) ⟨hreg, new, setRow_heap w n us new T' _ hb, hnewc⟩ (fun b hb => .inl (by rw [hown]; exact hb))
          exact ⟨rfl, rfl, rfl, by simp, fun b _ hne => setRow_other w n b new (fun e => hne (by rw [hown, e]))⟩
        obtain ⟨fr', h15, h16, h17⟩ := put_spec (v := undef) h14 hf trivial
        unfold Oper.wp
        have hst : (execOp a.eval { dst := dst, op := .store t x y, type := ty, pos := pos, after := after, guard := guard }).run P w = .ok .skip (w.setRow n new) := by
          simp only [execOp, he, Instr.storeAt, Instr.sureAddr]
          simp [storeVar, run_sz hti.size, hsz, hrun]
        rw [hst]
        exact ⟨fr', _, β, h15, h16, h17, hout⟩
      · exact h12.elim
    · rename_i k ver sz i off
      obtain ⟨hm, h10⟩ := side_iff.1 h9
      obtain ⟨E, l, h11, h12⟩ := rowK_spec h10
      obtain ⟨hbz, h12'⟩ := side_iff.1 h12
      have hsz' : sz = l.sz := Nat.eq_of_beq_eq_true hbz
      obtain ⟨hlt, h13'⟩ := side_iff.1 h12'
      obtain ⟨l', h13, hll, hls, hle, hen⟩ := setEL_spec h6 hlt h13'
      obtain ⟨hkl, h14⟩ := setH_iff.1 h13
      obtain ⟨v1, r2, r3, r4⟩ := row_own hI h11
      obtain ⟨g1, n1, c1, hv, he⟩ := e_val (cx := cx) h2 r2
      subst hv
      have hn : n1 = l.len := slice_len_eq (sl_of_owns r3)
      subst hn
      have hsz : (a.eval y).cells.size = ti.sz := by rw [← hlen, h6.length]; simp
      have hbnd : i * l.sz + off + (a.eval y).cells.toList.length ≤ l.len * l.sz := by
        have h1 : (i + 1) * l.sz ≤ l.len * l.sz := Nat.mul_le_mul_right _ hlt
        have h2 : vs.length = (a.eval y).cells.toList.length := h6.length
        rw [Nat.add_mul] at h1
        omega
      obtain ⟨cur, hb, hcs, hown2⟩ := owns_store r3 hbnd
      have hrun := run_storeCells_at (P := P) g1 (i * l.sz + off) E (a.eval y).cells.toList 0 cur w hb (by rw [Nat.add_zero]; exact hcs) (fun v hv => h6.one v hv)
      simp only [Nat.add_zero, Array.length_toList] at hrun
      generalize hnew : (cur.toList.take (i * l.sz + off) ++ (a.eval y).cells.toList ++ cur.toList.drop (i * l.sz + off + (a.eval y).cells.size)).toArray = new at hrun
      have hown : ownB hp β k = some g1 := by rw [ownB_of h11 r2]; rfl
      have hout : Out cx β hp w (SW W) β (hp.set k (.r ver E l')) (w.setRow g1 new) := by
        refine Out.upd (k0 := k) (h' := .r ver E l') (e' := .r (.slice (some ⟨g1, 0, none⟩) l.len c1) ver) hI (mayPut_iff.1 hm) ?_ (fun i hi => ⟨List.getElem?_set_ne (Ne.symm hi), rfl⟩) (by simp [hkl]) r2 (by simp [hI.len]) (by simp) (Ext.refl _) ⟨rfl, ?_, by rw [hll]; exact r4⟩ (fun b hb => .inl (by rw [hown]; exact hb))
        · exact ⟨rfl, rfl, rfl, by simp, fun b _ hne => setRow_other w g1 b new (fun e => hne (by rw [hown, e]))⟩
        · rw [hll, hls, hen]
          refine hown2 _ ?_
          rw [setRow_heap w g1 cur new E _ hb, ← hnew, Array.length_toList]
      obtain ⟨fr', h15, h16, h17⟩ := put_spec (v := undef) h14 hf trivial
      unfold Oper.wp
      have hst : (execOp a.eval { dst := dst, op := .store t x y, type := ty, pos := pos, after := after, guard := guard }).run P w = .ok .skip (w.setRow g1 new) := by
        simp only [execOp, he, Instr.storeAt, Instr.sureAddr]
        subst hsz'
        simp [storeVar, run_sz hti.size, hsz, hrun]
      rw [hst]
      exact ⟨fr', _, β, h15, h16, h17, hout⟩
    · exact h9.elim
  case call c =>
    obtain ⟨callee, args, ats⟩ := c
    cases callee
    case value f =>
      cases f <;> first | exact soft h | skip
      rename_i f
      obtain ⟨c', hc, h1⟩ := csK_spec h
      obtain ⟨rs, h2, h3⟩ := evs_spec hf h1
      obtain ⟨hin, h4⟩ := side_iff.1 h2
      have hok := hG f c' hc
      have hcall := hok.snd rs hp _ h4 cx β w (args.map a.eval) hI (by simpa using h3)
      unfold Oper.wp
      have hrun : (execOp a.eval { dst := dst, op := .call { callee := .value (.func f), args := args, argTypes := ats }, type := ty, pos := pos, after := after, guard := guard }).run P w = .ok (.enter f (args.map a.eval)) w := by
        simp [execOp, resolve, Act.eval, Deferred.ofValue, invoke, run_callFunc hok.fn]
      rw [hrun]
      refine Calls.mono hcall ?_
      rintro e w' ⟨v, r, hp', β', rfl, hk, hr', hout⟩
      obtain ⟨fr', g1, g2, g3⟩ := put_spec hk (hf.ext hout.ext) hr'
      exact ⟨fr', hp', β', g1, g2, g3, hout.mono fun k hk => mayTch_spec hin k hk⟩
    case invoke rv name =>
      obtain ⟨ra, h1, hra⟩ := ev_spec hf h
      split at h1
      · rename_i t k
        obtain ⟨ti, ht, h2⟩ := tyK_iff.1 h1
        have hti := hT t ti ht
        obtain ⟨f, p, hm, h3⟩ := meth_spec h2
        obtain ⟨c', hc, h4⟩ := csK_spec h3
        obtain ⟨rs, h5, h6⟩ := evs_spec hf h4
        have hok := hG f c' hc
        obtain ⟨_, n, hn, he⟩ := hra
        have he : a.eval rv = .iface t (.pointer (some ⟨n, 0, none⟩)) := he
        have hmeth := hti.meth (name, f, p) hm n w
        cases p
        case true =>
          obtain ⟨hin, h7⟩ := side_iff.1 h5
          have hcall := hok.snd (.l (.p k 0) :: rs) hp _ h7 cx β w (#[.pointer (some ⟨n, 0, none⟩)] ++ args.map a.eval) hI (by simpa using ⟨⟨rfl, n, hn, rfl⟩, h6⟩)
          unfold Oper.wp
          have hrun : (execOp a.eval { dst := dst, op := .call { callee := .invoke rv name, args := args, argTypes := ats }, type := ty, pos := pos, after := after, guard := guard }).run P w = .ok (.enter f (#[.pointer (some ⟨n, 0, none⟩)] ++ args.map a.eval)) w := by
            exact run_invoke he (hmeth.1 rfl) (run_callFunc hok.fn _ _)
          rw [hrun]
          refine Calls.mono hcall ?_
          rintro e w' ⟨v, r, hp', β', rfl, hk, hr', hout⟩
          obtain ⟨fr', g1, g2, g3⟩ := put_spec hk (hf.ext hout.ext) hr'
          exact ⟨fr', hp', β', g1, g2, g3, hout.mono fun k hk => mayTch_spec hin k hk⟩
        case false =>
          dsimp only at h5
          split at h5
          · rename_i e hk
            obtain ⟨ei, hei, h7⟩ := tyK_iff.1 h5
            obtain ⟨_, h8⟩ := side_iff.1 h7
            obtain ⟨hb, h9, h10⟩ := getH_iff.1 h8
            split at h10
            · rename_i cs T1
              obtain ⟨x, v, h11, h12, h13⟩ := load_blk (hT e ei hei) hI h9 hn h10
              obtain ⟨hin, h14⟩ := side_iff.1 h11
              have hcall := hok.snd (x :: rs) hp _ h14 cx β w (#[v] ++ args.map a.eval) hI (by simpa using ⟨h12, h6⟩)
              unfold Oper.wp
              have hrun : (execOp a.eval { dst := dst, op := .call { callee := .invoke rv name, args := args, argTypes := ats }, type := ty, pos := pos, after := after, guard := guard }).run P w = .ok (.enter f (#[v] ++ args.map a.eval)) w := by
                exact run_invoke he ((hmeth.2 rfl e hk).trans (by simp [h13])) (run_callFunc hok.fn _ _)
              rw [hrun]
              refine Calls.mono hcall ?_
              rintro e w' ⟨v, r, hp', β', rfl, hk, hr', hout⟩
              obtain ⟨fr', g1, g2, g3⟩ := put_spec hk (hf.ext hout.ext) hr'
              exact ⟨fr', hp', β', g1, g2, g3, hout.mono fun k hk => mayTch_spec hin k hk⟩
            · exact h10.elim
          · exact h5.elim
      · exact h1.elim
    case builtin bb =>
      cases bb <;> first | exact soft h | skip
      change (match args.toList with
        | [x, y] => _
        | _ => False) at h
      split at h
      · rename_i x y hargs
        split at h
        · rename_i t t2 hat
          obtain ⟨ti, h1, h2⟩ := tyK_iff.1 h
          have hk' := (hT t ti h1).kind
          split at h2
          · rename_i e esz ek hk
            rw [hk] at hk'
            obtain ⟨k1, k2, k3, k4⟩ := hk'
            obtain ⟨inf, hinf, e1⟩ := Option.map_eq_some_iff.1 k2
            simp only [Prod.mk.injEq] at e1
            obtain ⟨ht2, h2'⟩ := side_iff.1 h2
            have htt : t = t2 := Nat.eq_of_beq_eq_true ht2
            subst htt
            obtain ⟨ra, h3, h4⟩ := ev_spec hf h2'
            obtain ⟨rb, h5, h6⟩ := ev_spec hf h3
            obtain ⟨m, h7', h8, h9⟩ := read_spec hI h6 h5
            obtain ⟨hmz, h7⟩ := side_iff.1 h7'
            have hms : esz = m.sz := Nat.eq_of_beq_eq_true hmz
            have ho : args = #[x, y] := Array.toList_inj.1 hargs
            have hat' : ats = #[t, t] := Array.toList_inj.1 hat
            subst ho hat'
            have hby : inf.bytes ≤ 32 := by
              rw [hinf] at k3
              simpa using k3
            have hinf3 : (P.info? e).map (fun i => (i.zero, i.size, i.bytes)) = some (some ek.zero, esz, inf.bytes) := by rw [hinf, Option.map_some, e1.1, e1.2]
            have hzs : ek.zero.cells.size = esz := by rw [k4]; cases ek <;> rfl
            have hpos : 0 < esz := by rw [k4]; cases ek <;> simp [EK.sz]
            rw [← hms] at h8
            clear h h2 h2' h3 h5 h7'
            split at h7
            · rename_i k ver
              obtain ⟨hm, g1⟩ := side_iff.1 h7
              obtain ⟨E, l, g2, g3⟩ := rowK_spec g1
              obtain ⟨hE, g4⟩ := side_iff.1 g3
              obtain ⟨hle, g5⟩ := side_iff.1 g4
              have hEe : E = e := Nat.eq_of_beq_eq_true hE
              subst hEe
              obtain ⟨l', g6, g7, g8, g9, g10⟩ := app_spec g5
              obtain ⟨hkl, g11⟩ := setH_iff.1 g6
              obtain ⟨v1, r2, r3, r4⟩ := row_own hI g2
              have hv := s_val (cx := cx) h4 r2
              have hlz : l.sz = esz := by rw [← g10, hms]
              rw [hlz] at r3
              have hlm : l.len + m.len ≤ 1099511627776 := hle
              refine wp_append_sl x y t rfl cx.w0.heap.size E ek.zero esz inf.bytes k1 hinf3 hzs hpos v1 l.len l.enc hv r3 (a.eval y) m.len m.enc rfl h8 m.one (by unfold maxLen; omega) ?_ kp ?_
              · have : (l.len + m.len) * inf.bytes ≤ (l.len + m.len) * 32 := Nat.mul_le_mul_left _ hby
                omega
              · intro v' w' q1 q2 q3
                have hkb : k < β.length := by rw [hI.len]; exact hkl
                have hown : ownB hp β k = v1.ownBlock := by rw [ownB_of g2 r2]; rfl
                have hx : Ext β (β.set k (.r v' (ver + 1))) := by
                  intro i e0 hie
                  by_cases hik : i = k
                  · subst hik
                    rw [r2] at hie
                    obtain rfl := Option.some.inj hie
                    exact ⟨v', ver + 1, by simp [hkb], by omega, fun e => by omega⟩
                  · have hsame : (β.set k (.r v' (ver + 1)))[i]? = some e0 := by rw [List.getElem?_set_ne (Ne.symm hik)]; exact hie
                    cases e0 with
                    | b n => exact hsame
                    | r v ver => exact ⟨v, ver, hsame, Nat.le_refl _, fun _ => rfl⟩
                    | x => trivial
                have hout : Out cx β hp w (SW W) (β.set k (.r v' (ver + 1))) (hp.set k (.r (ver + 1) E l')) w' := by
                  refine Out.upd (k0 := k) (h' := .r (ver + 1) E l') (e' := .r v' (ver + 1)) hI (mayPut_iff.1 hm) ?_ (fun i hi => ⟨List.getElem?_set_ne (Ne.symm hi), List.getElem?_set_ne (Ne.symm hi)⟩) (by simp [hkl]) (by simp [hkb]) (by simp [hI.len]) (by simp) hx ⟨rfl, by rw [g8, g7, g9, hlz]; exact q1, by rw [g8]; exact hle⟩ (fun b hb => ?_)
                  · rw [hown]; exact (Tch.of_grown q2)
                  · rw [hown]
                    rcases q3 with q3 | q3
                    · exact .inl (q3 ▸ hb)
                    · have : some w.heap.size = some b := q3 ▸ hb
                      simp only [Option.some.injEq] at this
                      omega
                have hone : v'.oneCell' = true := by obtain ⟨_, _, rfl⟩ := owns_form q1; rfl
                obtain ⟨fr', g12, g13, g14⟩ := put_spec (v := v') g11 (hf.ext hx) ⟨hone, v', ver + 1, by simp [hkb], Nat.le_refl _, fun _ => rfl⟩
                exact ⟨fr', _, _, g12, g13, g14, hout⟩
            · obtain ⟨_, hv⟩ := h4
              refine wp_copy_sl x y t rfl w.heap.size e ek.zero esz inf.bytes k1 hinf3 hzs (.slice none 0 0) hv (.inl rfl) (a.eval y) m.len m.enc rfl h8 (by have : m.len ≤ 1099511627776 := h9; unfold maxLen; omega) ?_ (Nat.le_refl _) ?_
              · have : m.len * inf.bytes ≤ m.len * 32 := Nat.mul_le_mul_left _ hby
                have : m.len ≤ 1099511627776 := h9
                omega
              · intro v' w' q1 q2
                obtain ⟨k, hp', β', p1, p2, p3⟩ := new_spec (S := SW W) (rsv := none) hI h7 (.r v' 0) (fun k hk => hr k (hk.elim (fun e => by cases e) .inr)) q2 (fun b hb => (q1.lt b hb).1) (fun β' hx => ⟨rfl, by rw [← hms]; exact owns_base q1 kp, h9⟩)
                have hone : v'.oneCell' = true := by obtain ⟨_, _, rfl⟩ := owns_form q1; rfl
                obtain ⟨fr', p4, p5, p6⟩ := put_spec (v := v') p1 (hf.ext p3.ext) ⟨hone, v', 0, p2, Nat.le_refl _, fun _ => rfl⟩
                exact ⟨fr', hp', β', p4, p5, p6, p3⟩
            · exact h7.elim
          · exact h2.elim
        · exact h.elim
      · exact h.elim
  all_goals exact soft h

end
end Ab
end Go.Proofs.Ytacjfkodndkaeaa
