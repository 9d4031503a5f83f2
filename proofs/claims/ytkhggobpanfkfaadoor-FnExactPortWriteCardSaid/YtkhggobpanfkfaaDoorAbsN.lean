/-
  One operation: what the abstract walk says of it is what it does. Plain lemmas; the conditions are the types' rows (TIok) and the contracts (CSok).
-/
import Derived.Test.YtkhggobpanfkfaaDoorAbsE
import Derived.Laws.OwnMore
import Derived.Laws.MakeOwn
namespace Go.Proofs.YtkhggobpanfkfaaDoor
open Go.RowKit
namespace Ab
section
variable {P : Program} {cx : Cx} {β : List En} {hp : Hp} {w : World}

theorem below_al (w : World) (o : Obj) : Below w.heap.size w (w.alloc o) := (Below.refl _ _).alloc (Nat.le_refl _) o

theorem vrun2 {s : Sem Value} {v : Value} {w w' : World} (h : s.run P w = .ok v w') : (do pure (Next.value (← s)) : Sem Next).run P w = .ok (.value v) w' := by
  simp [h]
theorem LCs.ext' {β' : List En} (hx : Ext β β') {xs : List LV} {vs : List Value} (h : LCs cx β xs vs) : LCs cx β' xs vs := LCs.ext hx h

/-- A list of zeros, as it is made. -/
theorem repl_enc (ek : EK) (n : Nat) : (ek.repl n).sz = ek.sz ∧ (ek.repl n).len = n ∧ (ek.repl n).enc = (madeCells ek.zero.cells (n * ek.sz)).toList := by
  refine ⟨by cases ek <;> rfl, by cases ek <;> simp [EK.repl, EL.len], ?_⟩
  apply List.ext_getElem?
  intro j
  have h2 : ∀ n : Nat, (List.replicate n ((0 : Int), (0 : Int))).flatMap (fun g => [Value.int .i64 g.1, .int .i64 g.2]) = List.replicate (n * 2) (.int .i64 0) := by
    intro n
    induction n with
    | zero => rfl
    | succ n ih => rw [List.replicate_succ, List.flatMap_cons, ih, Nat.add_mul]; rfl
  have h3 : ∀ n : Nat, (List.replicate n ((0 : Int), (0 : Int), (0 : Int))).flatMap (fun g => [Value.int .i64 g.1, .int .i64 g.2.1, .int .i64 g.2.2]) = List.replicate (n * 3) (.int .i64 0) := by
    intro n
    induction n with
    | zero => rfl
    | succ n ih => rw [List.replicate_succ, List.flatMap_cons, ih, Nat.add_mul]; rfl
  cases ek with
  | k3 =>
    simp only [EK.repl, EL.enc, EK.zero, EK.sz, madeCells, h3, List.getElem?_replicate]
    by_cases hj : j < n * 3
    · have : j % 3 = 0 ∨ j % 3 = 1 ∨ j % 3 = 2 := by omega
      rcases this with e | e | e <;> simp [hj, Value.cells, e]
    · simp [hj]
  | ints =>
    simp only [EK.repl, EL.enc, EK.zero, EK.sz, madeCells, List.map_replicate, List.getElem?_replicate]
    by_cases hj : j < n
    · simp [hj, Nat.mod_one, Value.cells]
    · simp [hj]
  | bytes =>
    simp only [EK.repl, EL.enc, EK.zero, EK.sz, madeCells, List.map_replicate, List.getElem?_replicate]
    by_cases hj : j < n
    · simp [hj, Nat.mod_one, Value.cells]
    · simp [hj]
  | gots =>
    simp only [EK.repl, EL.enc, EK.zero, EK.sz, madeCells, h2, List.getElem?_replicate]
    by_cases hj : j < n * 2
    · have : j % 2 = 0 ∨ j % 2 = 1 := by omega
      rcases this with e | e <;> simp [hj, Value.cells, e]
    · simp [hj]
/-- An element's place in the cells. -/
theorem gots_split (l : List (Int × Int)) (i : Nat) (h : i < l.length) : ∃ A B : List Value, A.length = i * 2 ∧ (EL.gots l).enc = A ++ .int .i64 (l.getD i (0, 0)).1 :: .int .i64 (l.getD i (0, 0)).2 :: B ∧ ∀ g : Int × Int, (EL.gots (l.set i g)).enc = A ++ .int .i64 g.1 :: .int .i64 g.2 :: B := by
  refine ⟨(EL.gots (l.take i)).enc, (EL.gots (l.drop (i + 1))).enc, ?_, ?_, fun g => ?_⟩
  · have := EL.enc_len (.gots (l.take i))
    rw [this]
    simp [EL.len, EL.sz, Nat.min_eq_left (Nat.le_of_lt h)]
  · have e : l = l.take i ++ l[i] :: l.drop (i + 1) := by
      rw [← List.drop_eq_getElem_cons h, List.take_append_drop]
    have hg : l.getD i (0, 0) = l[i] := by simp [List.getD, h]
    rw [hg]
    conv => lhs; rw [e]
    simp only [EL.enc, List.flatMap_append, List.flatMap_cons, List.cons_append, List.nil_append]
  · rw [List.set_eq_take_append_cons_drop, if_pos h]
    simp only [EL.enc, List.flatMap_append, List.flatMap_cons, List.cons_append, List.nil_append]
theorem k3_split (l : List (Int × Int × Int)) (i : Nat) (h : i < l.length) : ∃ (A B : List Value) (x y z : Value), A.length = i * 3 ∧ (EL.k3 l).enc = A ++ x :: y :: z :: B ∧ ∀ g : Int × Int × Int, (EL.k3 (l.set i g)).enc = A ++ .int .i64 g.1 :: .int .i64 g.2.1 :: .int .i64 g.2.2 :: B := by
  refine ⟨(EL.k3 (l.take i)).enc, (EL.k3 (l.drop (i + 1))).enc, .int .i64 l[i].1, .int .i64 l[i].2.1, .int .i64 l[i].2.2, ?_, ?_, fun g => ?_⟩
  · have := EL.enc_len (.k3 (l.take i))
    rw [this]
    simp [EL.len, EL.sz, Nat.min_eq_left (Nat.le_of_lt h)]
  · have e : l = l.take i ++ l[i] :: l.drop (i + 1) := by
      rw [← List.drop_eq_getElem_cons h, List.take_append_drop]
    conv => lhs; rw [e]
    simp only [EL.enc, List.flatMap_append, List.flatMap_cons, List.cons_append, List.nil_append]
  · rw [List.set_eq_take_append_cons_drop, if_pos h]
    simp only [EL.enc, List.flatMap_append, List.flatMap_cons, List.cons_append, List.nil_append]
theorem ints_split (l : List Int) (i : Nat) (h : i < l.length) : ∃ (A B : List Value) (y : Value), A.length = i ∧ (EL.ints l).enc = A ++ y :: B ∧ ∀ g : Int, (EL.ints (l.set i g)).enc = A ++ .int .i64 g :: B := by
  refine ⟨(EL.ints (l.take i)).enc, (EL.ints (l.drop (i + 1))).enc, .int .i64 l[i], ?_, ?_, fun g => ?_⟩
  · simp [EL.enc, Nat.min_eq_left (Nat.le_of_lt h)]
  · have e : l = l.take i ++ l[i] :: l.drop (i + 1) := by
      rw [← List.drop_eq_getElem_cons h, List.take_append_drop]
    conv => lhs; rw [e]
    simp only [EL.enc, List.map_append, List.map_cons]
  · rw [List.set_eq_take_append_cons_drop, if_pos h]
    simp only [EL.enc, List.map_append, List.map_cons]
theorem setEL_spec {l : EL} {i off : Nat} {vs : List LV} {us : List Value} {K : EL → Prop} (hv : LCs cx β vs us) (hlt : i < l.len) (h : setEL l i off vs K) :
    ∃ l', K l' ∧ l'.len = l.len ∧ l'.sz = l.sz ∧ off + vs.length ≤ l.sz ∧ l'.enc = l.enc.take (i * l.sz + off) ++ us ++ l.enc.drop (i * l.sz + off + us.length) := by
  have one : ∀ {x : Value} {us : List Value}, LCs cx β [.v x] us → us = [x] := fun {x us} hv => by
    cases us with
    | nil => exact hv.elim
    | cons a r => cases r with
      | nil => obtain ⟨⟨_, e⟩, _⟩ := hv; rw [e]
      | cons _ _ => exact hv.2.elim
  have two : ∀ {x y : Value} {us : List Value}, LCs cx β [.v x, .v y] us → us = [x, y] := fun {x y us} hv => by
    cases us with
    | nil => exact hv.elim
    | cons a r =>
      obtain ⟨⟨_, e⟩, h2⟩ := hv
      have e : a = x := e
      rw [e, one h2]
  have three : ∀ {x y z : Value} {us : List Value}, LCs cx β [.v x, .v y, .v z] us → us = [x, y, z] := fun {x y z us} hv => by
    cases us with
    | nil => exact hv.elim
    | cons a r =>
      obtain ⟨⟨_, e⟩, h2⟩ := hv
      have e : a = x := e
      rw [e, two h2]
  unfold setEL at h
  split at h
  · rename_i l
    split at h
    · split at h
      · rename_i x
        have e := one hv
        subst e
        obtain ⟨A, B, y, h1, h2, h3⟩ := ints_split l i hlt
        refine ⟨_, h, by simp [EL.len], rfl, by simp [EL.sz], ?_⟩
        rw [h3, h2]
        simp [EL.sz, ← h1]
      · exact h.elim
    · exact h.elim
  · rename_i l
    obtain ⟨A, B, h1, h2, h3⟩ := gots_split l i hlt
    have e1 : i * (EL.gots l).sz = A.length := h1.symm
    split at h
    · split at h
      · have e := one hv
        subst e
        refine ⟨_, h, by simp [EL.len], rfl, by simp [EL.sz], ?_⟩
        rw [h3, h2, e1]
        simp
      · have e := two hv
        subst e
        refine ⟨_, h, by simp [EL.len], rfl, by simp [EL.sz], ?_⟩
        rw [h3, h2, e1]
        simp
      · exact h.elim
    · split at h
      · have e := one hv
        subst e
        refine ⟨_, h, by simp [EL.len], rfl, by simp [EL.sz], ?_⟩
        rw [h3, h2, e1]
        simp only [List.take_length_add_append, List.drop_length_add_append, Nat.add_assoc, List.take_succ_cons, List.take_zero, List.drop_succ_cons, List.drop_zero, List.length_singleton]
        simp
      · exact h.elim
    · exact h.elim
  · exact h.elim
  · rename_i l
    obtain ⟨A, B, x0, y0, z0, h1, h2, h3⟩ := k3_split l i hlt
    have e1 : i * (EL.k3 l).sz = A.length := h1.symm
    split at h
    · split at h
      · have e := three hv
        subst e
        refine ⟨_, h, by simp [EL.len], rfl, by simp [EL.sz], ?_⟩
        rw [h3, h2, e1]
        simp
      · exact h.elim
    · exact h.elim
theorem owns_store {w : World} {base : Nat} {E : TypeId} {sz g n cap : Nat} {xs us : List Value} {j : Nat} (h : w.ownsRow base E sz (.slice (some ⟨g, 0, none⟩) n cap) n xs) (hj : j + us.length ≤ n * sz) :
    ∃ cur, w.heap[g]? = some (.cells cur E (0, 0)) ∧ j + us.length ≤ cur.size ∧ ∀ w' : World, w'.heap[g]? = some (.cells (cur.toList.take j ++ us ++ cur.toList.drop (j + us.length)).toArray E (0, 0)) → w'.ownsRow base E sz (.slice (some ⟨g, 0, none⟩) n cap) n (xs.take j ++ us ++ xs.drop (j + us.length)) := by
  obtain ⟨h1, h2 | ⟨g', cap', cur, h2, h3, h4, h5, h6, h7, h8⟩⟩ := h
  · cases h2.1
  · simp only [Value.slice.injEq, Option.some.injEq, Addr.mk.injEq, true_and, and_true] at h2
    obtain ⟨rfl, rfl⟩ := h2
    have hle : n * sz ≤ cur.size := by rw [h7]; exact Nat.mul_le_mul_right _ h5
    refine ⟨cur, h4, by omega, fun w' hw => ⟨?_, .inr ⟨g, cap, _, rfl, h3, hw, h5, h6, ?_, ?_⟩⟩⟩
    · simp only [List.length_append, List.length_take, List.length_drop, h1]
      omega
    · simp only [List.size_toArray, List.length_append, List.length_take, List.length_drop, Array.length_toList, h7] at *
      omega
    · rw [← h8]
      apply List.ext_getElem?
      intro q
      simp only [List.getElem?_take, List.getElem?_append, List.getElem?_drop, List.length_append, List.length_take, Array.length_toList]
      rw [Nat.min_eq_left (by omega : j ≤ cur.size), Nat.min_eq_left (by omega : n * sz ≤ cur.size), Nat.min_eq_left (by omega : j ≤ n * sz)]
      repeat' split
      all_goals first | rfl | omega | (congr 1; omega)

theorem meth_spec : ∀ {ms : List (String × FuncId × Bool)} {m : String} {K : FuncId → Bool → Prop}, methK ms m K → ∃ f p, (m, f, p) ∈ ms ∧ K f p
  | [], _, _, h => h.elim
  | (n, f, p) :: r, m, K, h => by
    unfold methK at h
    split at h
    · rename_i e
      have e : n = m := by simpa using e
      subst e
      exact ⟨f, p, by simp, h⟩
    · obtain ⟨f', p', h1, h2⟩ := meth_spec (ms := r) h
      exact ⟨f', p', by simp [h1], h2⟩
theorem run_invoke {ρ : Operand → Value} {dst : Option Tmp} {rv : Operand} {name : String} {args : Array Operand} {ats : Array TypeId} {ty : TypeId} {pos : String} {after : Array Edge} {guard : Option (Nat × Bool)} {t : TypeId} {v r : Value} {f : FuncId} {w : World}
    (he : ρ rv = .iface t v) (hm : (method (P.types.size + Made.depth) t v name).run P w = .ok (f, r) w) (hc : (callFunc f (#[r] ++ args.map ρ)).run P w = .ok (.enter f (#[r] ++ args.map ρ)) w) :
    (execOp ρ { dst := dst, op := .call { callee := .invoke rv name, args := args, argTypes := ats }, type := ty, pos := pos, after := after, guard := guard }).run P w = .ok (.enter f (#[r] ++ args.map ρ)) w := by
  have h2 : (#[ρ rv] ++ args.map ρ)[0]? = some (.iface t v) := by rw [he, Array.getElem?_append_left (by simp)]; rfl
  have h3 : (#[ρ rv] ++ args.map ρ).extract 1 (#[ρ rv] ++ args.map ρ).size = args.map ρ := by
    apply Array.toList_inj.1
    simp
    rw [List.take_of_length_le (by simp)]
  simp only [execOp, resolve, Sem.run_bind, Sem.run_pure, Result.andThen_ok, invoke, h2, h3, callMethod]
  simp only [run_program, Result.andThen_ok, hm, hc]
theorem load_blk {t : TypeId} {ti : TI} (hT : TIok P t ti) (hI : Inv cx β hp w) {k n : Nat} {cs : List LV} {T1 : TypeId} (h9 : hp[k]? = some (.b cs T1)) (hn : β[k]? = some (.b n)) {K : AV → Prop} (h : cutK cs 0 ti.sz ti.agg K) :
    ∃ x v, K x ∧ AC cx β x v ∧ (loadVar t ⟨n, 0, none⟩).run P w = .ok v w := by
  obtain ⟨_, us, hb, hc⟩ := hI.ent k _ _ h9 hn
  obtain ⟨r, h8, v, h9, h10⟩ := cut_load hT hb hc h
  exact ⟨r, v, h8, h9, h10 w rfl⟩
theorem eff_spec {T : Tab} {G : Env} (hT : TabOk P T) (hG : EnvC P G cx) {W : Option (Nat × List Nat)} {rsv : Option Nat} {fr : Fr} {a : Act} {o : Oper} {K : Fr → Hp → Prop} {Q : Exit → Act → World → Prop}
    (hI : Inv cx β hp w) (hf : FR cx β fr a.tmps) (hr : ∀ k, (rsv = some k ∨ hp.length ≤ k) → SW W k) (h : effP T G W rsv fr hp o K) : o.wp P a w (Post cx β hp w (SW W) a K) Q := by
  have soft : (softP T none fr hp o.op fun r => putF fr o.dst r fun fr' => K fr' hp) → o.wp P a w (Post cx β hp w (SW W) a K) Q := by
    intro hs
    obtain ⟨r, h1, v, h2, h3⟩ := soft_spec hT hI hf hs
    obtain ⟨fr', h4, h5, h6⟩ := put_spec h1 hf h2
    unfold Oper.wp
    rw [h3 w rfl]
    exact ⟨fr', hp, β, h4, h5, h6, Out.refl hI⟩
  have fresh : ∀ (x : HB) (v : Value) (e : En) (o' : Obj) (r : Nat → AV), (newH rsv hp x fun k hp' => putF fr o.dst (r k) fun fr' => K fr' hp') → (execOp a.eval o).run P w = .ok (.value v) (w.alloc o') →
      (∀ b, ownE x e = some b → w.heap.size ≤ b) → (∀ β', Ext β β' → HOk cx β' (w.alloc o') x e) → (∀ (k : Nat) β', β'[k]? = some e → AC cx β' (r k) v) → o.wp P a w (Post cx β hp w (SW W) a K) Q := by
    intro x v e o' r hn hrun hown hok hac
    obtain ⟨k, hp', β', h1, h2, h3⟩ := new_spec (S := SW W) hI hn e hr (below_al w o') hown hok
    obtain ⟨fr', h4, h5, h6⟩ := put_spec h1 (hf.ext h3.ext) (hac k β' h2)
    unfold Oper.wp
    rw [hrun]
    exact ⟨fr', hp', β', h4, h5, h6, h3⟩
  have kp := hI.kp.size
  obtain ⟨dst, op, ty, pos, after, guard⟩ := o
  have ins : ∀ t x y z, insP T W fr hp t x y z (fun hp' => putF fr dst .j fun fr' => K fr' hp') → ∃ w', (Instr.mapUpdate t (a.eval x) (a.eval y) (a.eval z)).run P w = .ok () w' ∧ ∃ fr' hp' β', K fr' hp' ∧ FR cx β' fr' (a.put dst undef).tmps ∧ (a.put dst undef).defers = a.defers ∧ Out cx β hp w (SW W) β' hp' w' := by
    intro t x y z h
    obtain ⟨ra, h1, h2⟩ := ev_spec hf h
    obtain ⟨rb, h3, h4⟩ := ev_spec hf h1
    obtain ⟨rc, h5, h6⟩ := ev_spec hf h3
    obtain ⟨ti, h7, h8⟩ := tyK_iff.1 h5
    have hk' := (hT t ti h7).kind
    split at h8
    · rename_i hk
      rw [hk] at hk'
      split at h8
      · rename_i k
        split at h8
        · rename_i n
          split at h8
          · rename_i v
            obtain ⟨hm, h9⟩ := side_iff.1 h8
            obtain ⟨hb0, h10, h11⟩ := getH_iff.1 h9
            split at h11
            · rename_i Φ
              obtain ⟨es, g1, g2, g3⟩ := h11
              obtain ⟨hkl, g4⟩ := setH_iff.1 g3
              obtain ⟨_, b, hb, he⟩ := h2
              obtain ⟨_, hi⟩ := h4
              obtain ⟨_, hv⟩ := h6
              have ho := hI.ent k _ _ h10 hb
              obtain ⟨hreg, ob, hob, hΦ⟩ := ho
              obtain ⟨o', ho', hrun⟩ := run_ins (P := P) hk' hob (g1 _ hΦ) (v := v) g2
              have hlt : b < w.heap.size := (Array.getElem?_eq_some_iff.1 hob).1
              have hown : ownB hp β k = some b := by rw [ownB_of h10 hb]; rfl
              have hout : Out cx β hp w (SW W) β (hp.set k (.x (mapO (es ++ [(n, v)])))) { w with heap := w.heap.setIfInBounds b o' } := by
                refine Out.upd (k0 := k) (h' := .x (mapO (es ++ [(n, v)]))) (e' := .b b) hI (mayPut_iff.1 hm) ?_ (fun i hi => ⟨List.getElem?_set_ne (Ne.symm hi), rfl⟩) (by simp [hkl]) hb (by simp [hI.len]) (by simp) (Ext.refl _) ⟨hreg, o', by simp [hlt], ho'⟩ (fun b hb => .inl (by rw [hown]; exact hb))
                exact ⟨rfl, rfl, rfl, by simp, fun c _ hne => Array.getElem?_setIfInBounds_ne (fun e => hne (by rw [hown, e]))⟩
              obtain ⟨fr', h15, h16, h17⟩ := put_spec (v := undef) g4 hf trivial
              exact ⟨_, by rw [he, hi, hv]; exact hrun, fr', _, β, h15, h16, h17, hout⟩
            · exact h11.elim
          · exact h8.elim
        · exact h8.elim
      · exact h8.elim
    · exact h8.elim
  cases op
  case insert t x y z =>
    obtain ⟨w', h1, h2⟩ := ins t x y z h
    unfold Oper.wp
    rw [show (execOp a.eval { dst := dst, op := .insert t x y z, type := ty, pos := pos, after := after, guard := guard }).run P w = .ok .skip w' by simp [execOp, h1]]
    exact h2
  case mapUpdate t x y z =>
    obtain ⟨w', h1, h2⟩ := ins t x y z h
    unfold Oper.wp
    rw [show (execOp a.eval { dst := dst, op := .mapUpdate t x y z, type := ty, pos := pos, after := after, guard := guard }).run P w = .ok .skip w' by simp [execOp, h1]]
    exact h2
  case makeMap t r =>
    obtain ⟨ti, h1, h2⟩ := tyK_iff.1 h
    split at h2
    · split at h2
      · refine fresh _ (.map (some w.heap.size)) (.b w.heap.size) (.map #[] 0) _ h2 ?_ (fun b hb => ?_) (fun β' hx => ⟨.inl kp, _, heap_alloc_new w _, #[], 0, rfl, rfl⟩) (fun k β' hk => ⟨rfl, _, hk, rfl⟩)
        · simp [execOp, Instr.makeMap, newObj]
          rfl
        · simp only [ownE, Option.some.injEq] at hb; omega
      · exact h2.elim
    · exact h2.elim
  case alloc t =>
    obtain ⟨ti, h1, h2⟩ := tyK_iff.1 h
    have hti := hT t ti h1
    obtain ⟨z, hz, hrz⟩ := hti.run_zero
    refine fresh _ (.pointer (some ⟨w.heap.size, 0, none⟩)) (.b w.heap.size) (.cells z.cells t) _ h2 ?_ (fun b hb => ?_) (fun β' hx => ⟨.inl kp, z.cells, heap_alloc_new w _, by rw [hz]; exact hti.zeros⟩) (fun k β' hk => ⟨rfl, _, hk, rfl⟩)
    · simp [execOp, Instr.alloc, hrz, newVar, newRow]
    · simp only [ownE, Option.some.injEq] at hb; omega
  case box t x =>
    obtain ⟨ra, h1, h2⟩ := ev_spec hf h
    obtain ⟨vs, h3, h4⟩ := cells_spec h1 h2
    refine fresh _ (.pointer (some ⟨w.heap.size, 0, none⟩)) (.b w.heap.size) (.cells (a.eval x).cells t) _ h3 ?_ (fun b hb => ?_) (fun β' hx => ⟨.inl kp, _, heap_alloc_new w _, h4.ext hx⟩) (fun k β' hk => ⟨rfl, _, hk, rfl⟩)
    · simp [execOp, Instr.box, newVar, newRow]
    · simp only [ownE, Option.some.injEq] at hb; omega
  case makeChan t n =>
    obtain ⟨ti, h1, h2⟩ := tyK_iff.1 h
    have hk' := (hT t ti h1).kind
    split at h2
    · rename_i hk
      rw [hk] at hk'
      obtain ⟨d, hd, h3⟩ := Option.bind_eq_some_iff.1 hk'
      split at h3
      · rename_i dir e
        obtain ⟨inf, hinf, h4⟩ := Option.map_eq_some_iff.1 h3
        have hby : inf.bytes ≤ 16 := by simpa using h4
        split at h2
        · refine fresh _ (.chan (some w.heap.size)) (.b w.heap.size) (.chan 1 #[] false 0 0 false) _ h2 ?_ (fun b hb => ?_) (fun β' hx => ⟨.inl kp, _, heap_alloc_new w _, 0, 0, rfl⟩) (fun k β' hk => ⟨rfl, _, hk, rfl⟩)
          · have h5 : ¬ ((inf.bytes : Int) > 281474976710544) := by omega
            have h6 : IntKind.i64.max = 9223372036854775807 := rfl
            simp [execOp, Instr.makeChan, Act.eval, asInt, asIntOf, run_underlying hd, typeInfo, hinf, newObj, h6, h5]
            rfl
          · simp only [ownE, Option.some.injEq] at hb; omega
        · exact h2.elim
      · cases h3
    · exact h2.elim
  case buildSlice t n parts =>
    obtain ⟨ti, h1, h2⟩ := tyK_iff.1 h
    have hk' := (hT t ti h1).kind
    split at h2
    · rename_i e esz ek hk
      rw [hk] at hk'
      obtain ⟨k1, k2, k3, k4⟩ := hk'
      obtain ⟨inf, hinf, e1⟩ := Option.map_eq_some_iff.1 k2
      simp only [Prod.mk.injEq] at e1
      have hs : (P.info? e).map (·.size) = some esz := by rw [hinf, Option.map_some, e1.2]
      obtain ⟨hble, h3⟩ := side_iff.1 h2
      have hle : n * esz ≤ 16777216 := by simpa using hble
      obtain ⟨cs, h4, us, h5, h6, h7⟩ := parts_spec hf 0 n _ _ h3
      obtain ⟨l, h8, h9, h10⟩ := toEL_spec h4 h5
      have hsz : 0 < esz := by rw [k4]; cases ek <;> simp [EK.sz]
      have hlsz : l.sz = esz := by rw [h10, k4]
      have hlen : l.len = n := by
        have := l.enc_len
        rw [h9, h6, hlsz] at this
        exact (Nat.eq_of_mul_eq_mul_right hsz this).symm
      have hz : ∀ w, (zeroValue e).run P w = .ok ek.zero w := fun w => by simp [zeroValue, typeInfo, hinf, e1.1]
      have mk : ∀ zc : Array Value, ∃ cells' : Array Value, Instr.fill (fun i => some (i * esz, esz)) ((Array.range (n * esz)).map (zc[· % zc.size]!)) (parts.toList.map fun x => (x.1, a.eval x.2)) = some cells' ∧ cells'.toList = us := by
        intro zc
        obtain ⟨cells', c1, c2⟩ := h7 n ((Array.range (n * esz)).map (zc[· % zc.size]!)) (by omega) (by simp)
        exact ⟨cells', c1, by rw [c2]; simp⟩
      have hrun : ∃ cells' : Array Value, cells'.toList = us ∧ (Instr.buildSlice t n (parts.map fun x => (x.1, a.eval x.2))).run P w = .ok (.slice (some ⟨w.heap.size, 0, none⟩) n n) (w.alloc (.cells cells' e)) := by
        by_cases h0 : n * esz = 0
        · obtain ⟨cells', c1, c2⟩ := mk #[]
          refine ⟨cells', c2, ?_⟩
          unfold Instr.buildSlice
          rw [Sem.run_bind, run_underlying k1, Result.andThen_ok]
          dsimp only
          rw [Sem.run_bind, run_sz hs, Result.andThen_ok, if_neg (by omega)]
          simp only [h0, if_true, Sem.run_bind, Sem.run_pure, Result.andThen_ok, Array.toList_map] at c1 ⊢
          rw [c1]
          simp [newRow]
        · obtain ⟨cells', c1, c2⟩ := mk ek.zero.cells
          refine ⟨cells', c2, ?_⟩
          unfold Instr.buildSlice
          rw [Sem.run_bind, run_underlying k1, Result.andThen_ok]
          dsimp only
          rw [Sem.run_bind, run_sz hs, Result.andThen_ok, if_neg (by omega)]
          simp only [h0, if_false, Sem.run_bind, Sem.run_pure, Result.andThen_ok, Array.toList_map, hz] at c1 ⊢
          rw [c1]
          simp [newRow]
      obtain ⟨cells', c1, c2⟩ := hrun
      refine fresh _ (.slice (some ⟨w.heap.size, 0, none⟩) n n) (.r (.slice (some ⟨w.heap.size, 0, none⟩) n n) 0) (.cells cells' e) _ h8 ?_ (fun b hb => ?_) (fun β' hx => ⟨rfl, ?_, ?_⟩) (fun k β' hk => ⟨rfl, _, _, hk, Nat.le_refl _, fun _ => rfl⟩)
      · simp only [execOp]
        exact vrun2 c2
      · simp only [ownE, Value.ownBlock, Option.some.injEq] at hb; omega
      · refine ⟨l.enc_len, .inr ⟨w.heap.size, n, cells', by rw [hlen], kp, heap_alloc_new w _, by omega, ?_, ?_, ?_⟩⟩
        · have : n ≤ n * esz := Nat.le_mul_of_pos_right n hsz
          unfold maxLen; omega
        · rw [← Array.length_toList, c1, h6, hlsz]
        · rw [c1, h9, hlen, hlsz, ← h6, List.take_length]
      · have : n ≤ n * esz := Nat.le_mul_of_pos_right n hsz
        rw [hlen]; unfold maxL; omega
    · exact h2.elim
  case makeSlice t n c =>
    obtain ⟨ti, h1, h2⟩ := tyK_iff.1 h
    have hk' := (hT t ti h1).kind
    split at h2
    · rename_i e esz ek hk
      rw [hk] at hk'
      obtain ⟨k1, k2, k3, k4⟩ := hk'
      obtain ⟨inf, hinf, e1⟩ := Option.map_eq_some_iff.1 k2
      simp only [Prod.mk.injEq] at e1
      split at h2
      · obtain ⟨ra, h3, h4⟩ := ev_spec hf h2
        split at h3
        · rename_i m
          obtain ⟨⟨m0, m1⟩, h5⟩ := side_iff.1 h3
          obtain ⟨_, hc⟩ := h4
          obtain ⟨q, rfl⟩ := Int.eq_ofNat_of_zero_le m0
          have hby : inf.bytes ≤ 32 := by
            rw [hinf] at k3
            simpa using k3
          obtain ⟨w', r1, r2, r3⟩ := run_make_own (P := P) w cx.w0.heap.size t e inf _ esz k1 hinf e1.1 e1.2 .i64 .i64 q (by
            have : inf.bytes * q ≤ 32 * q := Nat.mul_le_mul_right _ hby
            omega) (by unfold maxLen; omega) kp
          have hb : Below w.heap.size w w' := ⟨r3.os, r3.tape, r3.output, r3.size, fun k hk => r3.block k hk (by simp)⟩
          obtain ⟨k, hp', β', g1, g2, g3⟩ := new_spec (S := SW W) hI h5 (.r (.slice (some ⟨w.heap.size, 0, none⟩) 0 q) 0) hr hb (fun b hb => by simp only [ownE, Value.ownBlock, Option.some.injEq] at hb; omega) (fun β' hx => ⟨rfl, by
            rw [k4] at r2
            cases ek <;> exact r2, by cases ek <;> exact Nat.zero_le _⟩)
          obtain ⟨fr', g4, g5, g6⟩ := put_spec (v := .slice (some ⟨w.heap.size, 0, none⟩) 0 q) g1 (hf.ext g3.ext) ⟨rfl, _, _, g2, Nat.le_refl _, fun _ => rfl⟩
          unfold Oper.wp
          have hrun : (execOp a.eval { dst := dst, op := .makeSlice t (.const (.int .i64 0)) c, type := ty, pos := pos, after := after, guard := guard }).run P w = .ok (.value (.slice (some ⟨w.heap.size, 0, none⟩) 0 q)) w' := by
            simp only [execOp, hc]
            exact vrun2 r1
          rw [hrun]
          exact ⟨fr', hp', β', g4, g5, g6, g3⟩
        · exact h3.elim
      · rename_i y
        obtain ⟨ra, h3, h4⟩ := ev_spec hf h2
        split at h3
        · rename_i m
          obtain ⟨rb, h6, h7⟩ := ev_spec hf h3
          split at h6
          · rename_i m2
            obtain ⟨⟨m0, m1⟩, h8⟩ := side_iff.1 h6
            obtain ⟨hmm, h5⟩ := side_iff.1 h8
            subst hmm
            obtain ⟨_, hc0⟩ := h4
            obtain ⟨_, hc⟩ := h7
            obtain ⟨q, rfl⟩ := Int.eq_ofNat_of_zero_le m0
            have hby : inf.bytes ≤ 32 := by
              rw [hinf] at k3
              simpa using k3
            obtain ⟨w', r1, r2, r3⟩ := run_make_full (P := P) (w := w) cx.w0.heap.size t e inf _ esz k1 hinf e1.1 e1.2 .i64 .i64 q (by
              have : inf.bytes * q ≤ 32 * q := Nat.mul_le_mul_right _ hby
              omega) (by unfold maxLen; omega) kp
            have hb : Below w.heap.size w w' := ⟨r3.os, r3.tape, r3.output, r3.size, fun k hk => r3.block k hk (by simp)⟩
            obtain ⟨k, hp', β', g1, g2, g3⟩ := new_spec (S := SW W) hI h5 (.r (.slice (some ⟨w.heap.size, 0, none⟩) q q) 0) hr hb (fun b hb => by simp only [ownE, Value.ownBlock, Option.some.injEq] at hb; omega) (fun β' hx => by
              obtain ⟨z1, z2, z3⟩ := repl_enc ek q
              refine ⟨rfl, ?_, by rw [Int.toNat_natCast, z2]; unfold maxL; omega⟩
              rw [Int.toNat_natCast, z1, z2, z3, ← k4]
              exact r2)
            obtain ⟨fr', g4, g5, g6⟩ := put_spec (v := .slice (some ⟨w.heap.size, 0, none⟩) q q) g1 (hf.ext g3.ext) ⟨rfl, _, _, g2, Nat.le_refl _, fun _ => rfl⟩
            unfold Oper.wp
            have hrun : (execOp a.eval { dst := dst, op := .makeSlice t (.tmp y) c, type := ty, pos := pos, after := after, guard := guard }).run P w = .ok (.value (.slice (some ⟨w.heap.size, 0, none⟩) q q)) w' := by
              simp only [execOp, hc, hc0]
              exact vrun2 r1
            rw [hrun]
            exact ⟨fr', hp', β', g4, g5, g6, g3⟩
          · exact h6.elim
        · exact h3.elim
      · exact h2.elim
    · exact h2.elim
  case store t x y =>
    obtain ⟨ra, h1, h2⟩ := ev_spec hf h
    obtain ⟨rb, h3, h4⟩ := ev_spec hf h1
    obtain ⟨vs, h5, h6⟩ := cells_spec h3 h4
    obtain ⟨ti, h7, h8⟩ := tyK_iff.1 h5
    obtain ⟨hlen, h9⟩ := lenK_iff.1 h8
    have hti := hT t ti h7
    split at h9
    · rename_i k off
      obtain ⟨hm, h10⟩ := side_iff.1 h9
      obtain ⟨hb0, h11, h12⟩ := getH_iff.1 h10
      split at h12
      · rename_i cs T'
        obtain ⟨hle, h13⟩ := replK_iff.1 h12
        obtain ⟨hkl, h14⟩ := setH_iff.1 h13
        obtain ⟨_, n, hn, he⟩ := h2
        have ho := hI.ent k _ _ h11 hn
        obtain ⟨hreg, us, hb, hc⟩ := ho
        have hsz : (a.eval y).cells.size = ti.sz := by rw [← hlen, h6.length]; simp
        have hcl : cs.length = us.size := by rw [hc.length]; simp
        have hrun := run_storeCells_at (P := P) n off T' (a.eval y).cells.toList 0 us w hb (by rw [Nat.add_zero, Array.length_toList, hsz, ← hlen, ← hcl]; exact hle) (fun v hv => h6.one v hv)
        simp only [Nat.add_zero, Array.length_toList] at hrun
        generalize hnew : (us.toList.take off ++ (a.eval y).cells.toList ++ us.toList.drop (off + (a.eval y).cells.size)).toArray = new at hrun
        have hnewc : LCs cx β (cs.take off ++ vs ++ cs.drop (off + vs.length)) new.toList := by
          rw [← hnew]
          simp only [List.append_assoc]
          rw [hsz, ← hlen]
          exact LCs.append (hc.take off) (LCs.append h6 (hc.drop _))
        have hkb : k < β.length := by rw [hI.len]; exact hkl
        have hown : ownB hp β k = some n := by rw [ownB_of h11 hn]; rfl
        have hout : Out cx β hp w (SW W) β (hp.set k (.b (cs.take off ++ vs ++ cs.drop (off + vs.length)) T')) (w.setRow n new) := by
          refine Out.upd (k0 := k) (h' := .b (cs.take off ++ vs ++ cs.drop (off + vs.length)) T') (e' := .b n) hI (mayPut_iff.1 hm) ?_ (fun i hi => ⟨List.getElem?_set_ne (Ne.symm hi), rfl⟩) (by simp [hkl]) hn (by simp [hI.len]) (by simp) (Ext.refl _) ⟨hreg, new, setRow_heap w n us new T' _ hb, hnewc⟩ (fun b hb => .inl (by rw [hown]; exact hb))
          exact ⟨rfl, rfl, rfl, by simp, fun b _ hne => setRow_other w n b new (fun e => hne (by rw [hown, e]))⟩
        obtain ⟨fr', h15, h16, h17⟩ := put_spec (v := undef) h14 hf trivial
        unfold Oper.wp
        have hst : (execOp a.eval { dst := dst, op := .store t x y, type := ty, pos := pos, after := after, guard := guard }).run P w = .ok .skip (w.setRow n new) := by
          simp only [execOp, he, Instr.storeAt, Instr.sureAddr]
          simp [storeVar, run_sz hti.size, hsz, hrun]
        rw [hst]
        exact ⟨fr', _, β, h15, h16, h17, hout⟩
      · exact h12.elim
    · rename_i k ver sz i off
      obtain ⟨hm, h10⟩ := side_iff.1 h9
      obtain ⟨E, l, h11, h12⟩ := rowK_spec h10
      obtain ⟨hbz, h12'⟩ := side_iff.1 h12
      have hsz' : sz = l.sz := Nat.eq_of_beq_eq_true hbz
      obtain ⟨hlt, h13'⟩ := side_iff.1 h12'
      obtain ⟨l', h13, hll, hls, hle, hen⟩ := setEL_spec h6 hlt h13'
      obtain ⟨hkl, h14⟩ := setH_iff.1 h13
      obtain ⟨v1, r2, r3, r4⟩ := row_own hI h11
      obtain ⟨g1, n1, c1, hv, he⟩ := e_val (cx := cx) h2 r2
      subst hv
      have hn : n1 = l.len := slice_len_eq (sl_of_owns r3)
      subst hn
      have hsz : (a.eval y).cells.size = ti.sz := by rw [← hlen, h6.length]; simp
      have hbnd : i * l.sz + off + (a.eval y).cells.toList.length ≤ l.len * l.sz := by
        have h1 : (i + 1) * l.sz ≤ l.len * l.sz := Nat.mul_le_mul_right _ hlt
        have h2 : vs.length = (a.eval y).cells.toList.length := h6.length
        rw [Nat.add_mul] at h1
        omega
      obtain ⟨cur, hb, hcs, hown2⟩ := owns_store r3 hbnd
      have hrun := run_storeCells_at (P := P) g1 (i * l.sz + off) E (a.eval y).cells.toList 0 cur w hb (by rw [Nat.add_zero]; exact hcs) (fun v hv => h6.one v hv)
      simp only [Nat.add_zero, Array.length_toList] at hrun
      generalize hnew : (cur.toList.take (i * l.sz + off) ++ (a.eval y).cells.toList ++ cur.toList.drop (i * l.sz + off + (a.eval y).cells.size)).toArray = new at hrun
      have hown : ownB hp β k = some g1 := by rw [ownB_of h11 r2]; rfl
      have hout : Out cx β hp w (SW W) β (hp.set k (.r ver E l')) (w.setRow g1 new) := by
        refine Out.upd (k0 := k) (h' := .r ver E l') (e' := .r (.slice (some ⟨g1, 0, none⟩) l.len c1) ver) hI (mayPut_iff.1 hm) ?_ (fun i hi => ⟨List.getElem?_set_ne (Ne.symm hi), rfl⟩) (by simp [hkl]) r2 (by simp [hI.len]) (by simp) (Ext.refl _) ⟨rfl, ?_, by rw [hll]; exact r4⟩ (fun b hb => .inl (by rw [hown]; exact hb))
        · exact ⟨rfl, rfl, rfl, by simp, fun b _ hne => setRow_other w g1 b new (fun e => hne (by rw [hown, e]))⟩
        · rw [hll, hls, hen]
          refine hown2 _ ?_
          rw [setRow_heap w g1 cur new E _ hb, ← hnew, Array.length_toList]
      obtain ⟨fr', h15, h16, h17⟩ := put_spec (v := undef) h14 hf trivial
      unfold Oper.wp
      have hst : (execOp a.eval { dst := dst, op := .store t x y, type := ty, pos := pos, after := after, guard := guard }).run P w = .ok .skip (w.setRow g1 new) := by
        simp only [execOp, he, Instr.storeAt, Instr.sureAddr]
        subst hsz'
        simp [storeVar, run_sz hti.size, hsz, hrun]
      rw [hst]
      exact ⟨fr', _, β, h15, h16, h17, hout⟩
    · exact h9.elim
  case call c =>
    obtain ⟨callee, args, ats⟩ := c
    cases callee
    case value f =>
      cases f
      case const => exact soft h
      case global => exact soft h
      case tmp d =>
        obtain ⟨x0, g1, g2⟩ := getF_iff.1 h
        split at g2
        · rename_i f us0 vs0
          obtain ⟨hu0, g3⟩ := side_iff.1 g2
          obtain ⟨hv0, g4⟩ := side_iff.1 g3
          obtain ⟨c', hc, h1⟩ := csK_spec g4
          obtain ⟨rs, h2, h3⟩ := evs_spec hf h1
          obtain ⟨hin, h4⟩ := side_iff.1 h2
          have hok := hG.1 f c' hc
          have hcall := hok.snd rs hp _ h4 cx β w (args.map a.eval) hI (hG.gl hc) (by simpa using h3)
          have hval : a.eval (.tmp d) = .func (.func f) #[] #[] := by
            obtain ⟨_, e⟩ := hf.2 d _ g1
            rw [hu0, hv0] at e
            exact e
          unfold Oper.wp
          have hrun : (execOp a.eval { dst := dst, op := .call { callee := .value (.tmp d), args := args, argTypes := ats }, type := ty, pos := pos, after := after, guard := guard }).run P w = .ok (.enter f (args.map a.eval)) w := by
            simp [execOp, resolve, hval, Deferred.ofValue, invoke, run_callFunc hok.fn]
          rw [hrun]
          refine Calls.mono hcall ?_
          rintro e w' ⟨v, r, hp', β', rfl, hk, hr', hout⟩
          obtain ⟨fr', g1, g2, g3⟩ := put_spec hk (hf.ext hout.ext) hr'
          exact ⟨fr', hp', β', g1, g2, g3, hout.mono fun k hk => mayTch_spec hin k hk⟩
        · exact g2.elim
      case func f =>
      obtain ⟨c', hc, h1⟩ := csK_spec h
      obtain ⟨rs, h2, h3⟩ := evs_spec hf h1
      obtain ⟨hin, h4⟩ := side_iff.1 h2
      have hok := hG.1 f c' hc
      have hcall := hok.snd rs hp _ h4 cx β w (args.map a.eval) hI (hG.gl hc) (by simpa using h3)
      unfold Oper.wp
      have hrun : (execOp a.eval { dst := dst, op := .call { callee := .value (.func f), args := args, argTypes := ats }, type := ty, pos := pos, after := after, guard := guard }).run P w = .ok (.enter f (args.map a.eval)) w := by
        simp [execOp, resolve, Act.eval, Deferred.ofValue, invoke, run_callFunc hok.fn]
      rw [hrun]
      refine Calls.mono hcall ?_
      rintro e w' ⟨v, r, hp', β', rfl, hk, hr', hout⟩
      obtain ⟨fr', g1, g2, g3⟩ := put_spec hk (hf.ext hout.ext) hr'
      exact ⟨fr', hp', β', g1, g2, g3, hout.mono fun k hk => mayTch_spec hin k hk⟩
    case invoke rv name =>
      obtain ⟨ra, h1, hra⟩ := ev_spec hf h
      split at h1
      · rename_i t k
        obtain ⟨ti, ht, h2⟩ := tyK_iff.1 h1
        have hti := hT t ti ht
        obtain ⟨f, p, hm, h3⟩ := meth_spec h2
        obtain ⟨c', hc, h4⟩ := csK_spec h3
        obtain ⟨rs, h5, h6⟩ := evs_spec hf h4
        have hok := hG.1 f c' hc
        obtain ⟨_, n, hn, he⟩ := hra
        have he : a.eval rv = .iface t (.pointer (some ⟨n, 0, none⟩)) := he
        have hmeth := hti.meth (name, f, p) hm n w
        cases p
        case true =>
          obtain ⟨hin, h7⟩ := side_iff.1 h5
          have hcall := hok.snd (.l (.p k 0) :: rs) hp _ h7 cx β w (#[.pointer (some ⟨n, 0, none⟩)] ++ args.map a.eval) hI (hG.gl hc) (by simpa using ⟨⟨rfl, n, hn, rfl⟩, h6⟩)
          unfold Oper.wp
          have hrun : (execOp a.eval { dst := dst, op := .call { callee := .invoke rv name, args := args, argTypes := ats }, type := ty, pos := pos, after := after, guard := guard }).run P w = .ok (.enter f (#[.pointer (some ⟨n, 0, none⟩)] ++ args.map a.eval)) w := by
            exact run_invoke he (hmeth.1 rfl) (run_callFunc hok.fn _ _)
          rw [hrun]
          refine Calls.mono hcall ?_
          rintro e w' ⟨v, r, hp', β', rfl, hk, hr', hout⟩
          obtain ⟨fr', g1, g2, g3⟩ := put_spec hk (hf.ext hout.ext) hr'
          exact ⟨fr', hp', β', g1, g2, g3, hout.mono fun k hk => mayTch_spec hin k hk⟩
        case false =>
          dsimp only at h5
          split at h5
          · rename_i e hk
            obtain ⟨ei, hei, h7⟩ := tyK_iff.1 h5
            obtain ⟨_, h8⟩ := side_iff.1 h7
            obtain ⟨hb, h9, h10⟩ := getH_iff.1 h8
            split at h10
            · rename_i cs T1
              obtain ⟨x, v, h11, h12, h13⟩ := load_blk (hT e ei hei) hI h9 hn h10
              obtain ⟨hin, h14⟩ := side_iff.1 h11
              have hcall := hok.snd (x :: rs) hp _ h14 cx β w (#[v] ++ args.map a.eval) hI (hG.gl hc) (by simpa using ⟨h12, h6⟩)
              unfold Oper.wp
              have hrun : (execOp a.eval { dst := dst, op := .call { callee := .invoke rv name, args := args, argTypes := ats }, type := ty, pos := pos, after := after, guard := guard }).run P w = .ok (.enter f (#[v] ++ args.map a.eval)) w := by
                exact run_invoke he ((hmeth.2 rfl e hk).trans (by simp [h13])) (run_callFunc hok.fn _ _)
              rw [hrun]
              refine Calls.mono hcall ?_
              rintro e w' ⟨v, r, hp', β', rfl, hk, hr', hout⟩
              obtain ⟨fr', g1, g2, g3⟩ := put_spec hk (hf.ext hout.ext) hr'
              exact ⟨fr', hp', β', g1, g2, g3, hout.mono fun k hk => mayTch_spec hin k hk⟩
            · exact h10.elim
          · exact h5.elim
      · exact h1.elim
    case builtin bb =>
      cases bb <;> first | exact soft h | skip
      change (match args.toList with
        | [x, y] => _
        | _ => False) at h
      split at h
      · rename_i x y hargs
        split at h
        · rename_i t t2 hat
          obtain ⟨ti, h1, h2⟩ := tyK_iff.1 h
          have hk' := (hT t ti h1).kind
          split at h2
          · rename_i e esz ek hk
            rw [hk] at hk'
            obtain ⟨k1, k2, k3, k4⟩ := hk'
            obtain ⟨inf, hinf, e1⟩ := Option.map_eq_some_iff.1 k2
            simp only [Prod.mk.injEq] at e1
            obtain ⟨ht2, h2'⟩ := side_iff.1 h2
            have htt : t = t2 := Nat.eq_of_beq_eq_true ht2
            subst htt
            obtain ⟨ra, h3, h4⟩ := ev_spec hf h2'
            obtain ⟨rb, h5, h6⟩ := ev_spec hf h3
            obtain ⟨m, h7', h8, h9⟩ := read_spec hI h6 h5
            obtain ⟨hmz, h7⟩ := side_iff.1 h7'
            have hms : esz = m.sz := Nat.eq_of_beq_eq_true hmz
            have ho : args = #[x, y] := Array.toList_inj.1 hargs
            have hat' : ats = #[t, t] := Array.toList_inj.1 hat
            subst ho hat'
            have hby : inf.bytes ≤ 32 := by
              rw [hinf] at k3
              simpa using k3
            have hinf3 : (P.info? e).map (fun i => (i.zero, i.size, i.bytes)) = some (some ek.zero, esz, inf.bytes) := by rw [hinf, Option.map_some, e1.1, e1.2]
            have hzs : ek.zero.cells.size = esz := by rw [k4]; cases ek <;> rfl
            have hpos : 0 < esz := by rw [k4]; cases ek <;> simp [EK.sz]
            rw [← hms] at h8
            clear h h2 h2' h3 h5 h7'
            split at h7
            · rename_i k ver
              obtain ⟨hm, g1⟩ := side_iff.1 h7
              obtain ⟨E, l, g2, g3⟩ := rowK_spec g1
              obtain ⟨hE, g4⟩ := side_iff.1 g3
              obtain ⟨hle, g5⟩ := side_iff.1 g4
              have hEe : E = e := Nat.eq_of_beq_eq_true hE
              subst hEe
              obtain ⟨l', g6, g7, g8, g9, g10⟩ := app_spec g5
              obtain ⟨hkl, g11⟩ := setH_iff.1 g6
              obtain ⟨v1, r2, r3, r4⟩ := row_own hI g2
              have hv := s_val (cx := cx) h4 r2
              have hlz : l.sz = esz := by rw [← g10, hms]
              rw [hlz] at r3
              have hlm : l.len + m.len ≤ 1099511627776 := hle
              refine wp_append_sl x y t rfl cx.w0.heap.size E ek.zero esz inf.bytes k1 hinf3 hzs hpos v1 l.len l.enc hv r3 (a.eval y) m.len m.enc rfl h8 m.one (by unfold maxLen; omega) ?_ kp ?_
              · have : (l.len + m.len) * inf.bytes ≤ (l.len + m.len) * 32 := Nat.mul_le_mul_left _ hby
                omega
              · intro v' w' q1 q2 q3
                have hkb : k < β.length := by rw [hI.len]; exact hkl
                have hown : ownB hp β k = v1.ownBlock := by rw [ownB_of g2 r2]; rfl
                have hx : Ext β (β.set k (.r v' (ver + 1))) := by
                  intro i e0 hie
                  by_cases hik : i = k
                  · subst hik
                    rw [r2] at hie
                    obtain rfl := Option.some.inj hie
                    exact ⟨v', ver + 1, by simp [hkb], by omega, fun e => by omega⟩
                  · have hsame : (β.set k (.r v' (ver + 1)))[i]? = some e0 := by rw [List.getElem?_set_ne (Ne.symm hik)]; exact hie
                    cases e0 with
                    | b n => exact hsame
                    | r v ver => exact ⟨v, ver, hsame, Nat.le_refl _, fun _ => rfl⟩
                    | x => trivial
                have hout : Out cx β hp w (SW W) (β.set k (.r v' (ver + 1))) (hp.set k (.r (ver + 1) E l')) w' := by
                  refine Out.upd (k0 := k) (h' := .r (ver + 1) E l') (e' := .r v' (ver + 1)) hI (mayPut_iff.1 hm) ?_ (fun i hi => ⟨List.getElem?_set_ne (Ne.symm hi), List.getElem?_set_ne (Ne.symm hi)⟩) (by simp [hkl]) (by simp [hkb]) (by simp [hI.len]) (by simp) hx ⟨rfl, by rw [g8, g7, g9, hlz]; exact q1, by rw [g8]; exact hle⟩ (fun b hb => ?_)
                  · rw [hown]; exact (Tch.of_grown q2)
                  · rw [hown]
                    rcases q3 with q3 | q3
                    · exact .inl (q3 ▸ hb)
                    · have : some w.heap.size = some b := q3 ▸ hb
                      simp only [Option.some.injEq] at this
                      omega
                have hone : v'.oneCell' = true := by obtain ⟨_, _, rfl⟩ := owns_form q1; rfl
                obtain ⟨fr', g12, g13, g14⟩ := put_spec (v := v') g11 (hf.ext hx) ⟨hone, v', ver + 1, by simp [hkb], Nat.le_refl _, fun _ => rfl⟩
                exact ⟨fr', _, _, g12, g13, g14, hout⟩
            · obtain ⟨_, hv⟩ := h4
              refine wp_copy_sl x y t rfl w.heap.size e ek.zero esz inf.bytes k1 hinf3 hzs (.slice none 0 0) hv (.inl rfl) (a.eval y) m.len m.enc rfl h8 (by have : m.len ≤ 1099511627776 := h9; unfold maxLen; omega) ?_ (Nat.le_refl _) ?_
              · have : m.len * inf.bytes ≤ m.len * 32 := Nat.mul_le_mul_left _ hby
                have : m.len ≤ 1099511627776 := h9
                omega
              · intro v' w' q1 q2
                obtain ⟨k, hp', β', p1, p2, p3⟩ := new_spec (S := SW W) (rsv := none) hI h7 (.r v' 0) (fun k hk => hr k (hk.elim (fun e => by cases e) .inr)) q2 (fun b hb => (q1.lt b hb).1) (fun β' hx => ⟨rfl, by rw [← hms]; exact owns_base q1 kp, h9⟩)
                have hone : v'.oneCell' = true := by obtain ⟨_, _, rfl⟩ := owns_form q1; rfl
                obtain ⟨fr', p4, p5, p6⟩ := put_spec (v := v') p1 (hf.ext p3.ext) ⟨hone, v', 0, p2, Nat.le_refl _, fun _ => rfl⟩
                exact ⟨fr', hp', β', p4, p5, p6, p3⟩
            · exact h7.elim
          · exact h2.elim
        · exact h.elim
      · exact h.elim
  all_goals exact soft h

end
end Ab
end Go.Proofs.YtkhggobpanfkfaaDoor

/-
  A whole piece of code: what the abstract walk says of it is what it does. Plain lemmas; the conditions are the types' rows (TIok) and the contracts (CSok).
-/
namespace Go.Proofs.YtkhggobpanfkfaaDoor
open Go.RowKit
namespace Ab

/-- What a piece of code leaves of what there was when the function began (or was entered by another one). -/
structure Lk (β0 : List En) (hp0 : Hp) (w0 : World) (β : List En) (hp : Hp) (w : World) : Prop where
  ext : ∀ k e, k < hp0.length → β0[k]? = some e → match e with
    | .b n => β[k]? = some (.b n)
    | .r v ver => ∃ v' ver', β[k]? = some (.r v' ver') ∧ ver ≤ ver' ∧ (ver = ver' → v' = v)
    | .x => True
  om : ∀ k b, ownB hp β k = some b → (k < hp0.length ∧ ownB hp0 β0 k = some b) ∨ w0.heap.size ≤ b
  size : w0.heap.size ≤ w.heap.size
  len : hp0.length ≤ hp.length
  tch : ∀ b, b < w0.heap.size → (∀ k, ownB hp0 β0 k ≠ some b) → w.heap[b]? = w0.heap[b]?

section
variable {P : Program} {cx : Cx} {β : List En} {hp : Hp} {w : World} {β0 : List En} {hp0 : Hp} {w0 : World}

theorem Lk.out {S : Nat → Prop} {β' : List En} {hp' : Hp} {w' : World} (h : Lk β0 hp0 w0 β hp w) (ho : Out cx β hp w S β' hp' w') : Lk β0 hp0 w0 β' hp' w' := by
  refine ⟨fun k e hk he => ?_, fun k b hb => ?_, Nat.le_trans h.size ho.size, Nat.le_trans h.len ho.len, fun b hb hn => ?_⟩
  rotate_left 2
  · refine (ho.tch b (Nat.lt_of_lt_of_le hb h.size) fun k _ e => ?_).trans (h.tch b hb hn)
    rcases h.om k b e with h1 | h1
    · exact hn k h1.2
    · omega
  · have h1 := h.ext k e hk he
    cases e with
    | b n => exact ho.ext k _ h1
    | r v ver =>
      obtain ⟨v', ver', h2, h3, h4⟩ := h1
      obtain ⟨v2, ver2, h5, h6, h7⟩ := ho.ext k _ h2
      exact ⟨v2, ver2, h5, Nat.le_trans h3 h6, fun e => (h7 (by omega)).trans (h4 (by omega))⟩
    | x => trivial
  · rcases ho.om k b hb with h1 | h1
    · exact h.om k b h1
    · exact .inr (Nat.le_trans h.size h1)

/-! ### Regions in the text's order -/
theorem want_spec {ops : Array Oper} {fr : Fr} {a : Act} {o : Oper} {p q : Prop} (hf : FR cx β fr a.tmps) (h : wantK ops.toList fr o p q) :
    (Region.wanted o (yielded ops a.tmps) = true ∧ p) ∨ (Region.wanted o (yielded ops a.tmps) = false ∧ q) := by
  unfold wantK at h
  unfold Region.wanted
  cases hg : o.guard with
  | none => simp only [hg] at h; exact .inl ⟨rfl, h⟩
  | some x =>
    obtain ⟨i, b⟩ := x
    simp only [hg] at h
    obtain ⟨oi, h1, h2⟩ := getO_iff.1 h
    split at h2
    · rename_i d hd
      obtain ⟨x, h3, h4⟩ := getF_iff.1 h2
      split at h4
      · rename_i t
        have hx := hf.2 d _ h3
        have hlt : d < a.tmps.size := by rw [← hf.1]; exact (List.getElem?_eq_some_iff.1 h3).1
        have hv : a.tmps[d]? = some (.bool t) := by
          have := hx.2
          simp only [Array.getD, hlt, dif_pos] at this
          rw [Array.getElem?_eq_getElem hlt]
          exact congrArg some this
        have hy : yielded ops a.tmps i = some t := by
          unfold yielded
          have : ops[i]? = some oi := by simpa using h1
          simp [this, hd, hv]
        simp only [hy]
        cases b with
        | true =>
          dsimp only at h4
          rw [br_ite] at h4
          cases t with
          | true => exact .inl ⟨rfl, h4⟩
          | false => exact .inr ⟨rfl, h4⟩
        | false =>
          dsimp only at h4
          rw [br_ite] at h4
          cases t with
          | true => exact .inr ⟨rfl, h4⟩
          | false => exact .inl ⟨rfl, h4⟩
      · have hx := hf.2 d _ h3
        have hlt : d < a.tmps.size := by rw [← hf.1]; exact (List.getElem?_eq_some_iff.1 h3).1
        split at h4
        · obtain ⟨vs, hv, _⟩ := hx
          have hv : a.tmps[d]? = some (.tuple vs) := by
            simp only [Array.getD, hlt, dif_pos] at hv
            rw [Array.getElem?_eq_getElem hlt]
            exact congrArg some hv
          have hy : yielded ops a.tmps i = none := by
            unfold yielded
            have : ops[i]? = some oi := by simpa using h1
            simp [this, hd, hv]
          exact .inr ⟨by simp [hy], h4⟩
        · exact h4.elim
      · exact h4.elim
    · exact h2.elim

/-- What holds where a piece of code has come to. -/
def At (cx : Cx) (β0 : List En) (hp0 : Hp) (w0 : World) (d0 : List Deferred) (fr : Fr) (hp : Hp) (a : Act) (w : World) : Prop := ∃ β, Inv cx β hp w ∧ FR cx β fr a.tmps ∧ a.defers = d0 ∧ Lk β0 hp0 w0 β hp w

theorem ops_spec {T : Tab} {G : Env} (hT : TabOk P T) (hG : EnvC P G cx) {ops : Array Oper} {Q : Exit → Act → World → Prop} {d0 : List Deferred} {K : Fr → Hp → Prop}
    (hQ : ∀ fr hp a w, K fr hp → At cx β0 hp0 w0 d0 fr hp a w → Q .normal a w) : ∀ (r : List Oper) (i : Nat) (fr : Fr) (hp : Hp) (a : Act) (w : World), ops.toList.drop i = r → At cx β0 hp0 w0 d0 fr hp a w → opsK T G ops.toList r fr hp K →
    wpOps P ops Q (List.range' i r.length) a w := by
  intro r
  induction r with
  | nil => intro i fr hp a w _ hA h; exact hQ fr hp a w h hA
  | cons o r ih =>
    intro i fr hp a w hd hA h
    have ho : ops[i]? = some o := by
      have := congrArg (fun l => l[0]?) hd
      simpa using this
    have hd' : ops.toList.drop (i + 1) = r := by
      have := congrArg List.tail hd
      simpa using this
    rw [List.length_cons, List.range'_succ, wpOps_cons]
    obtain ⟨β, hI, hf, hdf, hL⟩ := hA
    unfold wpOp
    simp only [ho]
    rcases want_spec hf h with ⟨hw, h1⟩ | ⟨hw, h1⟩
    · rw [if_pos hw]
      refine .inl (Oper.wp_mono ?_ (eff_spec (Q := Q) (W := none) hT hG hI hf (fun _ _ => trivial) h1))
      rintro a' w' ⟨fr', hp', β', hk, hf', hdf', hout⟩
      exact ih (i + 1) fr' hp' a' w' hd' ⟨β', hout.inv, hf', hdf'.trans hdf, hL.out hout⟩ hk
    · rw [if_neg (by simp [hw])]
      obtain ⟨fr', hk, hf', hdf'⟩ := put_spec (v := undef) h1 hf ⟨#[], rfl, trivial⟩
      exact ih (i + 1) fr' hp _ w hd' ⟨β, hI, hf', hdf'.trans hdf, hL⟩ hk

/-! ### Regions that draw their order -/
/-- How a region's memory stands to that at its beginning. -/
structure RI (n : Nat) (Wl : List Nat) (N0 : Nat) (β1 : List En) (hp1 : Hp) (β : List En) (hp : Hp) (w : World) : Prop where
  r1 : ∀ k b, ownB hp β k = some b → ownB hp1 β1 k = some b ∨ N0 ≤ b
  r2 : ∀ k, k < n → k ∉ Wl → ownB hp β k = ownB hp1 β1 k
  size : N0 ≤ w.heap.size
  len : n ≤ hp.length

def pOf (N0 : Nat) (Wl : List Nat) (β1 : List En) (hp1 : Hp) (b : Nat) : Prop := b < N0 ∧ ∀ k ∈ Wl, ownB hp1 β1 k ≠ some b

theorem tree_spec {T : Tab} {G : Env} (hT : TabOk P T) (hG : EnvC P G cx) {ops : Array Oper} {Q : Exit → Act → World → Prop} {d0 : List Deferred} {n : Nat} {Wl : List Nat} {β1 : List En} {hp1 : Hp} {w1 : World}
    (hI1 : Inv cx β1 hp1 w1) (hn1 : ∀ k, n ≤ k → ownB hp1 β1 k = none) :
    ∀ (t : Tr) (K : Fr → Hp → Prop) (fr : Fr) (hp : Hp) (β : List En) (a : Act) (w : World), (∀ fr hp a w, K fr hp → At cx β0 hp0 w0 d0 fr hp a w → Q .normal a w) → Inv cx β hp w → FR cx β fr a.tmps → a.defers = d0 → Lk β0 hp0 w0 β hp w → RI n Wl w1.heap.size β1 hp1 β hp w →
      treeK T G ops.toList (n, Wl) n t fr hp K → wpE P ops (pOf w1.heap.size Wl β1 hp1) Q t a w := by
  have late : ∀ (t : Tr) (K : Fr → Hp → Prop) (fr : Fr) (hp : Hp) (a : Act) (w : World), (∀ fr hp a w, K fr hp → At cx β0 hp0 w0 d0 fr hp a w → Q .normal a w) → At cx β0 hp0 w0 d0 fr hp a w →
      lateK T G ops.toList (n, Wl) n t fr hp K → wpE P ops (pOf w1.heap.size Wl β1 hp1) Q t a w := by
    intro t
    induction t with
    | nil => intro K fr hp a w hQ hA h; exact hQ fr hp a w (end_iff.1 h) hA
    | op i k t ih =>
      intro K fr hp a w hQ hA h
      match k, h with
      | 0, h => exact h.elim
      | 1, h => exact h.elim
      | k + 2, h =>
        obtain ⟨β, hI, hf, hdf, hL⟩ := hA
        obtain ⟨o, ho', h1⟩ := getO_iff.1 h
        have ho : ops[i]? = some o := by simpa using ho'
        show wpOp P ops Q i _ a w
        unfold wpOp
        simp only [ho]
        rcases want_spec hf h1 with ⟨hw, h2⟩ | ⟨hw, h2⟩
        · rw [if_pos hw]
          refine .inl (Oper.wp_mono ?_ (eff_spec (Q := Q) (W := none) hT hG hI hf (fun _ _ => trivial) (natK_iff.1 h2)))
          rintro a' w' ⟨fr', hp', β', hk, hf', hdf', hout⟩
          exact ih K fr' hp' a' w' hQ ⟨β', hout.inv, hf', hdf'.trans hdf, hL.out hout⟩ hk
        · rw [if_neg (by simp [hw])]
          obtain ⟨fr', hk, hf', hdf'⟩ := put_spec (v := undef) h2 hf ⟨#[], rfl, trivial⟩
          exact ih K fr' hp _ w hQ ⟨β, hI, hf', hdf'.trans hdf, hL⟩ hk
    | fork => intro K fr hp a w hQ hA h; exact h.elim
  -- what may be asked stays, and the region's memory stays in order
  have exOf : ∀ {β β' : List En} {hp hp' : Hp} {w w' : World}, RI n Wl w1.heap.size β1 hp1 β hp w → Out cx β hp w (SW (some (n, Wl))) β' hp' w' → Ex (pOf w1.heap.size Wl β1 hp1) w w' ∧ RI n Wl w1.heap.size β1 hp1 β' hp' w' := by
    intro β β' hp hp' w w' hR ho
    refine ⟨⟨ho.size, fun b hp hb => ho.tch b hb fun k hk e => ?_⟩, fun k b hb => ?_, fun k hk hn => ?_, Nat.le_trans hR.size ho.size, Nat.le_trans hR.len ho.len⟩
    · rcases hR.r1 k b e with h1 | h1
      · rcases hk with hk | hk
        · exact hp.2 k hk h1
        · rw [hn1 k hk] at h1; cases h1
      · exact absurd hp.1 (by omega)
    · rcases ho.om k b hb with h1 | h1
      · exact hR.r1 k b h1
      · exact .inr (Nat.le_trans hR.size h1)
    · rw [ho.own k (Nat.lt_of_lt_of_le hk hR.len) (fun e => e.elim hn (by omega))]
      exact hR.r2 k hk hn
  have hr : ∀ {hp : Hp} {j : Nat}, n ≤ hp.length → ∀ k, (some (n + j) = some k ∨ hp.length ≤ k) → SW (some (n, Wl)) k := by
    intro hp j hl k hk
    refine .inr ?_
    rcases hk with hk | hk
    · simp only [Option.some.injEq] at hk; omega
    · omega
  have step1 : ∀ (i : Nat) (t : Tr) (K : Fr → Hp → Prop) (fr : Fr) (hp : Hp) (β : List En) (a : Act) (w : World),
      (∀ (fr : Fr) (hp : Hp) (β : List En) (a : Act) (w : World), Inv cx β hp w → FR cx β fr a.tmps → a.defers = d0 → Lk β0 hp0 w0 β hp w → RI n Wl w1.heap.size β1 hp1 β hp w → treeK T G ops.toList (n, Wl) n t fr hp K → wpE P ops (pOf w1.heap.size Wl β1 hp1) Q t a w) →
      Inv cx β hp w → FR cx β fr a.tmps → a.defers = d0 → Lk β0 hp0 w0 β hp w → RI n Wl w1.heap.size β1 hp1 β hp w → (stepT T G ops.toList (n, Wl) n i 1 fr hp fun fr' hp' => treeK T G ops.toList (n, Wl) n t fr' hp' K) →
      wpOp P ops Q i (fun a' w' => Ex (pOf w1.heap.size Wl β1 hp1) w w' ∧ wpE P ops (pOf w1.heap.size Wl β1 hp1) Q t a' w') a w := by
    intro i t K fr hp β a w ih hI hf hdf hL hR h
    obtain ⟨o, ho', h1⟩ := getO_iff.1 h
    have ho : ops[i]? = some o := by simpa using ho'
    unfold wpOp
    simp only [ho]
    rcases want_spec hf h1 with ⟨hw, h2⟩ | ⟨hw, h2⟩
    · rw [if_pos hw]
      refine .inl (Oper.wp_mono ?_ (eff_spec (Q := Q) hT hG hI hf (hr hR.len) (natK_iff.1 h2)))
      rintro a' w' ⟨fr', hp', β', hk, hf', hdf', hout⟩
      obtain ⟨e1, e2⟩ := exOf hR hout
      exact ⟨e1, ih fr' hp' β' a' w' hout.inv hf' (hdf'.trans hdf) (hL.out hout) e2 hk⟩
    · rw [if_neg (by simp [hw])]
      obtain ⟨fr', hk, hf', hdf'⟩ := put_spec (v := undef) h2 hf ⟨#[], rfl, trivial⟩
      exact ⟨Ex.refl _ _, ih fr' hp β _ w hI hf' (hdf'.trans hdf) hL hR hk⟩
  intro t
  induction t with
  | nil => intro K fr hp β a w hQ hI hf hdf hL hR h; exact hQ fr hp a w (end_iff.1 h) ⟨β, hI, hf, hdf, hL⟩
  | op i k t ih =>
    intro K fr hp β a w hQ hI hf hdf hL hR h
    match k, h with
    | 0, h =>
      obtain ⟨o, ho', h1⟩ := getO_iff.1 h
      have ho : ops[i]? = some o := by simpa using ho'
      rcases want_spec hf h1 with ⟨hw, h2⟩ | ⟨hw, h2⟩
      · obtain ⟨r, h3, v, h4, h5⟩ := soft_spec hT hI hf h2
        obtain ⟨fr', hk, hf', hdf'⟩ := put_spec h3 hf h4
        refine ⟨o, v, ho, .inl ⟨hw, fun w' hx => h5 w' ?_⟩, ih K fr' hp β _ w hQ hI hf' (hdf'.trans hdf) hL hR hk⟩
        intro b hb
        rcases hb with ⟨k, hk, hkW, hkb⟩ | ⟨hb1, hb2⟩
        · have h6 : ownB hp1 β1 k = some b := by rw [← hR.r2 k hk hkW]; exact hkb
          refine hx.2 b ⟨(hI1.lt h6).1, fun k' hk' e => ?_⟩ (hI.lt hkb).1
          have := hI1.dis k' k b e h6
          exact hkW (this ▸ hk')
        · have h7 : b < w1.heap.size := Nat.lt_of_lt_of_le hb1 hI1.kp.size
          refine hx.2 b ⟨h7, fun k' hk' e => ?_⟩ (Nat.lt_of_lt_of_le h7 hR.size)
          rcases (hI1.lt e).2 with h8 | h8
          · omega
          · exact hb2 h8
      · obtain ⟨fr', hk, hf', hdf'⟩ := put_spec (v := undef) h2 hf ⟨#[], rfl, trivial⟩
        exact ⟨o, undef, ho, .inr ⟨hw, rfl⟩, ih K fr' hp β _ w hQ hI hf' (hdf'.trans hdf) hL hR hk⟩
    | 1, h => exact step1 i t K fr hp β a w (fun fr hp β a w h1 h2 h3 h4 h5 h6 => ih K fr hp β a w hQ h1 h2 h3 h4 h5 h6) hI hf hdf hL hR h
    | k + 2, h =>
      obtain ⟨o, ho', h1⟩ := getO_iff.1 h
      have ho : ops[i]? = some o := by simpa using ho'
      show wpOp P ops Q i _ a w
      unfold wpOp
      simp only [ho]
      rcases want_spec hf h1 with ⟨hw, h2⟩ | ⟨hw, h2⟩
      · rw [if_pos hw]
        refine .inl (Oper.wp_mono ?_ (eff_spec (Q := Q) (W := none) hT hG hI hf (fun _ _ => trivial) (natK_iff.1 h2)))
        rintro a' w' ⟨fr', hp', β', hk, hf', hdf', hout⟩
        exact late t K fr' hp' a' w' hQ ⟨β', hout.inv, hf', hdf'.trans hdf, hL.out hout⟩ hk
      · rw [if_neg (by simp [hw])]
        obtain ⟨fr', hk, hf', hdf'⟩ := put_spec (v := undef) h2 hf ⟨#[], rfl, trivial⟩
        exact late t K fr' hp _ w hQ ⟨β, hI, hf', hdf'.trans hdf, hL⟩ hk
  | fork i k t j l u iht ihu =>
    intro K fr hp β a w hQ hI hf hdf hL hR h
    obtain ⟨h1, h2⟩ := h
    exact ⟨step1 i t K fr hp β a w (fun fr hp β a w h1 h2 h3 h4 h5 h6 => iht K fr hp β a w hQ h1 h2 h3 h4 h5 h6) hI hf hdf hL hR h2,
      step1 j u K fr hp β a w (fun fr hp β a w h1 h2 h3 h4 h5 h6 => ihu K fr hp β a w hQ h1 h2 h3 h4 h5 h6) hI hf hdf hL hR (h1 K h2)⟩

end
end Ab
end Go.Proofs.YtkhggobpanfkfaaDoor

/-
  Code, loops and whole functions: what the abstract walk says of them is what they do. Plain lemmas; the conditions are the types' rows (TIok) and the contracts (CSok).
-/
namespace Go.Proofs.YtkhggobpanfkfaaDoor
open Go.RowKit
namespace Ab

section loops
variable {P : Program} {Q : Exit → Act → World → Prop} {a : Act} {w : World}
/-- The loop, from its round on. -/
def InLoop (P : Program) (Q : Exit → Act → World → Prop) (c : Code) (a : Act) (w : World) : Prop := ∀ (b : Frame) (k : List Item) (cs : List Frame), ∃ e a' w', Q e a' w' ∧ Arrives P (lone (b.at a (.code c :: .inLoop c :: k)) cs w) b k cs e a' w'
theorem loop_of_in {c : Code} (h : InLoop P Q c a w) : (Code.loop c).wp P Q a w := by
  intro b k cs
  obtain ⟨e, a', w', hq, harr⟩ := h b k cs
  exact ⟨e, a', w', hq, .of_steps (.one step_loop) harr⟩
theorem in_once {c : Code} (h : c.wp P (Exit.then (fun a' w' => InLoop P Q c a' w') Q) a w) : InLoop P Q c a w := by
  intro b k cs
  obtain ⟨e, a₁, w₁, hq, harr⟩ := h b (.inLoop c :: k) cs
  cases e with
  | normal =>
    obtain ⟨e₂, a₂, w₂, hq₂, harr₂⟩ := hq b k cs
    exact ⟨e₂, a₂, w₂, hq₂, .of_steps (Steps.trans harr (.one step_inLoop)) harr₂⟩
  | exit id => exact ⟨_, a₁, w₁, hq, .pass (x := .inLoop c) rfl (fun _ _ => .inl (by simp)) harr⟩
  | goto l => exact ⟨_, a₁, w₁, hq, .pass (x := .inLoop c) rfl (fun _ _ => .inl (by simp)) harr⟩
  | ret => exact ⟨_, a₁, w₁, hq, .pass (x := .inLoop c) rfl (fun _ _ => .inl (by simp)) harr⟩
  | panic ch => exact ⟨_, a₁, w₁, hq, .pass (x := .inLoop c) rfl (fun _ _ => .inl (by simp)) harr⟩
  | outgrown => exact ⟨_, a₁, w₁, hq, .pass (x := .inLoop c) rfl (fun _ _ => .inl (by simp)) harr⟩
theorem wp_loop_x {c : Code} {σ : Type} (I : σ → Act → World → Prop) (μ : σ → Nat) (x0 : σ) (h0 : I x0 a w)
    (round : ∀ x a w, I x a w → c.wp P (Exit.then (fun a' w' => ∃ x', I x' a' w' ∧ μ x' < μ x) Q) a w) : InLoop P Q c a w := by
  have key : ∀ n x a w, μ x = n → I x a w → InLoop P Q c a w := by
    intro n
    induction n using Nat.strongRecOn with
    | _ n ih =>
      intro x a w hn hI
      refine in_once (wp_mono (round x a w hI) ?_)
      intro e a' w' h
      cases e with
      | normal =>
        obtain ⟨x', hI₁, hlt⟩ := h
        exact ih (μ x') (hn ▸ hlt) x' a' w' rfl hI₁
      | _ => exact h
  exact key _ x0 a w rfl h0
end loops

/-! ### The head of a loop -/
def dropTF : AV → AV
  | .l x => .l x
  | .a cs => .a cs
  | .t _ => .j
  | .j => .j
theorem dropT_iff {fr : Fr} {K : Fr → Prop} : dropT fr K ↔ K (fr.map dropTF) := by
  induction fr generalizing K with
  | nil => simp [dropT]
  | cons a r ih => cases a <;> simp [dropT, ih, dropTF]
def setO {α : Type} (l : List α) (k : Nat) (x : α) : Option (List α) := if k < l.length then some (l.set k x) else none
def killO : List Nat → Fr → Option Fr
  | [], fr => some fr
  | k :: r, fr => (setO fr k .j).bind (killO r)
def updO {α : Type} : List (Nat × α) → List α → Option (List α)
  | [], fr => some fr
  | (k, x) :: r, fr => (setO fr k x).bind (updO r)
theorem killF_iff {ws : List Nat} {fr : Fr} {K : Fr → Prop} : killF ws fr K ↔ ∃ fr', killO ws fr = some fr' ∧ K fr' := by
  induction ws generalizing fr with
  | nil => simp [killF, killO]
  | cons a r ih =>
    simp only [killF, killO, setF_iff, setO]
    by_cases h : a < fr.length <;> simp [h, ih]
theorem updF_iff {u : List (Nat × AV)} {fr : Fr} {K : Fr → Prop} : updF u fr K ↔ ∃ fr', updO u fr = some fr' ∧ K fr' := by
  induction u generalizing fr with
  | nil => simp [updF, updO]
  | cons a r ih =>
    obtain ⟨k, x⟩ := a
    simp only [updF, updO, setF_iff, setO]
    by_cases h : k < fr.length <;> simp [h, ih]
theorem updH_iff {u : List (Nat × HB)} {hp : Hp} {K : Hp → Prop} : updH u hp K ↔ ∃ hp', updO u hp = some hp' ∧ K hp' := by
  induction u generalizing hp with
  | nil => simp [updH, updO]
  | cons a r ih =>
    obtain ⟨k, x⟩ := a
    simp only [updH, updO, setH_iff, setO]
    by_cases h : k < hp.length <;> simp [h, ih]
def headO (ws : List Nat) (fr : Fr) (hp : Hp) (u : List (Nat × AV)) (v : List (Nat × HB)) : Option (Fr × Hp) :=
  (killO ws (fr.map dropTF)).bind fun fr1 => (updO u fr1).bind fun fr2 => (updO v hp).map fun hp2 => (fr2, hp2)
theorem headK_iff {ws : List Nat} {fr : Fr} {hp : Hp} {u : List (Nat × AV)} {v : List (Nat × HB)} {K : Fr → Hp → Prop} : headK ws fr hp u v K ↔ ∃ ft ht, headO ws fr hp u v = some (ft, ht) ∧ K ft ht := by
  simp only [headK, dropT_iff, killF_iff, updF_iff, updH_iff, headO]
  constructor
  · rintro ⟨fr1, h1, fr2, h2, hp2, h3, h4⟩
    exact ⟨fr2, hp2, by simp [h1, h2, h3], h4⟩
  · rintro ⟨ft, ht, h1, h2⟩
    cases hk : killO ws (fr.map dropTF) with
    | none => rw [hk] at h1; cases h1
    | some fr1 =>
      rw [hk] at h1
      simp only [Option.bind_some] at h1
      cases hu : updO u fr1 with
      | none => rw [hu] at h1; cases h1
      | some fr2 =>
        rw [hu] at h1
        simp only [Option.bind_some] at h1
        cases hv : updO v hp with
        | none => rw [hv] at h1; cases h1
        | some hp2 =>
          rw [hv] at h1
          simp only [Option.map_some, Option.some.injEq, Prod.mk.injEq] at h1
          obtain ⟨rfl, rfl⟩ := h1
          exact ⟨fr1, rfl, fr2, hu, hp2, rfl, h2⟩

section
variable {P : Program} {cx : Cx} {β : List En} {hp : Hp} {w : World} {β0 : List En} {hp0 : Hp} {w0 : World}

/-! ### A state that says less -/
theorem nodupB_spec : ∀ {l : List Nat}, nodupB l = true → ∀ (i j : Nat) (k : Nat), l[i]? = some k → l[j]? = some k → i = j
  | [], _, i, _, _, h, _ => by simp at h
  | a :: l, h, i, j, k, h1, h2 => by
    simp only [nodupB, Bool.and_eq_true, Bool.not_eq_true'] at h
    have hn : a ∉ l := fun e => by rw [memN_iff.2 e] at h; cases h.1
    cases i with
    | zero => cases j with
      | zero => rfl
      | succ j =>
        simp at h1 h2; subst h1; exact absurd (List.mem_of_getElem? h2) hn
    | succ i => cases j with
      | zero => simp at h1 h2; subst h2; exact absurd (List.mem_of_getElem? h1) hn
      | succ j =>
        have := nodupB_spec h.2 i j k (by simpa using h1) (by simpa using h2)
        omega

/-- The places of the blocks that a weaker state knows. -/
def enT (t : HB) (e : Option En) : En := match t, e with
  | .b _ _, some (.b n) => .b n
  | .r ver _ _, some (.r v _) => .r v ver
  | .x _, some (.b n) => .b n
  | _, _ => .x
def envT (β : List En) : List HB → List Nat → List En
  | t :: ts, k :: ks => enT t β[k]? :: envT β ts ks
  | _, _ => []

theorem rowK_true {hp : Hp} {k ver : Nat} {p : Prop} (h : rowK hp k ver fun _ _ => p) : (∃ E l, hp[k]? = some (.r ver E l)) ∧ p := by
  obtain ⟨E, l, h1, h2⟩ := rowK_spec h
  exact ⟨⟨E, l, h1⟩, h2⟩

theorem envT_get {ρ : List Nat} : ∀ {ht : List HB} {i k : Nat} {t : HB}, ht.length = ρ.length → ht[i]? = some t → ρ[i]? = some k → (envT β ht ρ)[i]? = some (enT t β[k]?) := by
  induction ρ with
  | nil => intro ht i k t _ _ h; simp at h
  | cons a r ih =>
    intro ht i k t hl h1 h2
    cases ht with
    | nil => simp at hl
    | cons x xs =>
      cases i with
      | zero => simp at h1 h2; subst h1; subst h2; rfl
      | succ i => simpa [envT] using ih (by simpa using hl) (by simpa using h1) (by simpa using h2)
theorem envT_len {ρ : List Nat} : ∀ {ht : List HB}, ht.length = ρ.length → (envT β ht ρ).length = ht.length := by
  induction ρ with
  | nil => intro ht hl; cases ht <;> simp_all [envT]
  | cons a r ih =>
    intro ht hl
    cases ht with
    | nil => simp at hl
    | cons x xs => simp [envT, ih (ht := xs) (by simpa using hl)]

theorem covL_spec {ρ : List Nat} {ht hs : Hp} (hl : ht.length = ρ.length) (hI : Inv cx β hs w) {t s : LV} {v : Value} (h : covL ρ ht hs t s) (hv : LC cx β s v) : LC cx (envT β ht ρ) t v := by
  refine ⟨hv.1, ?_⟩
  cases t with
  | v x => have e : LV.v x = s := h; subst e; exact hv.2
  | f l => have e : LV.f l = s := h; subst e; exact hv.2
  | fx u l => have e : LV.fx u l = s := h; subst e; exact hv.2
  | j => trivial
  | e => exact h.elim
  | g => exact h.elim
  | o T k =>
    cases s <;> first | exact h.elim | skip
    rename_i T' k'
    obtain ⟨rfl, h1, h4⟩ := h
    obtain ⟨_, n, h2, h3⟩ := hv
    obtain ⟨x, h5, h6⟩ := getH_iff.1 h4
    split at h6
    · exact ⟨n, by rw [envT_get hl h5 h1, h2]; rfl, h3⟩
    · exact h6.elim
  | m k =>
    cases s <;> first | exact h.elim | skip
    rename_i k'
    obtain ⟨h1, h4⟩ := h
    obtain ⟨_, n, h2, h3⟩ := hv
    obtain ⟨x, h5, h6⟩ := getH_iff.1 h4
    split at h6
    · exact ⟨n, by rw [envT_get hl h5 h1, h2]; rfl, h3⟩
    · exact h6.elim
  | p k off =>
    cases s <;> first | exact h.elim | skip
    rename_i k' off'
    obtain ⟨h1, rfl, h4⟩ := h
    obtain ⟨_, n, h2, h3⟩ := hv
    obtain ⟨x, h5, h6⟩ := getH_iff.1 h4
    split at h6
    · exact ⟨n, by rw [envT_get hl h5 h1, h2]; rfl, h3⟩
    · exact h6.elim
  | s k ver =>
    cases s <;> first | exact h.elim | skip
    rename_i k' ver'
    obtain ⟨h1, h2⟩ := h
    obtain ⟨E, l, h3, h4⟩ := rowK_spec h2
    obtain ⟨E', l', h5, _⟩ := rowK_spec h4
    obtain ⟨v1, r2, r3, r4⟩ := row_own hI h5
    have := s_val (cx := cx) hv r2
    exact ⟨v1, ver, by rw [envT_get hl h3 h1, r2]; rfl, Nat.le_refl _, fun _ => this⟩
  | w k ver sz i n =>
    cases s <;> first | exact h.elim | skip
    · rename_i k' ver'
      obtain ⟨⟨h1, rfl⟩, h2⟩ := h
      obtain ⟨E, l, h3, h4⟩ := rowK_spec h2
      obtain ⟨E', l', h5, rfl, rfl⟩ := rowK_spec h4
      obtain ⟨v1, r2, r3, r4⟩ := row_own hI h5
      have := s_val (cx := cx) hv r2
      subst this
      refine ⟨v, ver, by rw [envT_get hl h3 h1, r2]; rfl, Nat.le_refl _, fun _ => ?_⟩
      rcases r3.2 with ⟨he, h0⟩ | ⟨g, cap, cur, he, hb, hg, h3, h4, h5, h6⟩
      · exact ⟨_, _, by rw [he, h0], fun _ => rfl, fun h => by omega⟩
      · exact ⟨some ⟨g, 0, none⟩, cap, he, (fun e => by cases e), fun _ => ⟨g, _, _, he, by simp, by omega, by omega⟩⟩
    · rename_i k' ver' sz' i' n'
      obtain ⟨⟨h1, rfl, rfl, rfl⟩, h2⟩ := h
      obtain ⟨E, l, h3, h4⟩ := rowK_spec h2
      obtain ⟨E', l', h5, _⟩ := rowK_spec h4
      obtain ⟨v1, r2, r3, r4⟩ := row_own hI h5
      have := w_val (cx := cx) hv r2
      exact ⟨v1, ver, by rw [envT_get hl h3 h1, r2]; rfl, Nat.le_refl _, fun _ => this⟩

theorem covLs_spec {ρ : List Nat} {ht hs : Hp} {β' : List En} (hc : ∀ t s v, covL ρ ht hs t s → LC cx β s v → LC cx β' t v) : ∀ {ts ss : List LV} {vs : List Value} {p : Prop}, covLs ρ ht hs ts ss p → (p ∧ (LCs cx β ss vs → LCs cx β' ts vs))
  | [], [], [], _, h => ⟨h, fun _ => trivial⟩
  | [], [], _ :: _, _, h => ⟨h, fun h => h.elim⟩
  | t :: ts, s :: ss, vs, p, h => by
    have main : (covLs ρ ht hs ts ss p) → (∀ v, LC cx β s v → LC cx β' t v) → p ∧ (LCs cx β (s :: ss) vs → LCs cx β' (t :: ts) vs) := by
      intro h1 h2
      cases vs with
      | nil => exact ⟨(covLs_spec hc (vs := []) h1).1, fun h => h.elim⟩
      | cons v vs =>
        obtain ⟨h3, h4⟩ := covLs_spec hc (vs := vs) h1
        exact ⟨h3, fun h => ⟨h2 v h.1, h4 h.2⟩⟩
    unfold covLs at h
    cases t with
    | j => exact main h fun v hv => ⟨hv.1, trivial⟩
    | _ => obtain ⟨h1, h2⟩ := side_iff.1 h; exact main h2 fun v hv => hc _ _ _ h1 hv
  | [], _ :: _, _, _, h => h.elim
  | _ :: _, [], _, _, h => h.elim

theorem covF_spec {ρ : List Nat} {ht hs : Hp} {β' : List En} (hc : ∀ t s v, covL ρ ht hs t s → LC cx β s v → LC cx β' t v) : ∀ {ts ss : Fr} {p : Prop}, covF ρ ht hs ts ss p → p ∧ ts.length = ss.length ∧ ∀ (i : Nat) t s v, ts[i]? = some t → ss[i]? = some s → AC cx β s v → AC cx β' t v
  | [], [], _, h => ⟨h, rfl, fun i t s v h1 => by simp at h1⟩
  | t :: ts, s :: ss, p, h => by
    have main : covF ρ ht hs ts ss p → (∀ v, AC cx β s v → AC cx β' t v) → p ∧ (t :: ts).length = (s :: ss).length ∧ ∀ (i : Nat) t' s' v, (t :: ts)[i]? = some t' → (s :: ss)[i]? = some s' → AC cx β s' v → AC cx β' t' v := by
      intro h1 h2
      obtain ⟨h3, h4, h5⟩ := covF_spec hc h1
      refine ⟨h3, by simp [h4], fun i t' s' v g1 g2 g3 => ?_⟩
      cases i with
      | zero =>
        simp only [List.getElem?_cons_zero, Option.some.injEq] at g1 g2
        subst g1 g2
        exact h2 v g3
      | succ i => exact h5 i t' s' v (by simpa using g1) (by simpa using g2) g3
    unfold covF at h
    cases t with
    | j => exact main h fun v _ => trivial
    | t => exact h.elim
    | l x =>
      dsimp only at h
      split at h
      · rename_i y
        have h1 := (covLs_spec (vs := []) hc h).1
        refine main h1 fun v hv => ?_
        have := (covLs_spec (vs := [v]) hc h).2 ⟨hv, trivial⟩
        exact this.1
      · exact h.elim
    | a xs =>
      dsimp only at h
      split at h
      · rename_i ys
        have h1 := (covLs_spec (vs := []) hc h).1
        refine main h1 fun v hv => ?_
        obtain ⟨us, he, hu⟩ := hv
        exact ⟨us, he, (covLs_spec hc h).2 hu⟩
      · exact h.elim
  | [], _ :: _, _, h => h.elim
  | _ :: _, [], _, h => h.elim

theorem covHs_spec {N : Nat} {ρ : List Nat} {ht hs : Hp} {β' : List En} (hI : Inv cx β hs w) (hc : ∀ t s v, covL ρ ht hs t s → LC cx β s v → LC cx β' t v) : ∀ {i : Nat} {ts : List HB} {ks : List Nat} {p : Prop}, covHs N ρ ht hs i ts ks p →
    p ∧ ts.length = ks.length ∧ ∀ (j : Nat) t k, ts[j]? = some t → ks[j]? = some k → HOk cx β' w t (enT t β[k]?) ∧ (∀ b, ownE t (enT t β[k]?) = some b → ownB hs β k = some b) ∧ (i + j < N → i + j = k ∧ ∃ e, β[k]? = some e ∧ enT t β[k]? = e)
  | i, [], [], _, h => ⟨h, rfl, fun j t k h1 => by simp at h1⟩
  | i, t :: ts, k :: ks, p, h => by
    obtain ⟨s, hs1, h1⟩ := getH_iff.1 h
    have hkl : k < β.length := by rw [hI.len]; exact (List.getElem?_eq_some_iff.1 hs1).1
    have hb : β[k]? = some β[k] := List.getElem?_eq_getElem hkl
    have ho := hI.ent k _ _ hs1 hb
    have main : covHs N ρ ht hs (i + 1) ts ks p → (HOk cx β' w t (enT t β[k]?) ∧ (∀ b, ownE t (enT t β[k]?) = some b → ownB hs β k = some b) ∧ (i < N → i = k ∧ ∃ e, β[k]? = some e ∧ enT t β[k]? = e)) →
        p ∧ (t :: ts).length = (k :: ks).length ∧ ∀ (j : Nat) t' k', (t :: ts)[j]? = some t' → (k :: ks)[j]? = some k' → HOk cx β' w t' (enT t' β[k']?) ∧ (∀ b, ownE t' (enT t' β[k']?) = some b → ownB hs β k' = some b) ∧ (i + j < N → i + j = k' ∧ ∃ e, β[k']? = some e ∧ enT t' β[k']? = e) := by
      intro g1 g2
      obtain ⟨g3, g4, g5⟩ := covHs_spec hI hc g1
      refine ⟨g3, by simp [g4], fun j t' k' e1 e2 => ?_⟩
      cases j with
      | zero =>
        simp only [List.getElem?_cons_zero, Option.some.injEq] at e1 e2
        subst e1 e2
        exact g2
      | succ j =>
        have := g5 j t' k' (by simpa using e1) (by simpa using e2)
        rw [show i + 1 + j = i + (j + 1) by omega] at this
        exact this
    cases t with
    | x Φ =>
      dsimp only at h1
      split at h1
      · rename_i Φ'
        obtain ⟨g1, h2⟩ := side_iff.1 h1
        obtain ⟨g2, h3⟩ := side_iff.1 h2
        refine main h3 ?_
        cases hx : β[k] with
        | b n =>
          rw [hx] at hb ho
          rw [hb]
          obtain ⟨o1, ob, o2, o3⟩ := ho
          refine ⟨⟨o1, ob, o2, g2 ob o3⟩, fun b hb' => ?_, fun hi => ?_⟩
          · rw [ownB_of hs1 hb]; exact hb'
          · refine ⟨?_, _, rfl, rfl⟩
            simp only [Bool.or_eq_true, Nat.ble_eq, Nat.beq_eq] at g1
            omega
        | _ => rw [hx] at ho; exact ho.elim
      · exact h1.elim
    | d =>
      obtain ⟨g1, g2⟩ := side_iff.1 h1
      refine main g2 ⟨?_, fun b hb => by simp [ownE] at hb, fun hi => ?_⟩
      · rw [hb]; trivial
      · have : N ≤ i := by simpa using g1
        omega
    | b cs T =>
      dsimp only at h1
      split at h1
      · rename_i cs' T'
        obtain ⟨g1, h2⟩ := side_iff.1 h1
        obtain ⟨g2, h3⟩ := side_iff.1 h2
        have hT : T = T' := Nat.eq_of_beq_eq_true g2
        subst hT
        refine main (covLs_spec (vs := []) hc h3).1 ?_
        cases hx : β[k] with
        | b n =>
          rw [hx] at hb ho
          rw [hb]
          obtain ⟨o1, us, o2, o3⟩ := ho
          refine ⟨⟨o1, us, o2, (covLs_spec hc h3).2 o3⟩, fun b hb' => ?_, fun hi => ?_⟩
          · rw [ownB_of hs1 hb]; exact hb'
          · refine ⟨?_, _, rfl, rfl⟩
            simp only [Bool.or_eq_true, Nat.ble_eq, Nat.beq_eq] at g1
            omega
        | _ => rw [hx] at ho; exact ho.elim
      · exact h1.elim
    | r ver E l =>
      dsimp only at h1
      split at h1
      · rename_i ver' E' l'
        obtain ⟨g1, h2⟩ := side_iff.1 h1
        obtain ⟨g2, h3⟩ := side_iff.1 h2
        obtain ⟨g3, h4⟩ := side_iff.1 h3
        have hE : E = E' := Nat.eq_of_beq_eq_true g2
        subst hE g3
        refine main h4 ?_
        cases hx : β[k] with
        | r v ver2 =>
          rw [hx] at hb ho
          rw [hb]
          obtain ⟨o1, o2, o3⟩ := ho
          refine ⟨⟨rfl, o2, o3⟩, fun b hb' => ?_, fun hi => ?_⟩
          · rw [ownB_of hs1 hb]; exact hb'
          · simp only [Bool.or_eq_true, Bool.and_eq_true, Nat.ble_eq, Nat.beq_eq] at g1
            refine ⟨by omega, _, rfl, ?_⟩
            show En.r v ver = En.r v ver2
            have : ver = ver' := by omega
            rw [this, o1]
        | _ => rw [hx] at ho; exact ho.elim
      · exact h1.elim
  | _, [], _ :: _, _, h => h.elim
  | _, _ :: _, [], _, h => h.elim

theorem cov_spec {ρ : List Nat} {ft fs : Fr} {ht hs : Hp} {tmps : Array Value} (h : cov hp0.length ρ ft ht fs hs) (hI : Inv cx β hs w) (hf : FR cx β fs tmps) (hL : Lk β0 hp0 w0 β hs w) : ∃ β', Inv cx β' ht w ∧ FR cx β' ft tmps ∧ Lk β0 hp0 w0 β' ht w := by
  obtain ⟨hn, h1⟩ := side_iff.1 h
  simp only [Bool.and_eq_true, Nat.ble_eq, Nat.beq_eq] at hn
  obtain ⟨⟨hn1, hn2⟩, hn3⟩ := hn
  rw [lenH_eq] at hn3
  have hc : ∀ t s v, covL ρ ht hs t s → LC cx β s v → LC cx (envT β ht ρ) t v := fun t s v => covL_spec hn3 hI
  obtain ⟨h2, _, h3⟩ := covHs_spec hI hc h1
  obtain ⟨_, h4, h5⟩ := covF_spec hc h2
  have get : ∀ (j : Nat) t, ht[j]? = some t → ∃ k, ρ[j]? = some k ∧ (envT β ht ρ)[j]? = some (enT t β[k]?) := fun j t hj => by
    have hlt : j < ρ.length := by rw [← hn3]; exact (List.getElem?_eq_some_iff.1 hj).1
    exact ⟨ρ[j], List.getElem?_eq_getElem hlt, envT_get hn3 hj (List.getElem?_eq_getElem hlt)⟩
  have own : ∀ (j : Nat) b, ownB ht (envT β ht ρ) j = some b → ∃ k, ρ[j]? = some k ∧ ownB hs β k = some b := fun j b hb => by
    obtain ⟨t, e, g1, g2, g3⟩ := ownB_some hb
    obtain ⟨k, g4, g5⟩ := get j t g1
    rw [g2] at g5
    obtain rfl := Option.some.inj g5
    exact ⟨k, g4, (h3 j t k g1 g4).2.1 b g3⟩
  refine ⟨envT β ht ρ, ⟨hI.kp, envT_len hn3, fun j t e g1 g2 => ?_, fun i j b g1 g2 => ?_⟩, ⟨h4.trans hf.1, fun i t hi => ?_⟩, ⟨fun k e hk he => ?_, fun k b hb => ?_, hL.size, by rw [hn3]; exact hn2, hL.tch⟩⟩
  · obtain ⟨k, g4, g5⟩ := get j t g1
    rw [g2] at g5
    obtain rfl := Option.some.inj g5
    exact (h3 j t k g1 g4).1
  · obtain ⟨k1, e1, e2⟩ := own i b g1
    obtain ⟨k2, e3, e4⟩ := own j b g2
    have := hI.dis k1 k2 b e2 e4
    subst this
    exact nodupB_spec hn1 i j k1 e1 e3
  · have hlt : i < fs.length := by rw [← h4]; exact (List.getElem?_eq_some_iff.1 hi).1
    have hs' : fs[i]? = some fs[i] := List.getElem?_eq_getElem hlt
    exact h5 i t _ _ hi hs' (hf.2 i _ hs')
  · have hkt : k < ht.length := by rw [hn3]; omega
    obtain ⟨q, g4, g5⟩ := get k _ (List.getElem?_eq_getElem hkt)
    obtain ⟨g6, e', g7, g8⟩ := (h3 k _ q (List.getElem?_eq_getElem hkt) g4).2.2 (by omega)
    have g9 : k = q := by omega
    subst g9
    have hX := hL.ext k e hk he
    rw [g8] at g5
    cases e with
    | b n => rw [g5, ← g7]; exact hX
    | r v ver =>
      obtain ⟨v', ver', x1, x2⟩ := hX
      exact ⟨v', ver', by rw [g5, ← g7]; exact x1, x2⟩
    | x => trivial
  · obtain ⟨q, g1, g2⟩ := own k b hb
    rcases hL.om q b g2 with ⟨g3, g4⟩ | g3
    · have hq : q < ρ.length := by omega
      have hqt : q < ht.length := by omega
      have hρq : ρ[q]? = some ρ[q] := List.getElem?_eq_getElem hq
      obtain ⟨g6, _⟩ := (h3 q _ _ (List.getElem?_eq_getElem hqt) hρq).2.2 (by omega)
      have g7 : ρ[q] = q := by omega
      rw [g7] at hρq
      have := nodupB_spec hn1 k q q g1 hρq
      subst this
      exact .inl ⟨g3, g4⟩
    · exact .inr g3

end
end Ab
end Go.Proofs.YtkhggobpanfkfaaDoor

/-
  Whole functions: what the abstract walk says of them is what they do. Plain lemmas; the conditions are the types' rows (TIok) and the contracts (CSok).
-/
namespace Go.Proofs.YtkhggobpanfkfaaDoor
open Go.RowKit
namespace Ab
def exOf : Xt → Exit
  | .n => .normal
  | .x id => .exit id
  | .r => .ret

section
variable {P : Program} {cx : Cx} {β : List En} {hp : Hp} {w : World} {β0 : List En} {hp0 : Hp} {w0 : World}

/-- Normally, and no other way. -/
def Qn (Q : Exit → Act → World → Prop) : Exit → Act → World → Prop
  | .normal, a, w => Q .normal a w
  | _, _, _ => False

/-- Places for blocks to come. -/
theorem at_pad {d0 : List Deferred} {fr : Fr} {a : Act} (m : Nat) (hA : At cx β0 hp0 w0 d0 fr hp a w) : At cx β0 hp0 w0 d0 fr (hp ++ List.replicate m .d) a w := by
  obtain ⟨β, hI, hf, hdf, hL⟩ := hA
  have hI1 : Inv cx (β ++ List.replicate m .x) (hp ++ List.replicate m .d) w := by
    refine ⟨⟨hI.kp.os, hI.kp.tape, hI.kp.output, hI.kp.size, hI.kp.block⟩, by simp [hI.len], fun k t e g1 g2 => ?_, fun i j b g1 g2 => ?_⟩
    · by_cases hk : k < hp.length
      · rw [List.getElem?_append_left hk] at g1
        rw [List.getElem?_append_left (by rw [hI.len]; exact hk)] at g2
        refine (hI.ent k t e g1 g2).keep ?_ (fun b hb => rfl)
        intro k e he
        have hlt := (List.getElem?_eq_some_iff.1 he).1
        have hsame : (β ++ List.replicate m En.x)[k]? = some e := by rw [List.getElem?_append_left hlt]; exact he
        cases e with
        | b n => exact hsame
        | r v ver => exact ⟨v, ver, hsame, Nat.le_refl _, fun _ => rfl⟩
        | x => trivial
      · rw [List.getElem?_append_right (by omega)] at g1
        rw [List.getElem?_append_right (by rw [hI.len]; omega)] at g2
        simp only [List.getElem?_replicate] at g1 g2
        split at g1 <;> simp at g1
        split at g2 <;> simp at g2
        subst g1 g2
        trivial
    · have app : ∀ k b, ownB (hp ++ List.replicate m .d) (β ++ List.replicate m .x) k = some b → ownB hp β k = some b := by
        intro k b hb
        obtain ⟨x, e, e1, e2, e3⟩ := ownB_some hb
        by_cases hk : k < hp.length
        · rw [List.getElem?_append_left hk] at e1
          rw [List.getElem?_append_left (by rw [hI.len]; exact hk)] at e2
          rw [ownB_of e1 e2]; exact e3
        · rw [List.getElem?_append_right (by omega)] at e1
          simp only [List.getElem?_replicate] at e1
          split at e1 <;> simp at e1
          subst e1
          simp [ownE] at e3
      exact hI.dis i j b (app i b g1) (app j b g2)
  have hx1 : Ext β (β ++ List.replicate m .x) := by
    intro k e he
    have hlt := (List.getElem?_eq_some_iff.1 he).1
    have hsame : (β ++ List.replicate m En.x)[k]? = some e := by rw [List.getElem?_append_left hlt]; exact he
    cases e with
    | b n => exact hsame
    | r v ver => exact ⟨v, ver, hsame, Nat.le_refl _, fun _ => rfl⟩
    | x => trivial
  have hown : ∀ k, ownB (hp ++ List.replicate m .d) (β ++ List.replicate m .x) k = ownB hp β k := by
    intro k
    by_cases hk : k < hp.length
    · unfold ownB
      rw [List.getElem?_append_left hk, List.getElem?_append_left (by rw [hI.len]; exact hk)]
    · rw [ownB_none (by simp; omega : hp[k]? = none)]
      by_cases hk2 : k < hp.length + m
      · have : (hp ++ List.replicate m HB.d)[k]? = some .d := by
          rw [List.getElem?_append_right (by omega), List.getElem?_replicate, if_pos (by omega)]
        exact ownB_d this
      · exact ownB_none (by simp; omega)
  have hL1 : Lk β0 hp0 w0 (β ++ List.replicate m .x) (hp ++ List.replicate m .d) w := by
    refine ⟨fun k e hk he => ?_, fun k b hb => hL.om k b (by rw [← hown]; exact hb), hL.size, by have := hL.len; simp; omega, hL.tch⟩
    have h1 := hL.ext k e hk he
    cases e with
    | b n => exact hx1 k _ h1
    | r v ver =>
      obtain ⟨v', ver', h2, h3, h4⟩ := h1
      obtain ⟨v2, ver2, h5, h6, h7⟩ := hx1 k _ h2
      exact ⟨v2, ver2, h5, Nat.le_trans h3 h6, fun e => (h7 (by omega)).trans (h4 (by omega))⟩
    | x => trivial
  exact ⟨_, hI1, hf.ext hx1, hdf, hL1⟩

theorem exec_spec {T : Tab} {G : Env} (hT : TabOk P T) (hG : EnvC P G cx) (hM : P.follows .mixedOrders = true) {W0 : List Nat} {TR : Nat → Tr} {d0 : List Deferred} :
    ∀ (c : Code) (K : Xt → Fr → Hp → Prop) (Q : Exit → Act → World → Prop) (fr : Fr) (hp : Hp) (a : Act) (w : World), (∀ e fr hp a w, K e fr hp → At cx β0 hp0 w0 d0 fr hp a w → Q (exOf e) a w) →
      At cx β0 hp0 w0 d0 fr hp a w → exec T G hp0.length W0 TR c fr hp K → c.wp P Q a w := by
  intro c
  induction c with
  | skip => intro K Q fr hp a w hQ hA h; exact wp_skip (hQ .n fr hp a w h hA)
  | region id ops draw =>
    intro K Q fr hp a w hQ hA h
    cases draw with
    | false =>
      refine wp_region ?_
      have := ops_spec (β0 := β0) (hp0 := hp0) (w0 := w0) (cx := cx) (d0 := d0) hT hG (Q := Q) (K := fun fr' hp' => K .n fr' hp') (fun fr hp a w hk hA => hQ .n fr hp a w hk hA) ops.toList 0 fr hp a w rfl hA h
      rwa [List.range_eq_range', ← Array.length_toList]
    | true =>
      obtain ⟨hok, h1⟩ := side_iff.1 h
      simp only [regOk, Bool.and_eq_true, Nat.beq_eq] at hok
      obtain ⟨⟨⟨o1, o2⟩, o3⟩, o4⟩ := hok
      have h2 := natK_iff.1 (rsvK_iff.1 h1)
      have h3 := natsK_iff.1 h2
      rw [lenH_eq] at h3
      obtain ⟨β, hI, hf, hdf, hL⟩ := hA
      generalize hm : newsB ops.toList ops.size = m at h3
      -- the world in which the region begins, its blocks to come reserved
      have hI1 : Inv cx (β ++ List.replicate m .x) (hp ++ List.replicate m .d) w.drew := by
        refine ⟨⟨hI.kp.os, hI.kp.tape, hI.kp.output, hI.kp.size, hI.kp.block⟩, by simp [hI.len], fun k t e g1 g2 => ?_, fun i j b g1 g2 => ?_⟩
        · by_cases hk : k < hp.length
          · rw [List.getElem?_append_left hk] at g1
            rw [List.getElem?_append_left (by rw [hI.len]; exact hk)] at g2
            refine (hI.ent k t e g1 g2).keep ?_ (fun b hb => rfl)
            intro k e he
            have hlt := (List.getElem?_eq_some_iff.1 he).1
            have hsame : (β ++ List.replicate m En.x)[k]? = some e := by rw [List.getElem?_append_left hlt]; exact he
            cases e with
            | b n => exact hsame
            | r v ver => exact ⟨v, ver, hsame, Nat.le_refl _, fun _ => rfl⟩
            | x => trivial
          · rw [List.getElem?_append_right (by omega)] at g1
            rw [List.getElem?_append_right (by rw [hI.len]; omega)] at g2
            simp only [List.getElem?_replicate] at g1 g2
            split at g1 <;> simp at g1
            split at g2 <;> simp at g2
            subst g1 g2
            trivial
        · have app : ∀ k b, ownB (hp ++ List.replicate m .d) (β ++ List.replicate m .x) k = some b → ownB hp β k = some b := by
            intro k b hb
            obtain ⟨x, e, e1, e2, e3⟩ := ownB_some hb
            by_cases hk : k < hp.length
            · rw [List.getElem?_append_left hk] at e1
              rw [List.getElem?_append_left (by rw [hI.len]; exact hk)] at e2
              rw [ownB_of e1 e2]; exact e3
            · rw [List.getElem?_append_right (by omega)] at e1
              simp only [List.getElem?_replicate] at e1
              split at e1 <;> simp at e1
              subst e1
              simp [ownE] at e3
          exact hI.dis i j b (app i b g1) (app j b g2)
      have hx1 : Ext β (β ++ List.replicate m .x) := by
        intro k e he
        have hlt := (List.getElem?_eq_some_iff.1 he).1
        have hsame : (β ++ List.replicate m En.x)[k]? = some e := by rw [List.getElem?_append_left hlt]; exact he
        cases e with
        | b n => exact hsame
        | r v ver => exact ⟨v, ver, hsame, Nat.le_refl _, fun _ => rfl⟩
        | x => trivial
      have hown : ∀ k, ownB (hp ++ List.replicate m .d) (β ++ List.replicate m .x) k = ownB hp β k := by
        intro k
        by_cases hk : k < hp.length
        · unfold ownB
          rw [List.getElem?_append_left hk, List.getElem?_append_left (by rw [hI.len]; exact hk)]
        · rw [ownB_none (by simp; omega : hp[k]? = none)]
          by_cases hk2 : k < hp.length + m
          · have : (hp ++ List.replicate m HB.d)[k]? = some .d := by
              rw [List.getElem?_append_right (by omega), List.getElem?_replicate, if_pos (by omega)]
            exact ownB_d this
          · exact ownB_none (by simp; omega)
      have hL1 : Lk β0 hp0 w0 (β ++ List.replicate m .x) (hp ++ List.replicate m .d) w.drew := by
        refine ⟨fun k e hk he => ?_, fun k b hb => hL.om k b (by rw [← hown]; exact hb), hL.size, by have := hL.len; simp; omega, hL.tch⟩
        have h1 := hL.ext k e hk he
        cases e with
        | b n => exact hx1 k _ h1
        | r v ver =>
          obtain ⟨v', ver', h2, h3, h4⟩ := h1
          obtain ⟨v2, ver2, h5, h6, h7⟩ := hx1 k _ h2
          exact ⟨v2, ver2, h5, Nat.le_trans h3 h6, fun e => (h7 (by omega)).trans (h4 (by omega))⟩
        | x => trivial
      have hn1 : ∀ k, hp.length ≤ k → ownB (hp ++ List.replicate m .d) (β ++ List.replicate m .x) k = none := fun k hk => by
        rw [hown]; exact ownB_none (by simp; omega)
      have hE := tree_spec (β0 := β0) (hp0 := hp0) (w0 := w0) (d0 := d0) hT hG (ops := ops) (Q := Qn Q) (n := hp.length) hI1 hn1 (TR id) (fun fr' hp' => K .n fr' hp') fr _ _ a w.drew (fun fr hp a w hk hA => hQ .n fr hp a w hk hA) hI1
        (hf.ext hx1) hdf hL1 ⟨fun k b hb => .inl hb, fun k _ _ => rfl, Nat.le_refl _, by simp⟩ h3
      refine wp_mono (wp_region_E (pOf w.drew.heap.size _ (β ++ List.replicate m .x) (hp ++ List.replicate m .d)) (TR id) hM o1 o2 o3 o4 (fun c a d v w hq => hq.elim) hE) ?_
      intro e a w h
      cases e <;> first | exact h | exact h.elim
  | seq x y ihx ihy =>
    intro K Q fr hp a w hQ hA h
    refine wp_seq (ihx _ _ fr hp a w ?_ hA h)
    intro e fr' hp' a' w' hk hA'
    cases e with
    | n => exact ihy K Q fr' hp' a' w' hQ hA' hk
    | x id => exact hQ (.x id) fr' hp' a' w' hk hA'
    | r => exact hQ .r fr' hp' a' w' hk hA'
  | cond c x y ihx ihy =>
    intro K Q fr hp a w hQ hA h
    obtain ⟨β, hI, hf, hdf, hL⟩ := hA
    obtain ⟨r, h1, h2⟩ := ev_spec hf h
    split at h1
    · rename_i t
      rw [br_iff] at h1
      exact wp_cond_split h2.2 (fun ht => ihx K Q fr hp a w hQ ⟨β, hI, hf, hdf, hL⟩ (h1.1 ht)) (fun ht => ihy K Q fr hp a w hQ ⟨β, hI, hf, hdf, hL⟩ (h1.2 ht))
    · exact h1.elim
  | block id c ih =>
    intro K Q fr hp a w hQ hA h
    refine wp_block (ih _ _ fr hp a w ?_ hA h)
    intro e fr' hp' a' w' hk hA'
    cases e with
    | n => exact hQ .n fr' hp' a' w' hk hA'
    | r => exact hQ .r fr' hp' a' w' hk hA'
    | x id' =>
      show (if id' = id then Q .normal a' w' else Q (.exit id') a' w')
      cases hb : Nat.beq id' id with
      | true =>
        simp only [hb] at hk
        rw [if_pos (Nat.eq_of_beq_eq_true hb)]
        exact hQ .n fr' hp' a' w' hk hA'
      | false =>
        simp only [hb] at hk
        rw [if_neg (fun e => by rw [e] at hb; simp at hb)]
        exact hQ (.x id') fr' hp' a' w' hk hA'
  | loop c ih =>
    intro K Q fr hp a w hQ hA h
    have key : ∀ (fr : Fr) (hp : Hp) (a : Act) (w : World), At cx β0 hp0 w0 d0 fr hp a w → LoopI hp0.length (exec T G hp0.length W0 TR c) (wrs c) fr hp K → InLoop P Q c a w := by
      intro fr hp a w hA h
      cases h with
      | it n h =>
        refine wp_loop_x (σ := Nat) (fun n a w => ∃ fr hp, At cx β0 hp0 w0 d0 fr hp a w ∧ iterK (exec T G hp0.length W0 TR c) n fr hp K) id n ⟨fr, hp, hA, h⟩ ?_
        rintro n a w ⟨fr, hp, hA, h⟩
        cases n with
        | zero => exact h.elim
        | succ n =>
          refine ih _ _ fr hp a w ?_ hA h
          intro e fr' hp' a' w' hk hA'
          cases e with
          | n => exact ⟨n, ⟨fr', hp', hA', hk⟩, Nat.lt_succ_self n⟩
          | x id => exact hQ (.x id) fr' hp' a' w' hk hA'
          | r => exact hQ .r fr' hp' a' w' hk hA'
      | inv σ u v μ x0 ρ h0 h =>
        refine wp_loop_x (σ := σ) (fun x a w => ∃ ft ht, headO (wrs c) fr hp (u x) (v x) = some (ft, ht) ∧ At cx β0 hp0 w0 d0 ft ht a w) μ x0 ?_ ?_
        · obtain ⟨ft, ht, h1, h2⟩ := headK_iff.1 h0
          obtain ⟨β, hI, hf, hdf, hL⟩ := hA
          obtain ⟨β', g1, g2, g3⟩ := cov_spec h2 hI hf hL
          exact ⟨ft, ht, h1, β', g1, g2, hdf, g3⟩
        · rintro x a w ⟨ft, ht, h1, hA'⟩
          obtain ⟨ft', ht', h2, h3⟩ := headK_iff.1 (h x)
          rw [h1] at h2
          simp only [Option.some.injEq, Prod.mk.injEq] at h2
          obtain ⟨rfl, rfl⟩ := h2
          refine ih _ _ ft ht a w ?_ hA' h3
          intro e fr' hp' a' w' hk hA''
          cases e with
          | n =>
            obtain ⟨x', ρ', hlt, h4⟩ := hk
            obtain ⟨ft2, ht2, h5, h6⟩ := headK_iff.1 h4
            obtain ⟨β, hI, hf, hdf, hL⟩ := hA''
            obtain ⟨β', g1, g2, g3⟩ := cov_spec h6 hI hf hL
            exact ⟨x', ⟨ft2, ht2, h5, β', g1, g2, hdf, g3⟩, hlt⟩
          | x id => exact hQ (.x id) fr' hp' a' w' hk hA''
          | r => exact hQ .r fr' hp' a' w' hk hA''
      | invP m σ u v μ x0 ρ h0 h =>
        replace hA := at_pad m hA
        simp only [rsvK_iff] at h0 h
        refine wp_loop_x (σ := σ) (fun x a w => ∃ ft ht, headO (wrs c) fr (hp ++ List.replicate m .d) (u x) (v x) = some (ft, ht) ∧ At cx β0 hp0 w0 d0 ft ht a w) μ x0 ?_ ?_
        · obtain ⟨ft, ht, h1, h2⟩ := headK_iff.1 h0
          obtain ⟨β, hI, hf, hdf, hL⟩ := hA
          obtain ⟨β', g1, g2, g3⟩ := cov_spec h2 hI hf hL
          exact ⟨ft, ht, h1, β', g1, g2, hdf, g3⟩
        · rintro x a w ⟨ft, ht, h1, hA'⟩
          obtain ⟨ft', ht', h2, h3⟩ := headK_iff.1 (h x)
          rw [h1] at h2
          simp only [Option.some.injEq, Prod.mk.injEq] at h2
          obtain ⟨rfl, rfl⟩ := h2
          refine ih _ _ ft ht a w ?_ hA' h3
          intro e fr' hp' a' w' hk hA''
          cases e with
          | n =>
            obtain ⟨x', ρ', hlt, h4⟩ := hk
            obtain ⟨ft2, ht2, h5, h6⟩ := headK_iff.1 h4
            obtain ⟨β, hI, hf, hdf, hL⟩ := hA''
            obtain ⟨β', g1, g2, g3⟩ := cov_spec h6 hI hf hL
            exact ⟨x', ⟨ft2, ht2, h5, β', g1, g2, hdf, g3⟩, hlt⟩
          | x id => exact hQ (.x id) fr' hp' a' w' hk hA''
          | r => exact hQ .r fr' hp' a' w' hk hA''
    refine loop_of_in ?_
    cases h with
    | g h => exact key fr hp a w hA h
    | un n h =>
      induction n generalizing fr hp a w with
      | zero => exact key fr hp a w hA h
      | succ n ihn =>
        refine in_once (ih _ _ fr hp a w ?_ hA h)
        intro e fr' hp' a' w' hk hA'
        cases e with
        | n => exact ihn fr' hp' a' w' hA' hk
        | x id => exact hQ (.x id) fr' hp' a' w' hk hA'
        | r => exact hQ .r fr' hp' a' w' hk hA'
  | exit id => intro K Q fr hp a w hQ hA h; exact wp_exit (hQ (.x id) fr hp a w h hA)
  | ret => intro K Q fr hp a w hQ hA h; exact wp_ret (hQ .r fr hp a w h hA)
  | _ => intro K Q fr hp a w hQ hA h; exact h.elim

/-! ### Results -/
def resS (a : Act) (r : ResultVar) : Sem Value := match r with
  | .tmp t => pure (a.tmps.getD t undef)
  | .cell b t => do loadVar t (← asAddr (a.tmps.getD b undef))
theorem results_eq (fn : Func) (a : Act) : results fn a.tmps = (do
    let vs ← fn.results.mapM (resS a)
    pure (if h : vs.size = 1 then vs[0] else .tuple vs)) := by
  unfold results
  congr 1

theorem res_spec {T : Tab} (hT : TabOk P T) {fr : Fr} {a : Act} (hI : Inv cx β hp w) (hf : FR cx β fr a.tmps) {r : ResultVar} {K : AV → Prop} (h : resK T fr hp r K) :
    ∃ x, K x ∧ ∃ v, AC cx β x v ∧ (resS a r).run P w = .ok v w := by
  cases r with
  | tmp t =>
    obtain ⟨x, h1, h2⟩ := getF_iff.1 h
    exact ⟨x, h2, _, hf.2 t x h1, rfl⟩
  | cell b t =>
    obtain ⟨x, h1, v, h2, h3⟩ := soft_spec (o := { dst := none, op := .load t (.tmp b), type := 0, pos := "", after := #[], guard := none }) hT hI hf h
    refine ⟨x, h1, v, h2, ?_⟩
    have h4 := h3 w rfl
    simp only [execOp, Act.eval, resS] at h4 ⊢
    cases hv : a.tmps.getD b undef <;> rw [hv] at h4 <;> first | (simp [Instr.loadAt, Instr.sureAddr, stuck, Sem.run] at h4; done) | skip
    rename_i ad
    cases ad with
    | none => simp [Instr.loadAt, Instr.sureAddr, stuck, Sem.run] at h4
    | some ad =>
      simp only [Instr.loadAt, Instr.sureAddr, Sem.run_bind, Sem.run_pure, Result.andThen_ok, asAddr] at h4 ⊢
      cases hl : (loadVar t ad).run P w with
      | ok u w' =>
        rw [hl] at h4
        simp at h4
        rw [h4.1, h4.2]
      | halt x w' => rw [hl] at h4; simp at h4

theorem resOf_spec {x : AV} {v : Value} {K : (LV ⊕ List LV) → Prop} (h : resOf x K) (hx : AC cx β x v) : ∃ y, K y ∧ ∀ ys vs, TCs cx β ys vs → TCs cx β (y :: ys) (v :: vs) := by
  unfold resOf at h
  split at h
  · exact ⟨_, h, fun ys vs ht => ⟨hx, ht⟩⟩
  · exact ⟨_, h, fun ys vs ht => ⟨hx, ht⟩⟩
  · exact h.elim

theorem ress_spec {T : Tab} (hT : TabOk P T) {fr : Fr} {a : Act} (hI : Inv cx β hp w) (hf : FR cx β fr a.tmps) : ∀ {rs : List ResultVar} {K : List (LV ⊕ List LV) → Prop} (acc : Array Value), ressK T fr hp rs K →
    ∃ xs, K xs ∧ ∃ vs : List Value, TCs cx β xs vs ∧ vs.length = rs.length ∧ (rs.foldlM (fun (b : Array Value) (r : ResultVar) => b.push <$> (resS a r)) acc).run P w = .ok (acc ++ vs.toArray) w
  | [], K, acc, h => ⟨[], h, [], trivial, rfl, by simp⟩
  | r :: rs, K, acc, h => by
    obtain ⟨x, h1, v, h2, h3⟩ := res_spec hT hI hf h
    obtain ⟨y, h4, h5⟩ := resOf_spec h1 h2
    obtain ⟨xs, h6, vs, h7, h8, h9⟩ := ress_spec hT hI hf (acc.push v) h4
    refine ⟨y :: xs, h6, v :: vs, h5 _ _ h7, by simp [h8], ?_⟩
    rw [List.foldlM_cons]
    change Sem.run P (((resS a r) >>= fun c => pure (acc.push c)) >>= fun b => rs.foldlM _ b) w = _
    rw [Sem.run_bind, Sem.run_bind, h3]
    simp only [Result.andThen_ok, Sem.run_pure]
    rw [h9]
    simp

theorem out_spec {T : Tab} (hT : TabOk P T) {fr : Fr} {a : Act} {fn : Func} (hI : Inv cx β hp w) (hf : FR cx β fr a.tmps) {K : AV → Prop} (h : outK T fr hp fn.results.toList K) : ∃ x, K x ∧ ∃ v, AC cx β x v ∧ (results fn a.tmps).run P w = .ok v w := by
  have run : ∀ (vs : List Value), (fn.results.toList.foldlM (fun (b : Array Value) (r : ResultVar) => b.push <$> (resS a r)) #[]).run P w = .ok vs.toArray w → (results fn a.tmps).run P w = .ok (if h : vs.toArray.size = 1 then vs.toArray[0] else .tuple vs.toArray) w := by
    intro vs hv
    rw [results_eq, Sem.run_bind, Array.mapM_eq_foldlM, ← Array.foldlM_toList]
    rw [hv, Result.andThen_ok]
    rfl
  unfold outK at h
  split at h
  · rename_i r hr
    obtain ⟨x, h1, v, h2, h3⟩ := res_spec hT hI hf h
    refine ⟨x, h1, v, h2, ?_⟩
    refine run [v] ?_
    rw [hr, List.foldlM_cons]
    change Sem.run P (((resS a r) >>= fun c => pure ((#[] : Array Value).push c)) >>= fun b => pure b) w = _
    rw [Sem.run_bind, Sem.run_bind, h3]
    simp
  · rename_i rs hrs
    obtain ⟨xs, h1, vs, h2, h3, h4⟩ := ress_spec hT hI hf #[] h
    have h5 := run vs (by simpa using h4)
    refine ⟨_, h1, .tuple vs.toArray, ⟨_, rfl, by simpa using h2⟩, ?_⟩
    rw [h5, dif_neg]
    intro e
    have hl : vs.length = 1 := by simpa using e
    rw [h3] at hl
    obtain ⟨r, hr⟩ := List.length_eq_one_iff.1 hl
    exact hrs r hr

theorem pad_len : ∀ (n : Nat) (xs : Fr), xs.length ≤ n → (padF n xs).length = n
  | 0, xs, h => by simpa [padF] using h
  | n + 1, [], _ => by simp [padF, pad_len n [] (by simp)]
  | n + 1, _ :: xs, h => by simp [padF, pad_len n xs (by simpa using h)]
theorem pad_get : ∀ (n : Nat) (xs : Fr) (i : Nat) (x : AV), (padF n xs)[i]? = some x → xs[i]? = some x ∨ x = .j
  | 0, xs, i, x, h => .inl h
  | n + 1, [], 0, x, h => by simp [padF] at h; exact .inr h.symm
  | n + 1, [], i + 1, x, h => by
    rcases pad_get n [] i x (by simpa [padF] using h) with h | h
    · simp at h
    · exact .inr h
  | n + 1, y :: xs, 0, x, h => by simp [padF] at h; exact .inl (by simp [h])
  | n + 1, y :: xs, i + 1, x, h => by simpa using pad_get n xs i x (by simpa [padF] using h)
theorem ACs.get : ∀ {xs : List AV} {vs : List Value} {i : Nat} {x : AV}, ACs cx β xs vs → xs[i]? = some x → ∃ v, vs[i]? = some v ∧ AC cx β x v
  | [], _, _, _, _, h => by simp at h
  | _ :: _, [], _, _, hc, _ => hc.elim
  | y :: xs, v :: vs, 0, x, hc, h => by simp at h; subst h; exact ⟨v, rfl, hc.1⟩
  | y :: xs, v :: vs, i + 1, x, hc, h => by
    obtain ⟨u, h1, h2⟩ := ACs.get hc.2 (i := i) (by simpa using h)
    exact ⟨u, by simpa using h1, h2⟩
theorem ACs.length : ∀ {xs : List AV} {vs : List Value}, ACs cx β xs vs → xs.length = vs.length
  | [], [], _ => rfl
  | _ :: _, _ :: _, h => by simp [ACs.length h.2]
  | [], _ :: _, h => h.elim
  | _ :: _, [], h => h.elim

/-- A function, entered. -/
theorem call_spec {T : Tab} {G : Env} (hT : TabOk P T) (hG : EnvC P G cx) (hM : P.follows .mixedOrders = true) {W0 : List Nat} {TR : Nat → Tr} {f : FuncId} {fn : Func} (hfn : P.funcs[f]? = some fn) {xs : List AV} {vs : Array Value} {K : AV → Hp → Prop}
    (hI : Inv cx β hp w) (ha : ACs cx β xs vs.toList) (hn : xs.length ≤ fn.ntmps) (h : callP T G hp.length W0 TR fn xs hp K) :
    Calls P f vs w fun e w' => ∃ v r hp' β', e = .returned v ∧ K r hp' ∧ AC cx β' r v ∧ Inv cx β' hp' w' ∧ Lk β hp w β' hp' w' := by
  unfold callP at h
  split at h
  · exact h.elim
  · rename_i c hc
    have hl : xs.length = vs.size := by rw [ha.length]; simp
    refine calls_of_wp hfn hc (exec_spec (β0 := β) (hp0 := hp) (w0 := w) (cx := cx) (d0 := []) hT hG hM c _ _ _ hp _ w ?_ ⟨β, hI, ⟨?_, fun i x hi => ?_⟩, rfl, ⟨fun k e _ he => ?_, fun k b hb => ?_, Nat.le_refl _, Nat.le_refl _, fun _ _ _ => rfl⟩⟩ h)
    · intro e fr hp' a w' hk hA
      obtain ⟨β', hI', hf', hdf, hL⟩ := hA
      cases e with
      | n =>
        obtain ⟨r, h1, v, h2, h3⟩ := out_spec hT hI' hf' hk
        exact ⟨hdf, v, h3, v, r, hp', β', rfl, h1, h2, hI', hL⟩
      | r =>
        obtain ⟨r, h1, v, h2, h3⟩ := out_spec hT hI' hf' hk
        exact ⟨hdf, v, h3, v, r, hp', β', rfl, h1, h2, hI', hL⟩
      | x id => exact hk.elim
    · rw [pad_len _ _ hn]; simp; omega
    · rcases pad_get _ _ i x hi with h1 | rfl
      · obtain ⟨v, h2, h3⟩ := ha.get h1
        have hlt : i < vs.size := by
          have := (List.getElem?_eq_some_iff.1 h2).1
          simpa using this
        have : (vs ++ Array.replicate (fn.ntmps - vs.size) undef).getD i undef = v := by
          have h4 : vs[i]? = some v := by simpa using h2
          simp [Array.getD_eq_getD_getElem?, Array.getElem?_append_left hlt, h4]
        rw [this]
        exact h3
      · trivial
    · cases e with
      | b n => exact he
      | r v ver => exact ⟨v, ver, he, Nat.le_refl _, fun _ => rfl⟩
      | x => trivial
    · obtain ⟨x, e, h1, _, _⟩ := ownB_some hb
      exact .inl ⟨(List.getElem?_eq_some_iff.1 h1).1, hb⟩

end
end Ab
end Go.Proofs.YtkhggobpanfkfaaDoor

/-
  Contracts of functions over plain data, made by the abstract walk and used by it. Plain lemmas; the conditions are the types' rows (TIok) and the contracts (CSok).
-/
namespace Go.Proofs.YtkhggobpanfkfaaDoor
open Go.RowKit
namespace Ab

/-- The shape of a leaf. -/
inductive Sh where
  | int
  | bool
  | ints
  | gots
  | bytes
@[reducible] def Sh.T : Sh → Type
  | .int => Int
  | .bool => Bool
  | .ints => List Int
  | .gots => List (Int × Int)
  | .bytes => List UInt8
@[reducible] def HL : List Sh → Type
  | [] => Unit
  | s :: r => s.T × HL r
@[reducible] def DA : List (Sh ⊕ List Sh) → Type
  | [] => Unit
  | .inl s :: r => s.T × DA r
  | .inr ss :: r => HL ss × DA r

def frzL : (s : Sh) → s.T → LV
  | .int, n => .v (.int .i64 n)
  | .bool, b => .v (.bool b)
  | .ints, l => .f (.ints l)
  | .gots, l => .f (.gots l)
  | .bytes, l => .f (.bytes l)
def frzs : (ss : List Sh) → HL ss → List LV
  | [], _ => []
  | s :: r, x => frzL s x.1 :: frzs r x.2
def frzA : (sig : List (Sh ⊕ List Sh)) → DA sig → List AV
  | [], _ => []
  | .inl s :: r, x => .l (frzL s x.1) :: frzA r x.2
  | .inr ss :: r, x => .a (frzs ss x.1) :: frzA r x.2

def frzLK : (s : Sh) → s.T → (LV → Prop) → Prop
  | .int, n, K => K (.v (.int .i64 n))
  | .bool, b, K => K (.v (.bool b))
  | .ints, l, K => K (.f (.ints l))
  | .gots, l, K => K (.f (.gots l))
  | .bytes, l, K => K (.f (.bytes l))
def frzsK : (ss : List Sh) → HL ss → (List LV → Prop) → Prop
  | [], _, K => K []
  | s :: r, (a, b), K => frzLK s a fun x => frzsK r b fun xs => K (x :: xs)
def frzAK : (sig : List (Sh ⊕ List Sh)) → DA sig → (List AV → Prop) → Prop
  | [], _, K => K []
  | .inl s :: r, (a, b), K => frzLK s a fun x => frzAK r b fun xs => K (.l x :: xs)
  | .inr ss :: r, (a, b), K => frzsK ss a fun x => frzAK r b fun xs => K (.a x :: xs)
theorem frzLK_iff {s : Sh} {x : s.T} {K : LV → Prop} : frzLK s x K ↔ K (frzL s x) := by cases s <;> exact Iff.rfl
theorem frzsK_iff : ∀ {ss : List Sh} {x : HL ss} {K : List LV → Prop}, frzsK ss x K ↔ K (frzs ss x)
  | [], _, _ => Iff.rfl
  | s :: r, (a, b), K => by simp only [frzsK, frzLK_iff, frzsK_iff (ss := r), frzs]
theorem frzAK_iff : ∀ {sig : List (Sh ⊕ List Sh)} {x : DA sig} {K : List AV → Prop}, frzAK sig x K ↔ K (frzA sig x)
  | [], _, _ => Iff.rfl
  | .inl s :: r, (a, b), K => by simp only [frzAK, frzLK_iff, frzAK_iff (sig := r), frzA]
  | .inr s :: r, (a, b), K => by simp only [frzAK, frzsK_iff, frzAK_iff (sig := r), frzA]

def bdL : (s : Sh) → s.T → Prop
  | .ints, l => l.length ≤ maxL
  | .gots, l => l.length ≤ maxL
  | .bytes, l => l.length ≤ maxL
  | _, _ => True
def bds : (ss : List Sh) → HL ss → Prop
  | [], _ => True
  | s :: r, x => bdL s x.1 ∧ bds r x.2
def bdA : (sig : List (Sh ⊕ List Sh)) → DA sig → Prop
  | [], _ => True
  | .inl s :: r, x => bdL s x.1 ∧ bdA r x.2
  | .inr ss :: r, x => bds ss x.1 ∧ bdA r x.2

def rdE (w : World) (l : EL) (v : Value) : Prop := Sl w l.sz v l.len l.enc ∧ l.len ≤ maxL
def rdL (w : World) : (s : Sh) → s.T → Value → Prop
  | .int, n, v => v = .int .i64 n
  | .bool, b, v => v = .bool b
  | .ints, l, v => rdE w (.ints l) v
  | .gots, l, v => rdE w (.gots l) v
  | .bytes, l, v => rdE w (.bytes l) v
def rds (w : World) : (ss : List Sh) → HL ss → List Value → Prop
  | [], _, [] => True
  | s :: r, x, v :: vs => rdL w s x.1 v ∧ rds w r x.2 vs
  | _, _, _ => False
def rdA (w : World) : (sig : List (Sh ⊕ List Sh)) → DA sig → List Value → Prop
  | [], _, [] => True
  | .inl s :: r, x, v :: vs => rdL w s x.1 v ∧ rdA w r x.2 vs
  | .inr ss :: r, x, v :: vs => (∃ us, v = .agg us ∧ rds w ss x.1 us.toList) ∧ rdA w r x.2 vs
  | _, _, _ => False

/-- A leaf of what a call returns: a value; a list of its own. -/
inductive DL where
  | v (x : Value)
  | s (E : TypeId) (l : EL)
inductive DV where
  | l (x : DL)
  | a (cs : List DL)
  | t (xs : List (DL ⊕ List DL))

def frL (w : World) (base : Nat) (d : DL) (v : Value) (bs : List Nat) : Prop := match d with
  | .v x => v = x ∧ x.oneCell' = true ∧ bs = []
  | .s E l => w.ownsRow base E l.sz v l.len l.enc ∧ l.len ≤ maxL ∧ bs = v.ownBlock.toList
def frLs (w : World) (base : Nat) : List DL → List Value → List Nat → Prop
  | [], [], bs => bs = []
  | d :: ds, v :: vs, bs => ∃ b1 b2, bs = b1 ++ b2 ∧ frL w base d v b1 ∧ frLs w base ds vs b2
  | _, _, _ => False
def frTs (w : World) (base : Nat) : List (DL ⊕ List DL) → List Value → List Nat → Prop
  | [], [], bs => bs = []
  | .inl d :: ds, v :: vs, bs => ∃ b1 b2, bs = b1 ++ b2 ∧ frL w base d v b1 ∧ frTs w base ds vs b2
  | .inr cs :: ds, v :: vs, bs => ∃ b1 b2, bs = b1 ++ b2 ∧ (∃ us, v = .agg us ∧ frLs w base cs us.toList b1) ∧ frTs w base ds vs b2
  | _, _, _ => False
def frV (w : World) (base : Nat) (d : DV) (v : Value) (bs : List Nat) : Prop := match d with
  | .l x => frL w base x v bs
  | .a cs => ∃ us, v = .agg us ∧ frLs w base cs us.toList bs
  | .t xs => ∃ us, v = .tuple us ∧ frTs w base xs us.toList bs

/-- The contract of a function over plain data. -/
def Con (P : Program) (f : FuncId) (sig : List (Sh ⊕ List Sh)) (S : DA sig → (DV → Prop) → Prop) : Prop := ∀ (x : DA sig) (K : DV → Prop), S x K → ∀ (w : World) (vs : Array Value), rdA w sig x vs.toList → Gw w →
  Calls P f vs w fun e w' => ∃ d v, e = .returned v ∧ K d ∧ Below w.heap.size w w' ∧ ∃ bs, frV w' w.heap.size d v bs ∧ bs.Nodup

/-! ### A contract, used -/
def decE (hp : Hp) (ek : EK) (x : LV) (K : EL → Prop) : Prop := readK hp ek (.l x) K
def decL (hp : Hp) : (s : Sh) → LV → (s.T → Prop) → Prop
  | .int, x, K => (match x with
    | .v (.int .i64 n) => K n
    | _ => False)
  | .bool, x, K => (match x with
    | .v (.bool b) => K b
    | _ => False)
  | .ints, x, K => decE hp .ints x fun e => (match e with
    | .ints l => K l
    | _ => False)
  | .gots, x, K => decE hp .gots x fun e => (match e with
    | .gots l => K l
    | _ => False)
  | .bytes, x, K => decE hp .bytes x fun e => (match e with
    | .bytes l => K l
    | _ => False)
def decs (hp : Hp) : (ss : List Sh) → List LV → (HL ss → Prop) → Prop
  | [], [], K => K ()
  | s :: r, x :: xs, K => decL hp s x fun a => decs hp r xs fun b => K (a, b)
  | _, _, _ => False
def decA (hp : Hp) : (sig : List (Sh ⊕ List Sh)) → List AV → (DA sig → Prop) → Prop
  | [], [], K => K ()
  | .inl s :: r, .l x :: xs, K => decL hp s x fun a => decA hp r xs fun b => K (a, b)
  | .inr ss :: r, .a cs :: xs, K => decs hp ss cs fun a => decA hp r xs fun b => K (a, b)
  | _, _, _ => False

def impL (hp : Hp) (d : DL) (K : LV → Hp → Prop) : Prop := match d with
  | .v x => K (.v x) hp
  | .s E l => endH hp 0 (.r 0 E l) fun k hp' => K (.s k 0) hp'
def impLs : Hp → List DL → (List LV → Hp → Prop) → Prop
  | hp, [], K => K [] hp
  | hp, d :: ds, K => impL hp d fun x hp' => impLs hp' ds fun xs hp2 => K (x :: xs) hp2
def impTs : Hp → List (DL ⊕ List DL) → (List (LV ⊕ List LV) → Hp → Prop) → Prop
  | hp, [], K => K [] hp
  | hp, .inl d :: ds, K => impL hp d fun x hp' => impTs hp' ds fun xs hp2 => K (.inl x :: xs) hp2
  | hp, .inr cs :: ds, K => impLs hp cs fun x hp' => impTs hp' ds fun xs hp2 => K (.inr x :: xs) hp2
def impV (hp : Hp) (d : DV) (K : AV → Hp → Prop) : Prop := match d with
  | .l x => impL hp x fun y hp' => K (.l y) hp'
  | .a cs => impLs hp cs fun ys hp' => K (.a ys) hp'
  | .t xs => impTs hp xs fun ys hp' => K (.t ys) hp'

def csOf (sig : List (Sh ⊕ List Sh)) (S : DA sig → (DV → Prop) → Prop) : CS := { S := fun xs hp K => decA hp sig xs fun x => S x fun d => impV hp d K, tch := fun _ => some [] }

/-! ### A contract, made -/
def vEq (y z : Value) (p : Prop) : Prop := match y with
  | .int k a => (match z with
    | .int k' b => Side (k = k') <| Side (a = b) p
    | _ => False)
  | .bool a => (match z with
    | .bool b => Side (a = b) p
    | _ => False)
  | _ => Side (y = z) p
def matL (hp : Hp) (x : LV) (d : DL) (ks : List Nat) (K : List Nat → Prop) : Prop := match d with
  | .v z => (match x with
    | .v y => vEq y z (K ks)
    | _ => False)
  | .s E l => (match x with
    | .s k ver => rowK hp k ver fun E' l' => Side (memN ks k = false) <| Side (Nat.beq E' E = true) <| Side (l' = l) <| K (k :: ks)
    | .v (.slice none 0 0) => Side (l.len = 0) <| K ks
    | _ => False)
def matLs (hp : Hp) : List LV → List DL → List Nat → (List Nat → Prop) → Prop
  | [], [], ks, K => K ks
  | x :: xs, d :: ds, ks, K => matL hp x d ks fun ks' => matLs hp xs ds ks' K
  | _, _, _, _ => False
def matTs (hp : Hp) : List (LV ⊕ List LV) → List (DL ⊕ List DL) → List Nat → (List Nat → Prop) → Prop
  | [], [], ks, K => K ks
  | .inl x :: xs, .inl d :: ds, ks, K => matL hp x d ks fun ks' => matTs hp xs ds ks' K
  | .inr x :: xs, .inr d :: ds, ks, K => matLs hp x d ks fun ks' => matTs hp xs ds ks' K
  | _, _, _, _ => False
def matV (hp : Hp) (r : AV) (d : DV) : Prop := match d with
  | .l y => (match r with
    | .l x => matL hp x y [] fun _ => True
    | _ => False)
  | .a ds => (match r with
    | .a xs => matLs hp xs ds [] fun _ => True
    | _ => False)
  | .t ds => (match r with
    | .t xs => matTs hp xs ds [] fun _ => True
    | _ => False)

section
variable {P : Program} {cx : Cx} {β : List En} {hp : Hp} {w : World}

theorem frz_bd_L {s : Sh} {x : s.T} {v : Value} (h : rdL w s x v) : bdL s x ∧ LC ⟨w, []⟩ β (frzL s x) v := by
  cases s with
  | int => have e : v = .int .i64 x := h; subst e; exact ⟨trivial, rfl, rfl⟩
  | bool => have e : v = .bool x := h; subst e; exact ⟨trivial, rfl, rfl⟩
  | ints =>
    obtain ⟨h1, h2⟩ := h
    obtain ⟨a, c, rfl, _⟩ := h1.form
    exact ⟨h2, rfl, h1, h2, fun _ _ _ hm => by cases hm⟩
  | gots =>
    obtain ⟨h1, h2⟩ := h
    obtain ⟨a, c, rfl, _⟩ := h1.form
    exact ⟨h2, rfl, h1, h2, fun _ _ _ hm => by cases hm⟩
  | bytes =>
    obtain ⟨h1, h2⟩ := h
    obtain ⟨a, c, rfl, _⟩ := h1.form
    exact ⟨h2, rfl, h1, h2, fun _ _ _ hm => by cases hm⟩
theorem frz_bds : ∀ {ss : List Sh} {x : HL ss} {vs : List Value}, rds w ss x vs → bds ss x ∧ LCs ⟨w, []⟩ β (frzs ss x) vs
  | [], _, [], _ => ⟨trivial, trivial⟩
  | s :: r, x, v :: vs, h => by
    have h1 := frz_bd_L (β := β) h.1
    have h2 := frz_bds (ss := r) h.2
    exact ⟨⟨h1.1, h2.1⟩, h1.2, h2.2⟩
  | [], _, _ :: _, h => h.elim
  | _ :: _, _, [], h => h.elim
theorem frz_bdA : ∀ {sig : List (Sh ⊕ List Sh)} {x : DA sig} {vs : List Value}, rdA w sig x vs → bdA sig x ∧ ACs ⟨w, []⟩ β (frzA sig x) vs
  | [], _, [], _ => ⟨trivial, trivial⟩
  | .inl s :: r, x, v :: vs, h => by
    have h1 := frz_bd_L (β := β) h.1
    have h2 := frz_bdA (sig := r) h.2
    exact ⟨⟨h1.1, h2.1⟩, h1.2, h2.2⟩
  | .inr s :: r, x, v :: vs, h => by
    obtain ⟨us, e, hu⟩ := h.1
    have h1 := frz_bds (β := β) hu
    have h2 := frz_bdA (sig := r) h.2
    exact ⟨⟨h1.1, h2.1⟩, ⟨us, e, h1.2⟩, h2.2⟩
  | [], _, _ :: _, h => h.elim
  | .inl _ :: _, _, [], h => h.elim
  | .inr _ :: _, _, [], h => h.elim
theorem frzA_len : ∀ {sig : List (Sh ⊕ List Sh)} {x : DA sig}, (frzA sig x).length = sig.length
  | [], _ => rfl
  | .inl _ :: r, x => by simp [frzA, frzA_len (sig := r)]
  | .inr _ :: r, x => by simp [frzA, frzA_len (sig := r)]

/-- The lists that a value holds, by their entries: what it stands for. -/
def blks (hp : Hp) (β : List En) : List Nat → List Nat
  | [] => []
  | k :: ks => blks hp β ks ++ (ownB hp β k).toList

theorem vEq_spec {y z : Value} {p : Prop} (h : vEq y z p) : y = z ∧ p := by
  unfold vEq at h
  split at h
  · split at h
    · obtain ⟨h1, h2⟩ := side_iff.1 h
      obtain ⟨h3, h4⟩ := side_iff.1 h2
      subst h1 h3
      exact ⟨rfl, h4⟩
    · exact h.elim
  · split at h
    · obtain ⟨h1, h2⟩ := side_iff.1 h
      subst h1
      exact ⟨rfl, h2⟩
    · exact h.elim
  · exact side_iff.1 h

theorem mat_L (hI : Inv cx β hp w) {x : LV} {d : DL} {v : Value} {ks : List Nat} {K : List Nat → Prop} (hx : LC cx β x v) (h : matL hp x d ks K) : ∃ ks', K ks' ∧ ∃ bs, frL w cx.w0.heap.size d v bs ∧ (bs.Nodup ∧ ∀ b ∈ bs, ∃ k, k ∉ ks ∧ k ∈ ks' ∧ ownB hp β k = some b) ∧ ∀ k ∈ ks, k ∈ ks' := by
  unfold matL at h
  split at h
  · split at h
    · obtain ⟨rfl, h1⟩ := vEq_spec h
      obtain ⟨h2, rfl⟩ := hx
      exact ⟨ks, h1, [], ⟨rfl, h2, rfl⟩, ⟨by simp, fun b hb => by cases hb⟩, fun k hk => hk⟩
    · exact h.elim
  · split at h
    · rename_i k ver
      obtain ⟨E', l', h1, h2⟩ := rowK_spec h
      obtain ⟨h3, h4⟩ := side_iff.1 h2
      obtain ⟨h5, h6⟩ := side_iff.1 h4
      obtain ⟨h7, h8⟩ := side_iff.1 h6
      have hE := Nat.eq_of_beq_eq_true h5
      subst hE h7
      obtain ⟨v1, r2, r3, r4⟩ := row_own hI h1
      have := s_val (cx := cx) hx r2
      subst this
      have hk : k ∉ ks := fun e => by rw [memN_iff.2 e] at h3; cases h3
      refine ⟨_, h8, v.ownBlock.toList, ⟨r3, r4, rfl⟩, ⟨?_, fun b hb => ⟨k, hk, by simp, ?_⟩⟩, fun k' hk' => by simp [hk']⟩
      · cases v.ownBlock <;> simp
      · rw [ownB_of h1 r2]
        simpa [ownE] using hb
    · obtain ⟨h1, h2⟩ := side_iff.1 h
      obtain ⟨_, rfl⟩ := hx
      rename_i E l _ _
      refine ⟨ks, h2, [], ⟨?_, by omega, rfl⟩, ⟨by simp, fun b hb => by cases hb⟩, fun k hk => hk⟩
      have he : l.enc = [] := List.eq_nil_of_length_eq_zero (by rw [l.enc_len, h1]; simp)
      rw [h1, he]
      exact World.ownsRow_nil _ _ _ _
    · exact h.elim

/-- The blocks of one part do not meet those of another. -/
theorem nodup_app (hI : Inv cx β hp w) {ks ks1 ks2 : List Nat} {b1 b2 : List Nat} (h1 : b1.Nodup ∧ ∀ b ∈ b1, ∃ k, k ∉ ks ∧ k ∈ ks1 ∧ ownB hp β k = some b) (h2 : b2.Nodup ∧ ∀ b ∈ b2, ∃ k, k ∉ ks1 ∧ k ∈ ks2 ∧ ownB hp β k = some b) (m1 : ∀ k ∈ ks, k ∈ ks1) (m2 : ∀ k ∈ ks1, k ∈ ks2) :
    (b1 ++ b2).Nodup ∧ ∀ b ∈ b1 ++ b2, ∃ k, k ∉ ks ∧ k ∈ ks2 ∧ ownB hp β k = some b := by
  refine ⟨List.nodup_append.2 ⟨h1.1, h2.1, fun x hx y hy e => ?_⟩, fun b hb => ?_⟩
  · subst e
    obtain ⟨k, _, k1, k2⟩ := h1.2 x hx
    obtain ⟨k', k3, _, k4⟩ := h2.2 x hy
    have := hI.dis k k' x k2 k4
    subst this
    exact k3 k1
  · rcases List.mem_append.1 hb with hb | hb
    · obtain ⟨k, k1, k2, k3⟩ := h1.2 b hb
      exact ⟨k, k1, m2 k k2, k3⟩
    · obtain ⟨k, k1, k2, k3⟩ := h2.2 b hb
      exact ⟨k, fun e => k1 (m1 k e), k2, k3⟩

theorem mat_Ls (hI : Inv cx β hp w) : ∀ {xs : List LV} {ds : List DL} {vs : List Value} {ks : List Nat} {K : List Nat → Prop}, LCs cx β xs vs → matLs hp xs ds ks K → ∃ ks', K ks' ∧ ∃ bs, frLs w cx.w0.heap.size ds vs bs ∧ (bs.Nodup ∧ ∀ b ∈ bs, ∃ k, k ∉ ks ∧ k ∈ ks' ∧ ownB hp β k = some b) ∧ ∀ k ∈ ks, k ∈ ks'
  | [], [], [], ks, K, _, h => ⟨ks, h, [], rfl, ⟨by simp, fun b hb => by cases hb⟩, fun k hk => hk⟩
  | x :: xs, d :: ds, v :: vs, ks, K, hx, h => by
    obtain ⟨ks1, h1, b1, h2, h3, h4⟩ := mat_L hI hx.1 h
    obtain ⟨ks2, h5, b2, h6, h7, h8⟩ := mat_Ls hI hx.2 h1
    exact ⟨ks2, h5, b1 ++ b2, ⟨b1, b2, rfl, h2, h6⟩, nodup_app hI h3 h7 h4 h8, fun k hk => h8 k (h4 k hk)⟩
  | [], [], _ :: _, _, _, hx, _ => hx.elim
  | _ :: _, _ :: _, [], _, _, hx, _ => hx.elim
  | [], _ :: _, _, _, _, _, h => h.elim
  | _ :: _, [], _, _, _, _, h => h.elim
theorem mat_Ts (hI : Inv cx β hp w) : ∀ {xs : List (LV ⊕ List LV)} {ds : List (DL ⊕ List DL)} {vs : List Value} {ks : List Nat} {K : List Nat → Prop}, TCs cx β xs vs → matTs hp xs ds ks K → ∃ ks', K ks' ∧ ∃ bs, frTs w cx.w0.heap.size ds vs bs ∧ (bs.Nodup ∧ ∀ b ∈ bs, ∃ k, k ∉ ks ∧ k ∈ ks' ∧ ownB hp β k = some b) ∧ ∀ k ∈ ks, k ∈ ks'
  | [], [], [], ks, K, _, h => ⟨ks, h, [], rfl, ⟨by simp, fun b hb => by cases hb⟩, fun k hk => hk⟩
  | .inl x :: xs, .inl d :: ds, v :: vs, ks, K, hx, h => by
    obtain ⟨ks1, h1, b1, h2, h3, h4⟩ := mat_L hI hx.1 h
    obtain ⟨ks2, h5, b2, h6, h7, h8⟩ := mat_Ts hI hx.2 h1
    exact ⟨ks2, h5, b1 ++ b2, ⟨b1, b2, rfl, h2, h6⟩, nodup_app hI h3 h7 h4 h8, fun k hk => h8 k (h4 k hk)⟩
  | .inr x :: xs, .inr d :: ds, v :: vs, ks, K, hx, h => by
    obtain ⟨us, e, hu⟩ := hx.1
    obtain ⟨ks1, h1, b1, h2, h3, h4⟩ := mat_Ls hI hu h
    obtain ⟨ks2, h5, b2, h6, h7, h8⟩ := mat_Ts hI hx.2 h1
    exact ⟨ks2, h5, b1 ++ b2, ⟨b1, b2, rfl, ⟨us, e, h2⟩, h6⟩, nodup_app hI h3 h7 h4 h8, fun k hk => h8 k (h4 k hk)⟩
  | [], [], _ :: _, _, _, hx, _ => hx.elim
  | .inl _ :: _, .inl _ :: _, [], _, _, hx, _ => hx.elim
  | .inr _ :: _, .inr _ :: _, [], _, _, hx, _ => hx.elim
  | [], _ :: _, _, _, _, _, h => by simp [matTs] at h
  | .inl _ :: _, [], _, _, _, _, h => by simp [matTs] at h
  | .inr _ :: _, [], _, _, _, _, h => by simp [matTs] at h
  | .inl _ :: _, .inr _ :: _, _, _, _, _, h => by simp [matTs] at h
  | .inr _ :: _, .inl _ :: _, _, _, _, _, h => by simp [matTs] at h
theorem mat_V (hI : Inv cx β hp w) {r : AV} {d : DV} {v : Value} (hr : AC cx β r v) (h : matV hp r d) : ∃ bs, frV w cx.w0.heap.size d v bs ∧ bs.Nodup := by
  unfold matV at h
  split at h
  · split at h
    · obtain ⟨_, _, bs, h1, h2, _⟩ := mat_L hI hr h
      exact ⟨bs, h1, h2.1⟩
    · exact h.elim
  · split at h
    · obtain ⟨us, e, hu⟩ := hr
      obtain ⟨_, _, bs, h1, h2, _⟩ := mat_Ls hI hu h
      exact ⟨bs, ⟨us, e, h1⟩, h2.1⟩
    · exact h.elim
  · split at h
    · obtain ⟨us, e, hu⟩ := hr
      obtain ⟨_, _, bs, h1, h2, _⟩ := mat_Ts hI hu h
      exact ⟨bs, ⟨us, e, h1⟩, h2.1⟩
    · exact h.elim

/-- A contract by the walk. -/
theorem con_of {T : Tab} {G : Env} {TR : Nat → Tr} {f : FuncId} {fn : Func} {sig : List (Sh ⊕ List Sh)} {S : DA sig → (DV → Prop) → Prop} (hT : TabOk P T) (hM : P.follows .mixedOrders = true) (hG : EnvOk P G) (hfn : P.funcs[f]? = some fn) (hn : Nat.ble sig.length fn.ntmps = true)
    (h : ∀ (x : DA sig) (K : DV → Prop), S x K → bdA sig x → frzAK sig x fun vs0 => callP T G 0 [] TR fn vs0 [] fun r hp => ∃ d, matV hp r d ∧ K d) : Con P f sig S := by
  intro x K hS w vs hr hg
  obtain ⟨hb, ha⟩ := frz_bdA (β := []) hr
  have hI : Inv ⟨w, []⟩ [] [] w := ⟨Tch.refl _ _, rfl, fun k t e h => by simp at h, fun i k b h => by simp [ownB] at h⟩
  refine Calls.mono (call_spec (W0 := []) hT ⟨hG, .inr ⟨hg, Gm.nil⟩⟩ hM hfn hI ha (by rw [frzA_len]; simpa using hn) (frzAK_iff.1 (h x K hS hb))) ?_
  rintro e w' ⟨v, r, hp', β', rfl, ⟨d, h1, h2⟩, h3, hI', _⟩
  obtain ⟨bs, h4, h5⟩ := mat_V hI' h3 h1
  exact ⟨d, v, rfl, h2, ⟨hI'.kp.os, hI'.kp.tape, hI'.kp.output, hI'.kp.size, fun b hb => hI'.kp.block b hb (by simp)⟩, bs, h4, h5⟩

/-! ### The contract at a call -/
theorem dec_L (hI : Inv cx β hp w) {s : Sh} {x : LV} {v : Value} {K : s.T → Prop} (hx : LC cx β x v) (h : decL hp s x K) : ∃ y, K y ∧ rdL w s y v := by
  cases s <;> simp only [decL] at h
  · split at h
    · exact ⟨_, h, hx.2⟩
    · exact h.elim
  · split at h
    · exact ⟨_, h, hx.2⟩
    · exact h.elim
  all_goals
    obtain ⟨l, h1, h2, h3⟩ := read_spec (a := .l x) hI hx h
    split at h1
    · exact ⟨_, h1, h2, h3⟩
    · exact h1.elim
theorem dec_s (hI : Inv cx β hp w) : ∀ {ss : List Sh} {xs : List LV} {vs : List Value} {K : HL ss → Prop}, LCs cx β xs vs → decs hp ss xs K → ∃ y, K y ∧ rds w ss y vs
  | [], [], [], K, _, h => ⟨(), h, trivial⟩
  | s :: r, x :: xs, v :: vs, K, hx, h => by
    obtain ⟨a, h1, h2⟩ := dec_L hI hx.1 h
    obtain ⟨b, h3, h4⟩ := dec_s hI hx.2 h1
    exact ⟨(a, b), h3, h2, h4⟩
  | [], [], _ :: _, _, hx, _ => hx.elim
  | _ :: _, _ :: _, [], _, hx, _ => hx.elim
  | [], _ :: _, _, _, _, h => h.elim
  | _ :: _, [], _, _, _, h => h.elim
theorem dec_A (hI : Inv cx β hp w) : ∀ {sig : List (Sh ⊕ List Sh)} {xs : List AV} {vs : List Value} {K : DA sig → Prop}, ACs cx β xs vs → decA hp sig xs K → ∃ y, K y ∧ rdA w sig y vs
  | [], [], [], K, _, h => ⟨(), h, trivial⟩
  | .inl s :: r, .l x :: xs, v :: vs, K, hx, h => by
    obtain ⟨a, h1, h2⟩ := dec_L hI hx.1 h
    obtain ⟨b, h3, h4⟩ := dec_A hI hx.2 h1
    exact ⟨(a, b), h3, h2, h4⟩
  | .inr s :: r, .a x :: xs, v :: vs, K, hx, h => by
    obtain ⟨us, e, hu⟩ := hx.1
    obtain ⟨a, h1, h2⟩ := dec_s hI hu h
    obtain ⟨b, h3, h4⟩ := dec_A hI hx.2 h1
    exact ⟨(a, b), h3, ⟨us, e, h2⟩, h4⟩
  | [], [], _ :: _, _, hx, _ => hx.elim
  | [], _ :: _, _, _, _, h => by simp [decA] at h
  | .inl _ :: _, [], _, _, _, h => by simp [decA] at h
  | .inr _ :: _, [], _, _, _, h => by simp [decA] at h
  | .inl _ :: _, .a _ :: _, _, _, _, h => by simp [decA] at h
  | .inl _ :: _, .t _ :: _, _, _, _, h => by simp [decA] at h
  | .inl _ :: _, .j :: _, _, _, _, h => by simp [decA] at h
  | .inr _ :: _, .l _ :: _, _, _, _, h => by simp [decA] at h
  | .inr _ :: _, .t _ :: _, _, _, _, h => by simp [decA] at h
  | .inr _ :: _, .j :: _, _, _, _, h => by simp [decA] at h
  | .inl _ :: _, .l _ :: _, [], _, hx, _ => hx.elim
  | .inr _ :: _, .a _ :: _, [], _, hx, _ => hx.elim

/-- How far the results of a call have been taken in: U are the blocks of the lists that have come. -/
structure Imp (cx : Cx) (B : Nat) (w' : World) (β : List En) (hp : Hp) (U : List Nat) (β' : List En) (hp' : Hp) : Prop where
  inv : Inv cx β' hp' w'
  len : hp.length ≤ hp'.length
  pre : ∀ k, k < hp.length → hp'[k]? = hp[k]? ∧ β'[k]? = β[k]?
  own : ∀ k b, ownB hp' β' k = some b → ownB hp β k = some b ∨ (B ≤ b ∧ b ∈ U)

theorem ext_app (β : List En) (e : En) : Ext β (β ++ [e]) := by
  intro k e0 he
  have hlt : k < β.length := (List.getElem?_eq_some_iff.1 he).1
  have hsame : (β ++ [e])[k]? = some e0 := by rw [List.getElem?_append_left hlt]; exact he
  cases e0 with
  | b n => exact hsame
  | r v ver => exact ⟨v, ver, hsame, Nat.le_refl _, fun _ => rfl⟩
  | x => trivial

theorem own_app {k b : Nat} {x : HB} {e : En} (hl : β.length = hp.length) (h : ownB (hp ++ [x]) (β ++ [e]) k = some b) : ownB hp β k = some b ∨ (k = hp.length ∧ ownE x e = some b) := by
  obtain ⟨t, e1, h1, h2, h3⟩ := ownB_some h
  by_cases hk : k < hp.length
  · rw [List.getElem?_append_left hk] at h1
    rw [List.getElem?_append_left (by omega)] at h2
    exact .inl (by rw [ownB_of h1 h2]; exact h3)
  · have hk2 : k = hp.length := by
      have := (List.getElem?_eq_some_iff.1 h1).1
      simp at this
      omega
    subst hk2
    simp only [List.getElem?_concat_length, Option.some.injEq] at h1
    rw [← hl] at h2
    simp only [List.getElem?_concat_length, Option.some.injEq] at h2
    subst h1 h2
    exact .inr ⟨rfl, h3⟩

theorem Imp.add {B : Nat} {w' : World} {U : List Nat} {β1 : List En} {hp1 : Hp} (hlt : ∀ k b, ownB hp β k = some b → b < B) (h : Imp cx B w' β hp U β1 hp1) (hcx : cx.w0.heap.size ≤ B) {E : TypeId} {l : EL} {v : Value} (ho : w'.ownsRow B E l.sz v l.len l.enc) (hm : l.len ≤ maxL) (hU : ∀ b ∈ v.ownBlock.toList, b ∉ U) :
    Imp cx B w' β hp (U ++ v.ownBlock.toList) (β1 ++ [.r v 0]) (hp1 ++ [.r 0 E l]) := by
  have hl := h.inv.len
  have new : ∀ k b, ownB (hp1 ++ [.r 0 E l]) (β1 ++ [.r v 0]) k = some b → ownB hp1 β1 k = some b ∨ (k = hp1.length ∧ v.ownBlock = some b) := fun k b hb => own_app hl hb
  have clash : ∀ k b, ownB hp1 β1 k = some b → v.ownBlock = some b → False := fun k b h1 h2 => by
    have hb := ho.lt b h2
    rcases h.own k b h1 with h3 | h3
    · have := hlt k b h3; omega
    · exact hU b (by simp [h2]) h3.2
  refine ⟨⟨h.inv.kp, by simp [hl], fun k t e g1 g2 => ?_, fun i j b g1 g2 => ?_⟩, by have := h.len; simp; omega, fun k hk => ?_, fun k b hb => ?_⟩
  · by_cases hk : k < hp1.length
    · rw [List.getElem?_append_left hk] at g1
      rw [List.getElem?_append_left (by omega)] at g2
      exact (h.inv.ent k t e g1 g2).keep (ext_app _ _) fun _ _ => rfl
    · have hk2 : k = hp1.length := by
        have := (List.getElem?_eq_some_iff.1 g1).1
        simp at this
        omega
      subst hk2
      simp only [List.getElem?_concat_length, Option.some.injEq] at g1
      rw [← hl] at g2
      simp only [List.getElem?_concat_length, Option.some.injEq] at g2
      subst g1 g2
      exact ⟨rfl, owns_base ho hcx, hm⟩
  · rcases new i b g1 with h1 | ⟨rfl, h1⟩ <;> rcases new j b g2 with h2 | ⟨rfl, h2⟩
    · exact h.inv.dis i j b h1 h2
    · exact (clash i b h1 h2).elim
    · exact (clash j b h2 h1).elim
    · rfl
  · obtain ⟨h1, h2⟩ := h.pre k hk
    have := h.len
    exact ⟨(List.getElem?_append_left (by omega)).trans h1, (List.getElem?_append_left (by omega)).trans h2⟩
  · rcases new k b hb with h1 | ⟨rfl, h1⟩
    · exact (h.own k b h1).imp id fun h2 => ⟨h2.1, by simp [h2.2]⟩
    · exact .inr ⟨(ho.lt b h1).1, by simp [h1]⟩

theorem imp_L {B : Nat} {w' : World} (hlt : ∀ k b, ownB hp β k = some b → b < B) (hcx : cx.w0.heap.size ≤ B) {U : List Nat} {β1 : List En} {hp1 : Hp} (h : Imp cx B w' β hp U β1 hp1) {d : DL} {v : Value} {bs : List Nat} (hf : frL w' B d v bs) (hU : ∀ b ∈ bs, b ∉ U) {K : LV → Hp → Prop} (hk : impL hp1 d K) :
    ∃ x hp2 β2, K x hp2 ∧ LC cx β2 x v ∧ Imp cx B w' β hp (U ++ bs) β2 hp2 ∧ Ext β1 β2 := by
  cases d with
  | v y =>
    obtain ⟨rfl, h1, rfl⟩ := hf
    exact ⟨_, hp1, β1, hk, ⟨h1, rfl⟩, by simpa using h, Ext.refl _⟩
  | s E l =>
    obtain ⟨h1, h2, rfl⟩ := hf
    have h3 := endH_iff.1 hk
    rw [Nat.zero_add] at h3
    have hone : v.oneCell' = true := by obtain ⟨_, _, rfl⟩ := owns_form h1; rfl
    exact ⟨_, _, β1 ++ [.r v 0], h3, ⟨hone, v, 0, by rw [← h.inv.len]; simp, Nat.le_refl _, fun _ => rfl⟩, h.add hlt hcx h1 h2 hU, ext_app _ _⟩

theorem imp_Ls {B : Nat} {w' : World} (hlt : ∀ k b, ownB hp β k = some b → b < B) (hcx : cx.w0.heap.size ≤ B) : ∀ {ds : List DL} {vs : List Value} {bs U : List Nat} {β1 : List En} {hp1 : Hp} {K : List LV → Hp → Prop}, Imp cx B w' β hp U β1 hp1 → frLs w' B ds vs bs → bs.Nodup → (∀ b ∈ bs, b ∉ U) → impLs hp1 ds K →
    ∃ xs hp2 β2, K xs hp2 ∧ LCs cx β2 xs vs ∧ Imp cx B w' β hp (U ++ bs) β2 hp2 ∧ Ext β1 β2
  | [], [], bs, U, β1, hp1, K, h, hf, _, _, hk => by
    have e : bs = [] := hf
    subst e
    exact ⟨[], hp1, β1, hk, trivial, by simpa using h, Ext.refl _⟩
  | d :: ds, v :: vs, bs, U, β1, hp1, K, h, hf, hn, hU, hk => by
    obtain ⟨b1, b2, rfl, h1, h2⟩ := hf
    obtain ⟨n1, n2, n3⟩ := List.nodup_append.1 hn
    obtain ⟨x, hp2, β2, h3, h4, h5, h6⟩ := imp_L hlt hcx h h1 (fun b hb => hU b (by simp [hb])) hk
    obtain ⟨xs, hp3, β3, h7, h8, h9, h10⟩ := imp_Ls hlt hcx h5 h2 n2 (fun b hb e => by
      rcases List.mem_append.1 e with e | e
      · exact hU b (by simp [hb]) e
      · exact n3 b e b hb rfl) h3
    exact ⟨x :: xs, hp3, β3, h7, ⟨h4.ext h10, h8⟩, by simpa [List.append_assoc] using h9, h6.trans h10⟩
  | [], _ :: _, _, _, _, _, _, _, hf, _, _, _ => hf.elim
  | _ :: _, [], _, _, _, _, _, _, hf, _, _, _ => hf.elim
theorem imp_Ts {B : Nat} {w' : World} (hlt : ∀ k b, ownB hp β k = some b → b < B) (hcx : cx.w0.heap.size ≤ B) : ∀ {ds : List (DL ⊕ List DL)} {vs : List Value} {bs U : List Nat} {β1 : List En} {hp1 : Hp} {K : List (LV ⊕ List LV) → Hp → Prop}, Imp cx B w' β hp U β1 hp1 → frTs w' B ds vs bs → bs.Nodup → (∀ b ∈ bs, b ∉ U) → impTs hp1 ds K →
    ∃ xs hp2 β2, K xs hp2 ∧ TCs cx β2 xs vs ∧ Imp cx B w' β hp (U ++ bs) β2 hp2 ∧ Ext β1 β2
  | [], [], bs, U, β1, hp1, K, h, hf, _, _, hk => by
    have e : bs = [] := hf
    subst e
    exact ⟨[], hp1, β1, hk, trivial, by simpa using h, Ext.refl _⟩
  | .inl d :: ds, v :: vs, bs, U, β1, hp1, K, h, hf, hn, hU, hk => by
    obtain ⟨b1, b2, rfl, h1, h2⟩ := hf
    obtain ⟨n1, n2, n3⟩ := List.nodup_append.1 hn
    obtain ⟨x, hp2, β2, h3, h4, h5, h6⟩ := imp_L hlt hcx h h1 (fun b hb => hU b (by simp [hb])) hk
    obtain ⟨xs, hp3, β3, h7, h8, h9, h10⟩ := imp_Ts hlt hcx h5 h2 n2 (fun b hb e => by
      rcases List.mem_append.1 e with e | e
      · exact hU b (by simp [hb]) e
      · exact n3 b e b hb rfl) h3
    exact ⟨.inl x :: xs, hp3, β3, h7, ⟨h4.ext h10, h8⟩, by simpa [List.append_assoc] using h9, h6.trans h10⟩
  | .inr d :: ds, v :: vs, bs, U, β1, hp1, K, h, hf, hn, hU, hk => by
    obtain ⟨b1, b2, rfl, ⟨us, e, h1⟩, h2⟩ := hf
    obtain ⟨n1, n2, n3⟩ := List.nodup_append.1 hn
    obtain ⟨x, hp2, β2, h3, h4, h5, h6⟩ := imp_Ls hlt hcx h h1 n1 (fun b hb => hU b (by simp [hb])) hk
    obtain ⟨xs, hp3, β3, h7, h8, h9, h10⟩ := imp_Ts hlt hcx h5 h2 n2 (fun b hb e => by
      rcases List.mem_append.1 e with e | e
      · exact hU b (by simp [hb]) e
      · exact n3 b e b hb rfl) h3
    exact ⟨.inr x :: xs, hp3, β3, h7, ⟨⟨us, e, h4.ext h10⟩, h8⟩, by simpa [List.append_assoc] using h9, h6.trans h10⟩
  | [], _ :: _, _, _, _, _, _, _, hf, _, _, _ => hf.elim
  | .inl _ :: _, [], _, _, _, _, _, _, hf, _, _, _ => hf.elim
  | .inr _ :: _, [], _, _, _, _, _, _, hf, _, _, _ => hf.elim

theorem imp_W {B : Nat} {w' : World} (hlt : ∀ k b, ownB hp β k = some b → b < B) (hcx : cx.w0.heap.size ≤ B) (hI' : Inv cx β hp w') {d : DV} {v : Value} {bs : List Nat} (hf : frV w' B d v bs) (hn : bs.Nodup) {K : AV → Hp → Prop} (hk : impV hp d K) :
    ∃ r hp' β' U, K r hp' ∧ AC cx β' r v ∧ Imp cx B w' β hp U β' hp' ∧ Ext β β' := by
  have h0 : Imp cx B w' β hp [] β hp := ⟨hI', Nat.le_refl _, fun _ _ => ⟨rfl, rfl⟩, fun _ _ h => .inl h⟩
  cases d with
  | l x =>
    obtain ⟨y, hp2, β2, h1, h2, h3, h4⟩ := imp_L (K := fun y hp' => K (.l y) hp') hlt hcx h0 hf (fun _ _ h => by cases h) hk
    exact ⟨.l y, hp2, β2, _, h1, h2, h3, h4⟩
  | a cs =>
    obtain ⟨us, e, hf⟩ := hf
    obtain ⟨y, hp2, β2, h1, h2, h3, h4⟩ := imp_Ls (K := fun y hp' => K (.a y) hp') hlt hcx h0 hf hn (fun _ _ h => by cases h) hk
    exact ⟨.a y, hp2, β2, _, h1, ⟨us, e, h2⟩, h3, h4⟩
  | t cs =>
    obtain ⟨us, e, hf⟩ := hf
    obtain ⟨y, hp2, β2, h1, h2, h3, h4⟩ := imp_Ts (K := fun y hp' => K (.t y) hp') hlt hcx h0 hf hn (fun _ _ h => by cases h) hk
    exact ⟨.t y, hp2, β2, _, h1, ⟨us, e, h2⟩, h3, h4⟩

theorem imp_V {w' : World} (hI : Inv cx β hp w) (hb : Below w.heap.size w w') {d : DV} {v : Value} {bs : List Nat} (hf : frV w' w.heap.size d v bs) (hn : bs.Nodup) {K : AV → Hp → Prop} (hk : impV hp d K) {S : Nat → Prop} :
    ∃ r hp' β', K r hp' ∧ AC cx β' r v ∧ Out cx β hp w S β' hp' w' := by
  obtain ⟨r, hp', β', U, h1, h2, h, hx⟩ := imp_W (fun k b h => (hI.lt h).1) hI.kp.size (hI.stay hb) hf hn hk
  refine ⟨r, hp', β', h1, h2, h.inv, hx, fun k b hb => (h.own k b hb).imp id And.left, hb.size, h.len, fun k hk _ => ?_, fun b hb' _ => hb.block b hb'⟩
  unfold ownB
  rw [(h.pre k hk).1, (h.pre k hk).2]

/-- A contract serves the walk. -/
theorem cs_ok {f : FuncId} {sig : List (Sh ⊕ List Sh)} {S : DA sig → (DV → Prop) → Prop} (hfn : (P.funcs[f]?).map (fun fn => (fn.name == "runtime.NumGoroutine", fn.body.isNone)) = some (false, false)) (h : Con P f sig S) : CSok P f (csOf sig S) := by
  refine ⟨hfn, fun xs hp K hS cx β w vs hI gl ha => ?_⟩
  obtain ⟨x, h1, h2⟩ := dec_A hI ha hS
  refine Calls.mono (h x _ h1 w vs h2 (gl.1.keep gl.2 hI.kp)) ?_
  rintro e w' ⟨d, v, rfl, h3, hb, bs, h4, h5⟩
  obtain ⟨r, hp', β', h6, h7, h8⟩ := imp_V hI hb h4 h5 h3
  exact ⟨v, r, hp', β', rfl, h6, h7, h8⟩

end
end Ab
end Go.Proofs.YtkhggobpanfkfaaDoor

/-
  Contracts of functions that are lent a reader of bytes, and functions that are walked where they are called. Plain lemmas; the conditions are the types' rows (TIok) and the contracts (CSok).
-/
namespace Go.Proofs.YtkhggobpanfkfaaDoor
open Go.RowKit
namespace Ab

def scal : List (Sh ⊕ List Sh) → Bool
  | [] => true
  | .inl .int :: r => scal r
  | .inl .bool :: r => scal r
  | .inr ss :: r => go ss && scal r
  | _ => false
where
  go : List Sh → Bool
    | [] => true
    | .int :: r => go r
    | .bool :: r => go r
    | _ => false

/-- The block r holds a reader: bytes v that read as l, and the place p. -/
def RdrAt (T0 : TypeId) (w : World) (r : Nat) (v : Value) (l : List UInt8) (p : Int) : Prop :=
  w.heap[r]? = some (.cells #[v, .int .i64 p] T0 (0, 0)) ∧ rdE w (.bytes l) v ∧ ((EL.bytes l).len ≠ 0 → v.ownBlock ≠ some r)

/-- The contract of a function that is lent a reader. -/
def ConB (P : Program) (f : FuncId) (T0 : TypeId) (sig : List (Sh ⊕ List Sh)) (S : Int → DA sig → (DV → Int → Prop) → Prop) : Prop := ∀ (p : Int) (x : DA sig) (K : DV → Int → Prop), S p x K → ∀ (w : World) (r : Nat) (v : Value) (l : List UInt8) (vs : Array Value), RdrAt T0 w r v l p → rdA w sig x vs.toList → Gw w →
  Calls P f (#[.pointer (some ⟨r, 0, none⟩)] ++ vs) w fun e w' => ∃ d u p', e = .returned u ∧ K d p' ∧ Tch (fun b => b = r) w w' ∧ w'.heap[r]? = some (.cells #[v, .int .i64 p'] T0 (0, 0)) ∧ ∃ bs, frV w' w.heap.size d u bs ∧ bs.Nodup

/-- The reader's place at the end. -/
def endB (v0 : Value) (l : List UInt8) (T0 : TypeId) (hp : Hp) (p' : Int) (q : Prop) : Prop := getH hp 0 fun h => match h with
  | .b cs T => (match cs with
    | [x, .v (.int .i64 p)] => Side (x = .fx v0 (.bytes l)) <| Side (p = p') <| Side (Nat.beq T T0 = true) q
    | _ => False)
  | _ => False

/-- Bytes that came in. -/
def isBy (c : LV) (K : Prop) : Prop := match c with
  | .fx _ (.bytes _) => K
  | .f (.bytes _) => K
  | _ => False
/-- The contract at a call. -/
def csB (T0 : TypeId) (sig : List (Sh ⊕ List Sh)) (S : Int → DA sig → (DV → Int → Prop) → Prop) : CS :=
  { S := fun xs hp K => match xs with
      | .l (.p k 0) :: r => getH hp k fun h => (match h with
        | .b cs T => (match cs with
          | [c, .v (.int .i64 p)] => isBy c <| Side (Nat.beq T T0 = true) <| decA hp sig r fun x => S p x fun d p' => setH hp k (.b [c, .v (.int .i64 p')] T) fun hp' => impV hp' d K
          | _ => False)
        | _ => False)
      | _ => False
    tch := fun xs => match xs with
      | .l (.p k _) :: _ => some [k]
      | _ => some [] }

section
variable {P : Program} {cx : Cx} {β : List En} {hp : Hp} {w : World}

theorem scal_go : ∀ {ss : List Sh} {x : HL ss} {vs : List Value}, scal.go ss = true → rds w ss x vs → LCs cx β (frzs ss x) vs
  | [], _, [], _, _ => trivial
  | .int :: r, x, v :: vs, hs, h => by
    have e : v = .int .i64 x.1 := h.1
    subst e
    exact ⟨⟨rfl, rfl⟩, scal_go (ss := r) hs h.2⟩
  | .bool :: r, x, v :: vs, hs, h => by
    have e : v = .bool x.1 := h.1
    subst e
    exact ⟨⟨rfl, rfl⟩, scal_go (ss := r) hs h.2⟩
  | .ints :: _, _, _, hs, _ => by cases hs
  | .gots :: _, _, _, hs, _ => by cases hs
  | .bytes :: _, _, _, hs, _ => by cases hs
  | [], _, _ :: _, _, h => h.elim
  | .int :: _, _, [], _, h => h.elim
  | .bool :: _, _, [], _, h => h.elim
theorem scal_A : ∀ {sig : List (Sh ⊕ List Sh)} {x : DA sig} {vs : List Value}, scal sig = true → rdA w sig x vs → ACs cx β (frzA sig x) vs
  | [], _, [], _, _ => trivial
  | .inl .int :: r, x, v :: vs, hs, h => by
    have e : v = .int .i64 x.1 := h.1
    subst e
    exact ⟨⟨rfl, rfl⟩, scal_A (sig := r) hs h.2⟩
  | .inl .bool :: r, x, v :: vs, hs, h => by
    have e : v = .bool x.1 := h.1
    subst e
    exact ⟨⟨rfl, rfl⟩, scal_A (sig := r) hs h.2⟩
  | .inr ss :: r, x, v :: vs, hs, h => by
    simp only [scal, Bool.and_eq_true] at hs
    obtain ⟨us, e, hu⟩ := h.1
    exact ⟨⟨us, e, scal_go hs.1 hu⟩, scal_A (sig := r) hs.2 h.2⟩
  | .inl .ints :: _, _, _, hs, _ => by cases hs
  | .inl .gots :: _, _, _, hs, _ => by cases hs
  | .inl .bytes :: _, _, _, hs, _ => by cases hs
  | [], _, _ :: _, _, h => h.elim
  | .inl .int :: _, _, [], _, h => h.elim
  | .inl .bool :: _, _, [], _, h => h.elim
  | .inr _ :: _, _, [], _, h => h.elim

theorem conB_of {T : Tab} {G : Env} {TR : Nat → Tr} {T0 : TypeId} {f : FuncId} {fn : Func} {sig : List (Sh ⊕ List Sh)} {S : Int → DA sig → (DV → Int → Prop) → Prop} (hT : TabOk P T) (hM : P.follows .mixedOrders = true) (hG : EnvOk P G) (hfn : P.funcs[f]? = some fn) (hn : Nat.ble (sig.length + 1) fn.ntmps = true) (hs : scal sig = true)
    (h : ∀ (v0 : Value) (l : List UInt8) (p : Int) (x : DA sig) (K : DV → Int → Prop), l.length ≤ maxL → S p x K → frzAK sig x fun vs0 => callP T G 1 [0] TR fn (.l (.p 0 0) :: vs0) [.b [.fx v0 (.bytes l), .v (.int .i64 p)] T0] fun r hp => ∃ d p', endB v0 l T0 hp p' (matV hp r d) ∧ K d p') : ConB P f T0 sig S := by
  intro p x K hS w r v l vs ⟨hb, hrd, hne⟩ hr hg
  have hlt : r < w.heap.size := (Array.getElem?_eq_some_iff.1 hb).1
  have hone : v.oneCell' = true := by obtain ⟨a, c, rfl, _⟩ := hrd.1.form; rfl
  have hfx : LC ⟨w, [r]⟩ [.b r] (.fx v (.bytes l)) v := ⟨hone, rfl, hrd.1, hrd.2, fun h0 b hb hm => by
    simp only [List.mem_singleton] at hm
    exact hne h0 (by rw [hb, hm])⟩
  have hI : Inv ⟨w, [r]⟩ [.b r] [.b [.fx v (.bytes l), .v (.int .i64 p)] T0] w := by
    refine ⟨Tch.refl _ _, rfl, fun k t e h1 h2 => ?_, fun i k b h1 h2 => ?_⟩
    · cases k with
      | succ k => simp at h1
      | zero =>
        simp only [List.getElem?_cons_zero, Option.some.injEq] at h1 h2
        subst h1 h2
        exact ⟨.inr (by simp), _, hb, hfx, ⟨rfl, rfl⟩, trivial⟩
    · obtain ⟨_, _, e1, _, _⟩ := ownB_some h1
      obtain ⟨_, _, e2, _, _⟩ := ownB_some h2
      have := (List.getElem?_eq_some_iff.1 e1).1
      have := (List.getElem?_eq_some_iff.1 e2).1
      simp at *
      omega
  have hargs : ACs ⟨w, [r]⟩ [.b r] (.l (.p 0 0) :: frzA sig x) (#[Value.pointer (some ⟨r, 0, none⟩)] ++ vs).toList := by
    have : (#[Value.pointer (some ⟨r, 0, none⟩)] ++ vs).toList = Value.pointer (some ⟨r, 0, none⟩) :: vs.toList := by simp
    rw [this]
    exact ⟨⟨rfl, r, rfl, rfl⟩, scal_A hs hr⟩
  refine Calls.mono (call_spec (W0 := [0]) hT ⟨hG, .inr ⟨hg, Gm.rd hg hb (by simp)⟩⟩ hM hfn hI hargs (by simp [frzA_len]; simpa using hn) (frzAK_iff.1 (h v l p x K hrd.2 hS))) ?_
  rintro e w' ⟨u, ru, hp', β', rfl, ⟨d, p', h1, h2⟩, h3, hI', hL⟩
  obtain ⟨t, g1, g2⟩ := getH_iff.1 h1
  split at g2
  · rename_i cs T1
    split at g2
    · rename_i x1 p1
      obtain ⟨g3, g4⟩ := side_iff.1 g2
      obtain ⟨g5, g6⟩ := side_iff.1 g4
      obtain ⟨g7, g8⟩ := side_iff.1 g6
      have hT0 := Nat.eq_of_beq_eq_true g7
      subst g3 g5 hT0
      obtain ⟨bs, h4, h5⟩ := mat_V hI' h3 g8
      have hx := hL.ext 0 (.b r) (by simp) rfl
      have ho := hI'.ent 0 _ _ g1 hx
      obtain ⟨_, us, q1, q2⟩ := ho
      have hus : us = #[v, .int .i64 p1] := by
        apply Array.toList_inj.1
        cases hu : us.toList with
        | nil => rw [hu] at q2; exact q2.elim
        | cons a rest =>
          rw [hu] at q2
          cases rest with
          | nil => exact q2.2.elim
          | cons b rest =>
            obtain ⟨⟨_, e1, _⟩, ⟨_, e2⟩, q3⟩ := q2
            cases rest with
            | nil => rw [e1, e2]
            | cons _ _ => exact q3.elim
      subst hus
      refine ⟨d, u, p1, rfl, h2, ?_, q1, bs, h4, h5⟩
      exact hI'.kp.mono fun b _ hb => by simpa using hb
    · exact g2.elim
  · exact g2.elim

theorem isBy_spec {c : LV} {K : Prop} (h : isBy c K) : K ∧ ∀ v, LC cx β c v → ∃ l, FZ cx v (.bytes l) := by
  unfold isBy at h
  split at h
  · exact ⟨h, fun v hv => ⟨_, hv.2.2⟩⟩
  · exact ⟨h, fun v hv => ⟨_, hv.2⟩⟩
  · exact h.elim
theorem csB_ok {T0 : TypeId} {f : FuncId} {sig : List (Sh ⊕ List Sh)} {S : Int → DA sig → (DV → Int → Prop) → Prop} (hfn : (P.funcs[f]?).map (fun fn => (fn.name == "runtime.NumGoroutine", fn.body.isNone)) = some (false, false)) (h : ConB P f T0 sig S) : CSok P f (csB T0 sig S) := by
  refine ⟨hfn, fun xs hp K hS cx β w vs hI gl ha => ?_⟩
  simp only [csB] at hS
  split at hS
  · rename_i k r
    obtain ⟨t, g1, g2⟩ := getH_iff.1 hS
    split at g2
    · rename_i cs T1
      split at g2
      · rename_i cl p
        obtain ⟨g2', hby⟩ := isBy_spec (cx := cx) (β := β) g2
        obtain ⟨g3, g4⟩ := side_iff.1 g2'
        have hT0 := Nat.eq_of_beq_eq_true g3
        subst hT0
        cases hvs : vs.toList with
        | nil => rw [hvs] at ha; exact ha.elim
        | cons a0 rest =>
          rw [hvs] at ha
          obtain ⟨⟨_, n, hn, rfl⟩, ha⟩ := ha
          have ho := hI.ent k _ _ g1 hn
          obtain ⟨hreg, us, hb, hc⟩ := ho
          have hus : ∃ v, us = #[v, .int .i64 p] ∧ LC cx β cl v := by
            cases hu : us.toList with
            | nil => rw [hu] at hc; exact hc.elim
            | cons a rest =>
              rw [hu] at hc
              cases rest with
              | nil => exact hc.2.elim
              | cons b rest =>
                obtain ⟨o1, ⟨_, e3⟩, q3⟩ := hc
                cases rest with
                | nil => exact ⟨a, Array.toList_inj.1 (by rw [hu, e3]), o1⟩
                | cons _ _ => exact q3.elim
          obtain ⟨v, rfl, hfx⟩ := hus
          obtain ⟨l, hfz⟩ := hby v hfx
          obtain ⟨x, h1, h2⟩ := dec_A hI ha g4
          have hrdr : RdrAt T1 w n v l p := by
            refine ⟨hb, ⟨hfz.sl hI, hfz.2.1⟩, fun h0 e => ?_⟩
            have hM := hfz.2.2 h0 n e
            have hlt : n < cx.w0.heap.size := by
              rcases hfz.1.2 with ⟨e0, _⟩ | ⟨g', off', cap', cur, T', e0, _, e1, _⟩
              · exact absurd e0 h0
              · rw [e0] at e
                simp only [Value.ownBlock, Option.some.injEq] at e
                subst e
                exact (Array.getElem?_eq_some_iff.1 e1).1
            rcases hreg with h3 | h3
            · omega
            · exact hM h3
          have hcall := h p x _ h1 w n v l rest.toArray hrdr (by simpa using h2) (gl.1.keep gl.2 hI.kp)
          have hargs : (#[Value.pointer (some ⟨n, 0, none⟩)] ++ rest.toArray) = vs := by
            apply Array.toList_inj.1
            simp [hvs]
          rw [hargs] at hcall
          refine Calls.mono hcall ?_
          rintro e w' ⟨d, u, p', rfl, h3, ht, hb', bs, h4, h5⟩
          obtain ⟨hkl, h6⟩ := setH_iff.1 h3
          have hown : ownB hp β k = some n := by rw [ownB_of g1 hn]; rfl
          have hO : Out cx β hp w (ST (some [k])) β (hp.set k (.b [cl, .v (.int .i64 p')] T1)) w' := by
            refine Out.upd (k0 := k) (h' := .b [cl, .v (.int .i64 p')] T1) (e' := .b n) hI (by simp [ST]) (ht.mono fun b _ e => by rw [hown, e]) (fun i hi => ⟨List.getElem?_set_ne (Ne.symm hi), rfl⟩) (by simp [hkl]) hn (by simp [hI.len]) (by simp) (Ext.refl _)
              ⟨hreg, _, hb', hfx, ⟨rfl, rfl⟩, trivial⟩ (fun b hb => .inl (by rw [hown]; exact hb))
          have hlt : ∀ i b, ownB (hp.set k (.b [cl, .v (.int .i64 p')] T1)) β i = some b → b < w.heap.size := by
            intro i b hb
            by_cases hik : i = k
            · subst hik
              rw [ownB_of (x := .b [cl, .v (.int .i64 p')] T1) (by simp [hkl]) hn] at hb
              have : some n = some b := hb
              simp only [Option.some.injEq] at this
              subst this
              exact (hI.lt hown).1
            · have : ownB hp β i = some b := by
                unfold ownB at hb ⊢
                rw [List.getElem?_set_ne (Ne.symm hik)] at hb
                exact hb
              exact (hI.lt this).1
          obtain ⟨ru, hp2, β2, U, i1, i2, i3, i4⟩ := imp_W hlt hI.kp.size hO.inv h4 h5 h6
          refine ⟨u, ru, hp2, β2, rfl, i1, i2, ⟨i3.inv, i4, fun i b hb => ?_, hO.size, by have := i3.len; simp at this; exact this, fun i hi hn' => ?_, hO.tch⟩⟩
          · rcases i3.own i b hb with h7 | h7
            · exact hO.om i b h7
            · exact .inr h7.1
          · have hi' : i < (hp.set k (.b [cl, .v (.int .i64 p')] T1)).length := by simpa using hi
            have h7 : ownB hp2 β2 i = ownB (hp.set k (.b [cl, .v (.int .i64 p')] T1)) β i := by
              unfold ownB
              rw [(i3.pre i hi').1, (i3.pre i hi').2]
            rw [h7]
            exact hO.own i hi hn'
      · exact g2.elim
    · exact g2.elim
  · exact hS.elim

/-- A function that is walked where it is called. -/
def csI (T : Tab) (G : Env) (TR : Nat → Tr) (fn : Func) : CS :=
  { S := fun xs hp K => Side (Nat.ble xs.length fn.ntmps = true) <| natK (lenH hp) fun n => callP T G n [] TR fn xs hp K, tch := fun _ => none }
theorem csI_ok {T : Tab} {G : Env} {TR : Nat → Tr} {f : FuncId} {fn : Func} (hT : TabOk P T) (hM : P.follows .mixedOrders = true) (hG : EnvOk P G) (hfn : P.funcs[f]? = some fn) (hok : (P.funcs[f]?).map (fun fn => (fn.name == "runtime.NumGoroutine", fn.body.isNone)) = some (false, false)) : CSok P f (csI T G TR fn) := by
  refine ⟨hok, fun xs hp K hS cx β w vs hI gl ha => ?_⟩
  obtain ⟨h1, h2⟩ := side_iff.1 hS
  have h3 := natK_iff.1 h2
  rw [lenH_eq] at h3
  refine Calls.mono (call_spec (W0 := []) hT ⟨hG, .inr gl⟩ hM hfn hI ha (by simpa using h1) h3) ?_
  rintro e w' ⟨v, r, hp', β', rfl, h4, h5, h6, h7⟩
  refine ⟨v, r, hp', β', rfl, h4, h5, ⟨h6, fun k e he => ?_, fun k b hb => (h7.om k b hb).imp And.right id, h7.size, h7.len, fun k _ hn => (hn trivial).elim, fun b hb hn => h7.tch b hb fun k => hn k trivial⟩⟩
  exact h7.ext k e (by rw [← hI.len]; exact (List.getElem?_eq_some_iff.1 he).1) he

def TabAll (P : Program) : Tab → Prop
  | [] => True
  | (t, i) :: r => TIok P t i ∧ TabAll P r
theorem tabAll_ok : ∀ {T : Tab}, TabAll P T → TabOk P T
  | [], _, t, i, h => by simp [tyL] at h
  | (t', i') :: r, h, t, i, hi => by
    simp only [tyL] at hi
    split at hi
    · rename_i e
      subst e
      obtain rfl := Option.some.inj hi
      exact h.1
    · exact tabAll_ok h.2 t i hi
def EnvAll (P : Program) : Env → Prop
  | [] => True
  | (f, c) :: r => CSok P f c ∧ EnvAll P r
theorem envAll_ok : ∀ {G : Env}, EnvAll P G → EnvOk P G
  | [], _, f, c, h => by cases h
  | (f', c') :: r, h, f, c, hm => by
    rcases List.mem_cons.1 hm with e | e
    · obtain ⟨rfl, rfl⟩ := Prod.mk.inj e
      exact h.1
    · exact envAll_ok h.2 f c e

/-- The argument of a law: bytes that came in; few, they read as a list. -/
def CodeB (w : World) (v : Value) : Prop := ∃ a n cap, v = .slice a n cap ∧ (n ≤ 1048576 → ∃ l : List UInt8, rdE w (.bytes l) v)
theorem law_of {T : Tab} {G : Env} {TR : Nat → Tr} {f : FuncId} {fn : Func} (hT : TabOk P T) (hM : P.follows .mixedOrders = true) (hG : EnvOk P G) (hfn : P.funcs[f]? = some fn) (hn : Nat.ble 1 fn.ntmps = true)
    (hbig : ∀ (a : Option Addr) (n c : Nat), 1048576 < n → callP T G 0 [] TR fn [.l (.v (.slice a n c))] [] fun r _ => r = B true) (hcon : Con P f [.inl .bytes] (fun _ K => K (.l (.v (.bool true))))) (v : Value) (w : World) (h : CodeB w v) (hg : Gw w) :
    Calls P f #[v] w fun e w' => e = .returned (.bool true) ∧ Below w.heap.size w w' := by
  obtain ⟨a, n, c, rfl, hl⟩ := h
  by_cases hb : n ≤ 1048576
  · obtain ⟨l, hr⟩ := hl hb
    refine Calls.mono (hcon (l, ()) (fun d => d = .l (.v (.bool true))) rfl w #[.slice a n c] ⟨hr, trivial⟩ hg) ?_
    rintro e w' ⟨d, u, rfl, rfl, hb, bs, h1, _⟩
    obtain ⟨rfl, _⟩ := h1
    exact ⟨rfl, hb⟩
  · have hI : Inv ⟨w, []⟩ [] [] w := ⟨Tch.refl _ _, rfl, fun k t e h => by simp at h, fun i k b h => by simp [ownB] at h⟩
    refine Calls.mono (call_spec (W0 := []) hT ⟨hG, .inr ⟨hg, Gm.nil⟩⟩ hM hfn hI (xs := [.l (.v (.slice a n c))]) (vs := #[.slice a n c]) ⟨⟨rfl, rfl⟩, trivial⟩ (by simpa using hn) (hbig a n c (by omega))) ?_
    rintro e w' ⟨u, r, hp', β', rfl, rfl, h3, hI', _⟩
    obtain ⟨_, rfl⟩ := h3
    exact ⟨rfl, ⟨hI'.kp.os, hI'.kp.tape, hI'.kp.output, hI'.kp.size, fun b hb => hI'.kp.block b hb (by simp)⟩⟩

end
end Ab
end Go.Proofs.YtkhggobpanfkfaaDoor

/-
  The executor once more, so that Lean and its kernel unfold it alike.
-/
namespace Go.Proofs.YtkhggobpanfkfaaDoor
open Go.RowKit
namespace Ab

def opsP : {f : Tab → Env → List Oper → List Oper → Fr → Hp → (Fr → Hp → Prop) → Prop // f = @opsK} := by
  refine ⟨?f, ?h⟩
  rotate_left
  · delta opsK opsK._f
    exact rfl
def opsN := opsP.1
theorem opsN_eq : @opsN = @opsK := opsP.2
def lateP : {f : Tab → Env → List Oper → Nat × List Nat → Nat → Tr → Fr → Hp → (Fr → Hp → Prop) → Prop // f = @lateK} := by
  refine ⟨?f, ?h⟩
  rotate_left
  · delta lateK lateK._f
    exact rfl
def lateN := lateP.1
theorem lateN_eq : @lateN = @lateK := lateP.2
def treeP : {f : Tab → Env → List Oper → Nat × List Nat → Nat → Tr → Fr → Hp → (Fr → Hp → Prop) → Prop // f = @treeK} := by
  refine ⟨?f, ?h⟩
  rotate_left
  · delta treeK treeK._f
    rw [← lateN_eq]
def treeN := treeP.1
theorem treeN_eq : @treeN = @treeK := treeP.2
def execP : {f : Tab → Env → Nat → List Nat → (Nat → Tr) → Code → Go1 // f = @exec} := by
  refine ⟨?f, ?h⟩
  rotate_left
  · delta exec exec._f
    rw [← treeN_eq, ← opsN_eq]
def execN := execP.1
theorem execN_eq : @execN = @exec := execP.2
def callN (T : Tab) (G : Env) (N : Nat) (W0 : List Nat) (TR : Nat → Tr) (fn : Func) (vs0 : List AV) (hp : Hp) (K : AV → Hp → Prop) : Prop := match fn.body with
  | none => False
  | some c => execN T G N W0 TR c (padF fn.ntmps vs0) hp fun e fr' hp' => (match e with
    | .n => outK T fr' hp' fn.results.toList fun r => K r hp'
    | .r => outK T fr' hp' fn.results.toList fun r => K r hp'
    | .x _ => False)
theorem callN_eq : @callN = @callP := by
  funext T G N W0 TR fn vs0 hp K
  unfold callN callP
  rw [execN_eq]
  rfl

theorem la {α : Type _} {a b : List α} : (a ++ b).length = a.length + b.length := List.length_append
theorem ln {α : Type _} : ([] : List α).length = 0 := rfl
theorem lc {α : Type _} {a : α} {l : List α} : (a :: l).length = l.length + 1 := rfl
theorem ld {α : Type _} {n : Nat} {l : List α} : (l.drop n).length = l.length - n := List.length_drop
theorem lt {α : Type _} {n : Nat} {l : List α} : (l.take n).length = min n l.length := List.length_take
theorem ls {α : Type _} {n : Nat} {a : α} {l : List α} : (l.set n a).length = l.length := List.length_set
theorem lna {α : Type _} {l : List α} : [] ++ l = l := rfl
theorem bnF {b : Bool} (h : b = false) (k : b = true) : False := by rw [h] at k; cases k
theorem bnT {b : Bool} (h : b = true) (k : b = false) : False := by rw [h] at k; cases k
section
variable {P : Program}
theorem con_ofN {T : Tab} {G : Env} {TR : Nat → Tr} {f : FuncId} {fn : Func} {sig : List (Sh ⊕ List Sh)} {S : DA sig → (DV → Prop) → Prop} (hT : TabOk P T) (hM : P.follows .mixedOrders = true) (hG : EnvOk P G) (hfn : P.funcs[f]? = some fn) (hn : Nat.ble sig.length fn.ntmps = true)
    (h : ∀ (x : DA sig) (K : DV → Prop), S x K → bdA sig x → frzAK sig x fun vs0 => callN T G 0 [] TR fn vs0 [] fun r hp => ∃ d, matV hp r d ∧ K d) : Con P f sig S := by
  rw [callN_eq] at h
  exact con_of hT hM hG hfn hn h
theorem conB_ofN {T : Tab} {G : Env} {TR : Nat → Tr} {T0 : TypeId} {f : FuncId} {fn : Func} {sig : List (Sh ⊕ List Sh)} {S : Int → DA sig → (DV → Int → Prop) → Prop} (hT : TabOk P T) (hM : P.follows .mixedOrders = true) (hG : EnvOk P G) (hfn : P.funcs[f]? = some fn) (hn : Nat.ble (sig.length + 1) fn.ntmps = true) (hs : scal sig = true)
    (h : ∀ (v0 : Value) (l : List UInt8) (p : Int) (x : DA sig) (K : DV → Int → Prop), l.length ≤ maxL → S p x K → frzAK sig x fun vs0 => callN T G 1 [0] TR fn (.l (.p 0 0) :: vs0) [.b [.fx v0 (.bytes l), .v (.int .i64 p)] T0] fun r hp => ∃ d p', endB v0 l T0 hp p' (matV hp r d) ∧ K d p') : ConB P f T0 sig S := by
  rw [callN_eq] at h
  exact conB_of hT hM hG hfn hn hs h
theorem callN_spec {cx : Cx} {β : List En} {hp : Hp} {w : World} {T : Tab} {G : Env} (hT : TabOk P T) (hM : P.follows .mixedOrders = true) (hG : EnvC P G cx) {W0 : List Nat} {TR : Nat → Tr} {f : FuncId} {fn : Func} (hfn : P.funcs[f]? = some fn) {xs : List AV} {vs : Array Value} {K : AV → Hp → Prop}
    (hI : Inv cx β hp w) (ha : ACs cx β xs vs.toList) (hn : Nat.ble xs.length fn.ntmps = true) (h : callN T G hp.length W0 TR fn xs hp K) :
    Calls P f vs w fun e w' => ∃ v r hp' β', e = .returned v ∧ K r hp' ∧ AC cx β' r v ∧ Inv cx β' hp' w' ∧ Lk β hp w β' hp' w' := by
  rw [callN_eq] at h
  exact call_spec hT hG hM hfn hI ha (by simpa using hn) h
/-- A function that is walked where it is called. -/
def csN (T : Tab) (G : Env) (TR : Nat → Tr) (fn : Func) : CS :=
  { S := fun xs hp K => Side (Nat.ble xs.length fn.ntmps = true) <| natK (lenH hp) fun n => callN T G n [] TR fn xs hp K, tch := fun _ => none }
theorem csN_ok {T : Tab} {G : Env} {TR : Nat → Tr} {f : FuncId} {fn : Func} (hT : TabOk P T) (hM : P.follows .mixedOrders = true) (hG : EnvOk P G) (hfn : P.funcs[f]? = some fn) (hok : (P.funcs[f]?).map (fun fn => (fn.name == "runtime.NumGoroutine", fn.body.isNone)) = some (false, false)) : CSok P f (csN T G TR fn) := by
  have e : csN T G TR fn = csI T G TR fn := by
    unfold csN csI
    rw [callN_eq]
  rw [e]
  exact csI_ok hT hM hG hfn hok
theorem law_ofN {T : Tab} {G : Env} {TR : Nat → Tr} {f : FuncId} {fn : Func} (hT : TabOk P T) (hM : P.follows .mixedOrders = true) (hG : EnvOk P G) (hfn : P.funcs[f]? = some fn) (hn : Nat.ble 1 fn.ntmps = true)
    (hbig : ∀ (a : Option Addr) (n c : Nat), 1048576 < n → callN T G 0 [] TR fn [.l (.v (.slice a n c))] [] fun r _ => r = B true) (hcon : Con P f [.inl .bytes] (fun _ K => K (.l (.v (.bool true))))) (v : Value) (w : World) (h : CodeB w v) (hg : Gw w) :
    Calls P f #[v] w fun e w' => e = .returned (.bool true) ∧ Below w.heap.size w w' := by
  rw [callN_eq] at hbig
  exact law_of hT hM hG hfn hn hbig hcon v w h hg
end
end Ab
end Go.Proofs.YtkhggobpanfkfaaDoor
