/-
  Whole functions: what the abstract walk says of them is what they do. Plain lemmas; the conditions are the types' rows (TIok) and the contracts (CSok).
-/
import Derived.Test.YtacjfkodndkaeaaAbsC
namespace Go.Proofs.Ytacjfkodndkaeaa
open Go.RowKit
namespace Ab
def exOf : Xt → Exit
  | .n => .normal
  | .x id => .exit id
  | .r => .ret

section
variable {P : Program} {cx : Cx} {β : List En} {hp : Hp} {w : World} {β0 : List En} {hp0 : Hp} {w0 : World}

/-- Normally, and no other way. -/
def Qn (Q : Exit → Act → World → Prop) : Exit → Act → World → Prop
  | .normal, a, w => Q .normal a w
  | _, _, _ => False

/-- Places for blocks to come. -/
theorem at_pad {d0 : List Deferred} {fr : Fr} {a : Act} (m : Nat) (hA : At cx β0 hp0 w0 d0 fr hp a w) : At cx β0 hp0 w0 d0 fr (hp ++ List.replicate m .d) a w := by
  obtain ⟨β, hI, hf, hdf, hL⟩ := hA
  have hI1 : Inv cx (β ++ List.replicate m .x) (hp ++ List.replicate m .d) w := by
    refine ⟨⟨hI.kp.os, hI.kp.tape, hI.kp.output, hI.kp.size, hI.kp.block⟩, by simp [hI.len], fun k t e g1 g2 => ?_, fun i j b g1 g2 => ?_⟩
    · by_cases hk : k < hp.length
      · rw [List.getElem?_append_left hk] at g1
        rw [List.getElem?_append_left (by rw [hI.len]; exact hk)] at g2
        refine (hI.ent k t e g1 g2).keep ?_ (fun b hb => rfl)
        intro k e he
        have hlt := (List.getElem?_eq_some_iff.1 he).1
        have hsame : (β ++ List.replicate m En.x)[k]? = some e := by rw [List.getElem?_append_left hlt]; exact he
        cases e with
        | b n => exact hsame
        | r v ver => exact ⟨v, ver, hsame, Nat.le_refl _, fun _ => rfl⟩
        | x => trivial
      · rw [List.getElem?_append_right (by omega)] at g1
        rw [List.getElem?_append_right (by rw [hI.len]; omega)] at g2
        simp only [List.getElem?_replicate] at g1 g2
        split at g1 <;> simp at g1
        split at g2 <;> simp at g2
        subst g1 g2
        trivial
    · have app : ∀ k b, ownB (hp ++ List.replicate m .d) (β ++ List.replicate m .x) k = some b → ownB hp β k = some b := by
        intro k b hb
        obtain ⟨x, e, e1, e2, e3⟩ := ownB_some hb
        by_cases hk : k < hp.length
        · rw [List.getElem?_append_left hk] at e1
          rw [List.getElem?_append_left (by rw [hI.len]; exact hk)] at e2
          rw [ownB_of e1 e2]; exact e3
        · rw [List.getElem?_append_right (by omega)] at e1
          simp only [List.getElem?_replicate] at e1
          split at e1 <;> simp at e1
          subst e1
          simp [ownE] at e3
      exact hI.dis i j b (app i b g1) (app j b g2)
  have hx1 : Ext β (β ++ List.replicate m .x) := by
    intro k e he
    have hlt := (List.getElem?_eq_some_iff.1 he).1
    have hsame : (β ++ List.replicate m En.x)[k]? = some e := by rw [List.getElem?_append_left hlt]; exact he
    cases e with
    | b n => exact hsame
    | r v ver => exact ⟨v, ver, hsame, Nat.le_refl _, fun _ => rfl⟩
    | x => trivial
  have hown : ∀ k, ownB (hp ++ List.replicate m .d) (β ++ List.replicate m .x) k = ownB hp β k := by
    intro k
    by_cases hk : k < hp.length
    · unfold ownB
      rw [List.getElem?_append_left hk, List.getElem?_append_left (by rw [hI.len]; exact hk)]
    · rw [ownB_none (by simp; omega : hp[k]? = none)]
      by_cases hk2 : k < hp.length + m
      · have : (hp ++ List.replicate m HB.d)[k]? = some .d := by
          rw [List.getElem?_append_right (by omega), List.getElem?_replicate, if_pos (by omega)]
        exact ownB_d this
      · exact ownB_none (by simp; omega)
  have hL1 : Lk β0 hp0 w0 (β ++ List.replicate m .x) (hp ++ List.replicate m .d) w := by
    refine ⟨fun k e hk he => ?_, fun k b hb => hL.om k b (by rw [← hown]; exact hb), hL.size, by have := hL.len; simp; omega, hL.tch⟩
    have h1 := hL.ext k e hk he
    cases e with
    | b n => exact hx1 k _ h1
    | r v ver =>
      obtain ⟨v', ver', h2, h3, h4⟩ := h1
      obtain ⟨v2, ver2, h5, h6, h7⟩ := hx1 k _ h2
      exact ⟨v2, ver2, h5, Nat.le_trans h3 h6, fun e => (h7 (by omega)).trans (h4 (by omega))⟩
    | x => trivial
  exact ⟨_, hI1, hf.ext hx1, hdf, hL1⟩

theorem exec_spec {T : Tab} {G : Env} (hT : TabOk P T) (hG : EnvOk P G) (hM : P.follows .mixedOrders = true) {W0 : List Nat} {TR : Nat → Tr} {d0 : List Deferred} :
    ∀ (c : Code) (K : Xt → Fr → Hp → Prop) (Q : Exit → Act → World → Prop) (fr : Fr) (hp : Hp) (a : Act) (w : World), (∀ e fr hp a w, K e fr hp → At cx β0 hp0 w0 d0 fr hp a w → Q (exOf e) a w) →
      At cx β0 hp0 w0 d0 fr hp a w → exec T G hp0.length W0 TR c fr hp K → c.wp P Q a w := by
  intro c
  induction c with
  | skip => intro K Q fr hp a w hQ hA h; exact wp_skip (hQ .n fr hp a w h hA)
  | region id ops draw =>
    intro K Q fr hp a w hQ hA h
    cases draw with
    | false =>
      refine wp_region ?_
      have := ops_spec (β0 := β0) (hp0 := hp0) (w0 := w0) (cx := cx) (d0 := d0) hT hG (Q := Q) (K := fun fr' hp' => K .n fr' hp') (fun fr hp a w hk hA => hQ .n fr hp a w hk hA) ops.toList 0 fr hp a w rfl hA h
      rwa [List.range_eq_range', ← Array.length_toList]
    | true =>
      obtain ⟨hok, h1⟩ := side_iff.1 h
      simp only [regOk, Bool.and_eq_true, Nat.beq_eq] at hok
      obtain ⟨⟨⟨o1, o2⟩, o3⟩, o4⟩ := hok
      have h2 := natK_iff.1 (rsvK_iff.1 h1)
      have h3 := natsK_iff.1 h2
      rw [lenH_eq] at h3
      obtain ⟨β, hI, hf, hdf, hL⟩ := hA
      generalize hm : newsB ops.toList ops.size = m at h3
      -- the world in which the region begins, its blocks to come reserved
      have hI1 : Inv cx (β ++ List.replicate m .x) (hp ++ List.replicate m .d) w.drew := by
        refine ⟨⟨hI.kp.os, hI.kp.tape, hI.kp.output, hI.kp.size, hI.kp.block⟩, by simp [hI.len], fun k t e g1 g2 => ?_, fun i j b g1 g2 => ?_⟩
        · by_cases hk : k < hp.length
          · rw [List.getElem?_append_left hk] at g1
            rw [List.getElem?_append_left (by rw [hI.len]; exact hk)] at g2
            refine (hI.ent k t e g1 g2).keep ?_ (fun b hb => rfl)
            intro k e he
            have hlt := (List.getElem?_eq_some_iff.1 he).1
            have hsame : (β ++ List.replicate m En.x)[k]? = some e := by rw [List.getElem?_append_left hlt]; exact he
            cases e with
            | b n => exact hsame
            | r v ver => exact ⟨v, ver, hsame, Nat.le_refl _, fun _ => rfl⟩
            | x => trivial
          · rw [List.getElem?_append_right (by omega)] at g1
            rw [List.getElem?_append_right (by rw [hI.len]; omega)] at g2
            simp only [List.getElem?_replicate] at g1 g2
            split at g1 <;> simp at g1
            split at g2 <;> simp at g2
            subst g1 g2
            trivial
        · have app : ∀ k b, ownB (hp ++ List.replicate m .d) (β ++ List.replicate m .x) k = some b → ownB hp β k = some b := by
            intro k b hb
            obtain ⟨x, e, e1, e2, e3⟩ := ownB_some hb
            by_cases hk : k < hp.length
            · rw [List.getElem?_append_left hk] at e1
              rw [List.getElem?_append_left (by rw [hI.len]; exact hk)] at e2
              rw [ownB_of e1 e2]; exact e3
            · rw [List.getElem?_append_right (by omega)] at e1
              simp only [List.getElem?_replicate] at e1
              split at e1 <;> simp at e1
              subst e1
              simp [ownE] at e3
          exact hI.dis i j b (app i b g1) (app j b g2)
      have hx1 : Ext β (β ++ List.replicate m .x) := by
        intro k e he
        have hlt := (List.getElem?_eq_some_iff.1 he).1
        have hsame : (β ++ List.replicate m En.x)[k]? = some e := by rw [List.getElem?_append_left hlt]; exact he
        cases e with
        | b n => exact hsame
        | r v ver => exact ⟨v, ver, hsame, Nat.le_refl _, fun _ => rfl⟩
        | x => trivial
      have hown : ∀ k, ownB (hp ++ List.replicate m .d) (β ++ List.replicate m .x) k = ownB hp β k := by
        intro k
        by_cases hk : k < hp.length
        · unfold ownB
          rw [List.getElem?_append_left hk, List.getElem?_append_left (by rw [hI.len]; exact hk)]
        · rw [ownB_none (by simp; omega : hp[k]? = none)]
          by_cases hk2 : k < hp.length + m
          · have : (hp ++ List.replicate m HB.d)[k]? = some .d := by
              rw [List.getElem?_append_right (by omega), List.getElem?_replicate, if_pos (by omega)]
            exact ownB_d this
          · exact ownB_none (by simp; omega)
      have hL1 : Lk β0 hp0 w0 (β ++ List.replicate m .x) (hp ++ List.replicate m .d) w.drew := by
        refine ⟨fun k e hk he => ?_, fun k b hb => hL.om k b (by rw [← hown]; exact hb), hL.size, by have := hL.len; simp; omega, hL.tch⟩
        have h1 := hL.ext k e hk he
        cases e with
        | b n => exact hx1 k _ h1
        | r v ver =>
          obtain ⟨v', ver', h2, h3, h4⟩ := h1
          obtain ⟨v2, ver2, h5, h6, h7⟩ := hx1 k _ h2
          exact ⟨v2, ver2, h5, Nat.le_trans h3 h6, fun e => (h7 (by omega)).trans (h4 (by omega))⟩
        | x => trivial
      have hn1 : ∀ k, hp.length ≤ k → ownB (hp ++ List.replicate m .d) (β ++ List.replicate m .x) k = none := fun k hk => by
        rw [hown]; exact ownB_none (by simp; omega)
      have hE := tree_spec (β0 := β0) (hp0 := hp0) (w0 := w0) (d0 := d0) hT hG (ops := ops) (Q := Qn Q) (n := hp.length) hI1 hn1 (TR id) (fun fr' hp' => K .n fr' hp') fr _ _ a w.drew (fun fr hp a w hk hA => hQ .n fr hp a w hk hA) hI1
        (hf.ext hx1) hdf hL1 ⟨fun k b hb => .inl hb, fun k _ _ => rfl, Nat.le_refl _, by simp⟩ h3
      refine wp_mono (wp_region_E (pOf w.drew.heap.size _ (β ++ List.replicate m .x) (hp ++ List.replicate m .d)) (TR id) hM o1 o2 o3 o4 (fun c a d v w hq => hq.elim) hE) ?_
      intro e a w h
      cases e <;> first | exact h | exact h.elim
  | seq x y ihx ihy =>
    intro K Q fr hp a w hQ hA h
    refine wp_seq (ihx _ _ fr hp a w ?_ hA h)
    intro e fr' hp' a' w' hk hA'
    cases e with
    | n => exact ihy K Q fr' hp' a' w' hQ hA' hk
    | x id => exact hQ (.x id) fr' hp' a' w' hk hA'
    | r => exact hQ .r fr' hp' a' w' hk hA'
  | cond c x y ihx ihy =>
    intro K Q fr hp a w hQ hA h
    obtain ⟨β, hI, hf, hdf, hL⟩ := hA
    obtain ⟨r, h1, h2⟩ := ev_spec hf h
    split at h1
    · rename_i t
      rw [br_iff] at h1
      exact wp_cond_split h2.2 (fun ht => ihx K Q fr hp a w hQ ⟨β, hI, hf, hdf, hL⟩ (h1.1 ht)) (fun ht => ihy K Q fr hp a w hQ ⟨β, hI, hf, hdf, hL⟩ (h1.2 ht))
    · exact h1.elim
  | block id c ih =>
    intro K Q fr hp a w hQ hA h
    refine wp_block (ih _ _ fr hp a w ?_ hA h)
    intro e fr' hp' a' w' hk hA'
    cases e with
    | n => exact hQ .n fr' hp' a' w' hk hA'
    | r => exact hQ .r fr' hp' a' w' hk hA'
    | x id' =>
      show (if id' = id then Q .normal a' w' else Q (.exit id') a' w')
      cases hb : Nat.beq id' id with
      | true =>
        simp only [hb] at hk
        rw [if_pos (Nat.eq_of_beq_eq_true hb)]
        exact hQ .n fr' hp' a' w' hk hA'
      | false =>
        simp only [hb] at hk
        rw [if_neg (fun e => by rw [e] at hb; simp at hb)]
        exact hQ (.x id') fr' hp' a' w' hk hA'
  | loop c ih =>
    intro K Q fr hp a w hQ hA h
    cases h with
    | it n h =>
      refine wp_loop_x (σ := Nat) (fun n a w => ∃ fr hp, At cx β0 hp0 w0 d0 fr hp a w ∧ iterK (exec T G hp0.length W0 TR c) n fr hp K) id n ⟨fr, hp, hA, h⟩ ?_
      rintro n a w ⟨fr, hp, hA, h⟩
      cases n with
      | zero => exact h.elim
      | succ n =>
        refine ih _ _ fr hp a w ?_ hA h
        intro e fr' hp' a' w' hk hA'
        cases e with
        | n => exact ⟨n, ⟨fr', hp', hA', hk⟩, Nat.lt_succ_self n⟩
        | x id => exact hQ (.x id) fr' hp' a' w' hk hA'
        | r => exact hQ .r fr' hp' a' w' hk hA'
    | inv σ u v μ x0 ρ h0 h =>
      refine wp_loop_x (σ := σ) (fun x a w => ∃ ft ht, headO (wrs c) fr hp (u x) (v x) = some (ft, ht) ∧ At cx β0 hp0 w0 d0 ft ht a w) μ x0 ?_ ?_
      · obtain ⟨ft, ht, h1, h2⟩ := headK_iff.1 h0
        obtain ⟨β, hI, hf, hdf, hL⟩ := hA
        obtain ⟨β', g1, g2, g3⟩ := cov_spec h2 hI hf hL
        exact ⟨ft, ht, h1, β', g1, g2, hdf, g3⟩
      · rintro x a w ⟨ft, ht, h1, hA'⟩
        obtain ⟨ft', ht', h2, h3⟩ := headK_iff.1 (h x)
        rw [h1] at h2
        simp only [Option.some.injEq, Prod.mk.injEq] at h2
        obtain ⟨rfl, rfl⟩ := h2
        refine ih _ _ ft ht a w ?_ hA' h3
        intro e fr' hp' a' w' hk hA''
        cases e with
        | n =>
          obtain ⟨x', ρ', hlt, h4⟩ := hk
          obtain ⟨ft2, ht2, h5, h6⟩ := headK_iff.1 h4
          obtain ⟨β, hI, hf, hdf, hL⟩ := hA''
          obtain ⟨β', g1, g2, g3⟩ := cov_spec h6 hI hf hL
          exact ⟨x', ⟨ft2, ht2, h5, β', g1, g2, hdf, g3⟩, hlt⟩
        | x id => exact hQ (.x id) fr' hp' a' w' hk hA''
        | r => exact hQ .r fr' hp' a' w' hk hA''
    | invP m σ u v μ x0 ρ h0 h =>
      replace hA := at_pad m hA
      simp only [rsvK_iff] at h0 h
      refine wp_loop_x (σ := σ) (fun x a w => ∃ ft ht, headO (wrs c) fr (hp ++ List.replicate m .d) (u x) (v x) = some (ft, ht) ∧ At cx β0 hp0 w0 d0 ft ht a w) μ x0 ?_ ?_
      · obtain ⟨ft, ht, h1, h2⟩ := headK_iff.1 h0
        obtain ⟨β, hI, hf, hdf, hL⟩ := hA
        obtain ⟨β', g1, g2, g3⟩ := cov_spec h2 hI hf hL
        exact ⟨ft, ht, h1, β', g1, g2, hdf, g3⟩
      · rintro x a w ⟨ft, ht, h1, hA'⟩
        obtain ⟨ft', ht', h2, h3⟩ := headK_iff.1 (h x)
        rw [h1] at h2
        simp only [Option.some.injEq, Prod.mk.injEq] at h2
        obtain ⟨rfl, rfl⟩ := h2
        refine ih _ _ ft ht a w ?_ hA' h3
        intro e fr' hp' a' w' hk hA''
        cases e with
        | n =>
          obtain ⟨x', ρ', hlt, h4⟩ := hk
          obtain ⟨ft2, ht2, h5, h6⟩ := headK_iff.1 h4
          obtain ⟨β, hI, hf, hdf, hL⟩ := hA''
          obtain ⟨β', g1, g2, g3⟩ := cov_spec h6 hI hf hL
          exact ⟨x', ⟨ft2, ht2, h5, β', g1, g2, hdf, g3⟩, hlt⟩
        | x id => exact hQ (.x id) fr' hp' a' w' hk hA''
        | r => exact hQ .r fr' hp' a' w' hk hA''
  | exit id => intro K Q fr hp a w hQ hA h; exact wp_exit (hQ (.x id) fr hp a w h hA)
  | ret => intro K Q fr hp a w hQ hA h; exact wp_ret (hQ .r fr hp a w h hA)
  | _ => intro K Q fr hp a w hQ hA h; exact h.elim

/-! ### Results -/
def resS (a : Act) (r : ResultVar) : Sem Value := match r with
  | .tmp t => pure (a.tmps.getD t undef)
  | .cell b t => do loadVar t (← asAddr (a.tmps.getD b undef))
theorem results_eq (fn : Func) (a : Act) : results fn a.tmps = (do
    let vs ← fn.results.mapM (resS a)
    pure (if h : vs.size = 1 then vs[0] else .tuple vs)) := by
  unfold results
  congr 1

theorem res_spec {T : Tab} (hT : TabOk P T) {fr : Fr} {a : Act} (hI : Inv cx β hp w) (hf : FR cx β fr a.tmps) {r : ResultVar} {K : AV → Prop} (h : resK T fr hp r K) :
    ∃ x, K x ∧ ∃ v, AC cx β x v ∧ (resS a r).run P w = .ok v w := by
  cases r with
  | tmp t =>
    obtain ⟨x, h1, h2⟩ := getF_iff.1 h
    exact ⟨x, h2, _, hf.2 t x h1, rfl⟩
  | cell b t =>
    obtain ⟨x, h1, v, h2, h3⟩ := soft_spec (o := { dst := none, op := .load t (.tmp b), type := 0, pos := "", after := #[], guard := none }) hT hI hf h
    refine ⟨x, h1, v, h2, ?_⟩
    have h4 := h3 w rfl
    simp only [execOp, Act.eval, resS] at h4 ⊢
    cases hv : a.tmps.getD b undef <;> rw [hv] at h4 <;> first | (simp [Instr.loadAt, Instr.sureAddr, stuck, Sem.run] at h4; done) | skip
    rename_i ad
    cases ad with
    | none => simp [Instr.loadAt, Instr.sureAddr, stuck, Sem.run] at h4
    | some ad =>
      simp only [Instr.loadAt, Instr.sureAddr, Sem.run_bind, Sem.run_pure, Result.andThen_ok, asAddr] at h4 ⊢
      cases hl : (loadVar t ad).run P w with
      | ok u w' =>
        rw [hl] at h4
        simp at h4
        rw [h4.1, h4.2]
      | halt x w' => rw [hl] at h4; simp at h4

theorem resOf_spec {x : AV} {v : Value} {K : (LV ⊕ List LV) → Prop} (h : resOf x K) (hx : AC cx β x v) : ∃ y, K y ∧ ∀ ys vs, TCs cx β ys vs → TCs cx β (y :: ys) (v :: vs) := by
  unfold resOf at h
  split at h
  · exact ⟨_, h, fun ys vs ht => ⟨hx, ht⟩⟩
  · exact ⟨_, h, fun ys vs ht => ⟨hx, ht⟩⟩
  · exact h.elim

theorem ress_spec {T : Tab} (hT : TabOk P T) {fr : Fr} {a : Act} (hI : Inv cx β hp w) (hf : FR cx β fr a.tmps) : ∀ {rs : List ResultVar} {K : List (LV ⊕ List LV) → Prop} (acc : Array Value), ressK T fr hp rs K →
    ∃ xs, K xs ∧ ∃ vs : List Value, TCs cx β xs vs ∧ vs.length = rs.length ∧ (rs.foldlM (fun (b : Array Value) (r : ResultVar) => b.push <$> (resS a r)) acc).run P w = .ok (acc ++ vs.toArray) w
  | [], K, acc, h => ⟨[], h, [], trivial, rfl, by simp⟩
  | r :: rs, K, acc, h => by
    obtain ⟨x, h1, v, h2, h3⟩ := res_spec hT hI hf h
    obtain ⟨y, h4, h5⟩ := resOf_spec h1 h2
    obtain ⟨xs, h6, vs, h7, h8, h9⟩ := ress_spec hT hI hf (acc.push v) h4
    refine ⟨y :: xs, h6, v :: vs, h5 _ _ h7, by simp [h8], ?_⟩
    rw [List.foldlM_cons]
    change Sem.run P (((resS a r) >>= fun c => pure (acc.push c)) >>= fun b => rs.foldlM _ b) w = _
    rw [Sem.run_bind, Sem.run_bind, h3]
    simp only [Result.andThen_ok, Sem.run_pure]
    rw [h9]
    simp

theorem out_spec {T : Tab} (hT : TabOk P T) {fr : Fr} {a : Act} {fn : Func} (hI : Inv cx β hp w) (hf : FR cx β fr a.tmps) {K : AV → Prop} (h : outK T fr hp fn.results.toList K) : ∃ x, K x ∧ ∃ v, AC cx β x v ∧ (results fn a.tmps).run P w = .ok v w := by
  have run : ∀ (vs : List Value), (fn.results.toList.foldlM (fun (b : Array Value) (r : ResultVar) => b.push <$> (resS a r)) #[]).run P w = .ok vs.toArray w → (results fn a.tmps).run P w = .ok (if h : vs.toArray.size = 1 then vs.toArray[0] else .tuple vs.toArray) w := by
    intro vs hv
    rw [results_eq, Sem.run_bind, Array.mapM_eq_foldlM, ← Array.foldlM_toList]
    rw [hv, Result.andThen_ok]
    rfl
  unfold outK at h
  split at h
  · rename_i r hr
    obtain ⟨x, h1, v, h2, h3⟩ := res_spec hT hI hf h
    refine ⟨x, h1, v, h2, ?_⟩
    refine run [v] ?_
    rw [hr, List.foldlM_cons]
    change Sem.run P (((resS a r) >>= fun c => pure ((#[] : Array Value).push c)) >>= fun b => pure b) w = _
    rw [Sem.run_bind, Sem.run_bind, h3]
    simp
  · rename_i rs hrs
    obtain ⟨xs, h1, vs, h2, h3, h4⟩ := ress_spec hT hI hf #[] h
    have h5 := run vs (by simpa using h4)
    refine ⟨_, h1, .tuple vs.toArray, ⟨_, rfl, by simpa using h2⟩, ?_⟩
    rw [h5, dif_neg]
    intro e
    have hl : vs.length = 1 := by simpa using e
    rw [h3] at hl
    obtain ⟨r, hr⟩ := List.length_eq_one_iff.1 hl
    exact hrs r hr

theorem pad_len : ∀ (n : Nat) (xs : Fr), xs.length ≤ n → (padF n xs).length = n
  | 0, xs, h => by simpa [padF] using h
  | n + 1, [], _ => by simp [padF, pad_len n [] (by simp)]
  | n + 1, _ :: xs, h => by simp [padF, pad_len n xs (by simpa using h)]
theorem pad_get : ∀ (n : Nat) (xs : Fr) (i : Nat) (x : AV), (padF n xs)[i]? = some x → xs[i]? = some x ∨ x = .j
  | 0, xs, i, x, h => .inl h
  | n + 1, [], 0, x, h => by simp [padF] at h; exact .inr h.symm
  | n + 1, [], i + 1, x, h => by
    rcases pad_get n [] i x (by simpa [padF] using h) with h | h
    · simp at h
    · exact .inr h
  | n + 1, y :: xs, 0, x, h => by simp [padF] at h; exact .inl (by simp [h])
  | n + 1, y :: xs, i + 1, x, h => by simpa using pad_get n xs i x (by simpa [padF] using h)
theorem ACs.get : ∀ {xs : List AV} {vs : List Value} {i : Nat} {x : AV}, ACs cx β xs vs → xs[i]? = some x → ∃ v, vs[i]? = some v ∧ AC cx β x v
  | [], _, _, _, _, h => by simp at h
  | _ :: _, [], _, _, hc, _ => hc.elim
  | y :: xs, v :: vs, 0, x, hc, h => by simp at h; subst h; exact ⟨v, rfl, hc.1⟩
  | y :: xs, v :: vs, i + 1, x, hc, h => by
    obtain ⟨u, h1, h2⟩ := ACs.get hc.2 (i := i) (by simpa using h)
    exact ⟨u, by simpa using h1, h2⟩
theorem ACs.length : ∀ {xs : List AV} {vs : List Value}, ACs cx β xs vs → xs.length = vs.length
  | [], [], _ => rfl
  | _ :: _, _ :: _, h => by simp [ACs.length h.2]
  | [], _ :: _, h => h.elim
  | _ :: _, [], h => h.elim

/-- A function, entered. -/
theorem call_spec {T : Tab} {G : Env} (hT : TabOk P T) (hG : EnvOk P G) (hM : P.follows .mixedOrders = true) {W0 : List Nat} {TR : Nat → Tr} {f : FuncId} {fn : Func} (hfn : P.funcs[f]? = some fn) {xs : List AV} {vs : Array Value} {K : AV → Hp → Prop}
    (hI : Inv cx β hp w) (ha : ACs cx β xs vs.toList) (hn : xs.length ≤ fn.ntmps) (h : callP T G hp.length W0 TR fn xs hp K) :
    Calls P f vs w fun e w' => ∃ v r hp' β', e = .returned v ∧ K r hp' ∧ AC cx β' r v ∧ Inv cx β' hp' w' ∧ Lk β hp w β' hp' w' := by
  unfold callP at h
  split at h
  · exact h.elim
  · rename_i c hc
    have hl : xs.length = vs.size := by rw [ha.length]; simp
    refine calls_of_wp hfn hc (exec_spec (β0 := β) (hp0 := hp) (w0 := w) (cx := cx) (d0 := []) hT hG hM c _ _ _ hp _ w ?_ ⟨β, hI, ⟨?_, fun i x hi => ?_⟩, rfl, ⟨fun k e _ he => ?_, fun k b hb => ?_, Nat.le_refl _, Nat.le_refl _, fun _ _ _ => rfl⟩⟩ h)
    · intro e fr hp' a w' hk hA
      obtain ⟨β', hI', hf', hdf, hL⟩ := hA
      cases e with
      | n =>
        obtain ⟨r, h1, v, h2, h3⟩ := out_spec hT hI' hf' hk
        exact ⟨hdf, v, h3, v, r, hp', β', rfl, h1, h2, hI', hL⟩
      | r =>
        obtain ⟨r, h1, v, h2, h3⟩ := out_spec hT hI' hf' hk
        exact ⟨hdf, v, h3, v, r, hp', β', rfl, h1, h2, hI', hL⟩
      | x id => exact hk.elim
    · rw [pad_len _ _ hn]; simp; omega
    · rcases pad_get _ _ i x hi with h1 | rfl
      · obtain ⟨v, h2, h3⟩ := ha.get h1
        have hlt : i < vs.size := by
          have := (List.getElem?_eq_some_iff.1 h2).1
          simpa using this
        have : (vs ++ Array.replicate (fn.ntmps - vs.size) undef).getD i undef = v := by
          have h4 : vs[i]? = some v := by simpa using h2
          simp [Array.getD_eq_getD_getElem?, Array.getElem?_append_left hlt, h4]
        rw [this]
        exact h3
      · trivial
    · cases e with
      | b n => exact he
      | r v ver => exact ⟨v, ver, he, Nat.le_refl _, fun _ => rfl⟩
      | x => trivial
    · obtain ⟨x, e, h1, _, _⟩ := ownB_some hb
      exact .inl ⟨(List.getElem?_eq_some_iff.1 h1).1, hb⟩

end
end Ab
end Go.Proofs.Ytacjfkodndkaeaa
