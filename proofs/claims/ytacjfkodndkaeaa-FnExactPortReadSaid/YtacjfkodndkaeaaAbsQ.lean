/-
  The soft operations, all in one: what the abstract walk says of them is what they answer. Plain lemmas; the conditions are the types' rows (TIok).
-/
import Derived.Test.YtacjfkodndkaeaaAbsP
namespace Go.Proofs.Ytacjfkodndkaeaa
open Go.RowKit
namespace Ab
section
variable {P : Program} {cx : Cx} {β : List En} {hp : Hp} {w : World}

/-- The fields of a struct, as the row has them. -/
theorem struct_row {t : TypeId} {fs : List (Nat × Nat × Bool)} (h : KOk P t (.struct fs)) : ∃ g, P.underlying t = some (.struct g) ∧ g.toList.map (fun f => (f.offset, (P.info? f.type).map (·.size), (P.underlying f.type).map aggD)) = fs.map fun x => (x.1, some x.2.1, some x.2.2) := by
  obtain ⟨h, _⟩ := h
  cases hu : P.underlying t with
  | none => rw [hu] at h; cases h
  | some d =>
    rw [hu] at h
    cases d <;> simp only [Option.bind_some] at h <;> first | (cases h; done) | skip
    exact ⟨_, rfl, Option.some.inj h⟩
theorem struct_field {t : TypeId} {fs : List (Nat × Nat × Bool)} (h : KOk P t (.struct fs)) {i o s : Nat} {ag : Bool} (hi : fs[i]? = some (o, s, ag)) :
    ∃ g f, P.underlying t = some (.struct g) ∧ g[i]? = some f ∧ f.offset = o ∧ (P.info? f.type).map (·.size) = some s ∧ (P.underlying f.type).map aggD = some ag ∧ s ≠ 0 := by
  obtain ⟨g, hg, he⟩ := struct_row h
  have h1 := congrArg (fun l => l[i]?) he
  simp only [List.getElem?_map, hi, Option.map_some] at h1
  obtain ⟨f, hf, e⟩ := Option.map_eq_some_iff.1 h1
  simp only [Prod.mk.injEq] at e
  refine ⟨g, f, hg, by simpa using hf, e.1, e.2.1, e.2.2, ?_⟩
  have := List.all_eq_true.1 h.2 _ (List.mem_of_getElem? hi)
  simpa using this

theorem run_field {t : TypeId} {fs : List (Nat × Nat × Bool)} (h : KOk P t (.struct fs)) {i o s : Nat} {ag : Bool} (hi : fs[i]? = some (o, s, ag)) (g off : Nat) (w : World) :
    (Instr.fieldAt t (.pointer (some ⟨g, off, none⟩)) i).run P w = .ok (.pointer (some ⟨g, off + o, none⟩)) w := by
  obtain ⟨fl, f, h1, h2, h3, h4, h5, h6⟩ := struct_field h hi
  subst h3
  simp [Instr.fieldAt, run_underlying h1, h2, Instr.sureAddr, fieldPlace, run_sz h4, h6, addr_add]

theorem cut_part {t : TypeId} {n : Nat} {g : Bool} (hg : (P.underlying t).map aggD = some g) (hs : (P.info? t).map (·.size) = some n) {cs : List LV} {us : Array Value} {off : Nat} {K : AV → Prop} (hcs : LCs cx β cs us.toList) (h : cutK cs off n g K) :
    ∃ r, K r ∧ ∃ v, AC cx β r v ∧ ∀ w, (part t us off).run P w = .ok v w := by
  obtain ⟨h1, h⟩ := dropK_iff.1 h
  obtain ⟨h2, h⟩ := takeK_iff.1 h
  have hl := (hcs.drop off).take n
  cases g with
  | true =>
    refine ⟨_, h, .agg (us.extract off (off + n)), ⟨_, rfl, ?_⟩, fun w => ?_⟩
    · simpa [Array.toList_extract, List.extract_eq_take_drop] using hl
    · simp [part, run_ag hg, run_sz hs]
  | false =>
    dsimp only at h
    split at h
    · rename_i x hx
      rw [hx] at hl
      cases hu : (us.toList.drop off).take n with
      | nil => rw [hu] at hl; exact hl.elim
      | cons v vs =>
        rw [hu] at hl
        refine ⟨_, h, v, hl.1, fun w => ?_⟩
        have h0 : us[off]? = some v := by
          have := congrArg (fun l => l[0]?) hu
          simp only [List.getElem?_cons_zero, List.getElem?_take, List.getElem?_drop, Nat.add_zero] at this
          split at this
          · simpa using this
          · cases this
        simp [part, run_ag hg, h0]
    · exact h.elim

theorem run_places : ∀ (l : List Field) (fs : List (Nat × Nat × Bool)) (acc : Array (Nat × Nat)), l.map (fun f => (f.offset, (P.info? f.type).map (·.size), (P.underlying f.type).map aggD)) = fs.map (fun x => (x.1, some x.2.1, some x.2.2)) → ∀ w : World,
    (l.foldlM (fun (b : Array (Nat × Nat)) (f : Field) => b.push <$> (do pure (f.offset, ← sizeOf f.type) : Sem (Nat × Nat))) acc).run P w = .ok (acc ++ (fs.map fun x => (x.1, x.2.1)).toArray) w
  | [], [], acc, _, w => by simp
  | f :: l, x :: fs, acc, h, w => by
    simp only [List.map_cons, List.cons.injEq, Prod.mk.injEq] at h
    obtain ⟨⟨h1, h2, h3⟩, h4⟩ := h
    rw [List.foldlM_cons]
    have ih := run_places l fs (acc.push (x.1, x.2.1)) h4
    change Sem.run P (((do pure (f.offset, ← sizeOf f.type) : Sem (Nat × Nat)) >>= fun c => pure (acc.push c)) >>= fun b => l.foldlM _ b) w = _
    simp only [Sem.run_bind, run_sz h2, Result.andThen_ok, Sem.run_pure, h1, ih w]
    congr 1
    simp
  | [], _ :: _, _, h, _ => by simp at h
  | _ :: _, [], _, h, _ => by simp at h

theorem fold_set : ∀ (vs : List Value) (cells : Array Value) (off j : Nat), off + j + vs.length ≤ cells.size →
    ((vs.zipIdx j).foldl (fun cs (x : Value × Nat) => cs.setIfInBounds (off + x.2) x.1) cells).toList = cells.toList.take (off + j) ++ vs ++ cells.toList.drop (off + j + vs.length)
  | [], cells, off, j, _ => by simp
  | v :: vs, cells, off, j, h => by
    simp only [List.length_cons] at h
    simp only [List.zipIdx_cons, List.foldl_cons]
    rw [fold_set vs _ off (j + 1) (by simp; omega)]
    have e := list_seg_step cells.toList (off + j) v vs (by simp; omega)
    simp only [Array.toList_setIfInBounds]
    rw [← Nat.add_assoc]
    simpa [Nat.add_assoc, Nat.add_comm 1] using e

theorem fill_spec {fr : Fr} {a : Act} (hf : FR cx β fr a.tmps) {fs : List (Nat × Nat × Bool)} : ∀ (parts : List (Nat × Operand)) (cs : List LV) (us : Array Value) (K : List LV → Prop), LCs cx β cs us.toList → fillK fr fs parts cs K →
    ∃ cs', K cs' ∧ ∃ us', LCs cx β cs' us'.toList ∧ Instr.fill ((fs.map fun x => (x.1, x.2.1)).toArray[·]?) us (parts.map fun x => (x.1, a.eval x.2)) = some us'
  | [], cs, us, K, hc, h => ⟨cs, h, us, hc, rfl⟩
  | (i, x) :: parts, cs, us, K, hc, h => by
    obtain ⟨o, s, g, h1, h2⟩ := fldK_iff.1 h
    obtain ⟨r, h3, h4⟩ := ev_spec hf h2
    have hcells : ∃ vs, lenK vs s (replK cs o vs fun cs' => fillK fr fs parts cs' K) ∧ LCs cx β vs (a.eval x).cells.toList := by
      unfold cellsK at h3
      split at h3
      · refine ⟨_, h3, ?_⟩
        have h5 : LC cx β _ (a.eval x) := h4
        have h6 : (a.eval x).cells = #[a.eval x] := by
          have := h5.1
          cases hv : a.eval x <;> first | rfl | (rw [hv] at this; cases this)
        rw [h6]
        exact ⟨h5, trivial⟩
      · obtain ⟨us', e, h5⟩ := h4
        exact ⟨_, h3, by rw [e]; exact h5⟩
      · exact h3.elim
    obtain ⟨vs, h5, h6⟩ := hcells
    obtain ⟨h7, h8⟩ := lenK_iff.1 h5
    obtain ⟨h9, h10⟩ := replK_iff.1 h8
    have hl : vs.length = (a.eval x).cells.size := by rw [h6.length]; simp
    have hsz : us.size = cs.length := by rw [hc.length]; simp
    have hset := fold_set (a.eval x).cells.toList us o 0 (by simp; omega)
    have hnew : LCs cx β (cs.take o ++ vs ++ cs.drop (o + vs.length)) ((a.eval x).cells.zipIdx.foldl (fun cs (x : Value × Nat) => cs.setIfInBounds (o + x.2) x.1) us).toList := by
      rw [← Array.foldl_toList, Array.toList_zipIdx, hset]
      simp only [Nat.add_zero, Array.length_toList]
      rw [← hl]
      exact LCs.append (LCs.append (hc.take o) h6) (hc.drop _)
    obtain ⟨cs', h11, us', h12, h13⟩ := fill_spec hf parts _ _ K hnew h10
    refine ⟨cs', h11, us', h12, ?_⟩
    simp only [List.map_cons, Instr.fill]
    have hp : (fs.map fun x => (x.1, x.2.1)).toArray[i]? = some (o, s) := by simp [h1]
    rw [hp]
    simp only
    rw [if_neg (by simp; omega)]
    exact h13

theorem fillA_spec {fr : Fr} {a : Act} (hf : FR cx β fr a.tmps) {esz : Nat} : ∀ (parts : List (Nat × Operand)) (cs : List LV) (us : Array Value) (K : List LV → Prop), LCs cx β cs us.toList → fillAK fr esz parts cs K →
    ∃ cs', K cs' ∧ ∃ us', LCs cx β cs' us'.toList ∧ Instr.fill (fun i => some (i * esz, esz)) us (parts.map fun x => (x.1, a.eval x.2)) = some us'
  | [], cs, us, K, hc, h => ⟨cs, h, us, hc, rfl⟩
  | (i, x) :: parts, cs, us, K, hc, h => by
    obtain ⟨r, h3, h4⟩ := ev_spec hf h
    have hcells : ∃ vs, lenK vs esz (replK cs (i * esz) vs fun cs' => fillAK fr esz parts cs' K) ∧ LCs cx β vs (a.eval x).cells.toList := by
      unfold cellsK at h3
      split at h3
      · refine ⟨_, h3, ?_⟩
        have h5 : LC cx β _ (a.eval x) := h4
        have h6 : (a.eval x).cells = #[a.eval x] := by
          have := h5.1
          cases hv : a.eval x <;> first | rfl | (rw [hv] at this; cases this)
        rw [h6]
        exact ⟨h5, trivial⟩
      · obtain ⟨us', e, h5⟩ := h4
        exact ⟨_, h3, by rw [e]; exact h5⟩
      · exact h3.elim
    obtain ⟨vs, h5, h6⟩ := hcells
    obtain ⟨h7, h8⟩ := lenK_iff.1 h5
    obtain ⟨h9, h10⟩ := replK_iff.1 h8
    have hl : vs.length = (a.eval x).cells.size := by rw [h6.length]; simp
    have hsz : us.size = cs.length := by rw [hc.length]; simp
    have hset := fold_set (a.eval x).cells.toList us (i * esz) 0 (by simp; omega)
    have hnew : LCs cx β (cs.take (i * esz) ++ vs ++ cs.drop (i * esz + vs.length)) ((a.eval x).cells.zipIdx.foldl (fun cs (x : Value × Nat) => cs.setIfInBounds (i * esz + x.2) x.1) us).toList := by
      rw [← Array.foldl_toList, Array.toList_zipIdx, hset]
      simp only [Nat.add_zero, Array.length_toList]
      rw [← hl]
      exact LCs.append (LCs.append (hc.take (i * esz)) h6) (hc.drop _)
    obtain ⟨cs', h11, us', h12, h13⟩ := fillA_spec hf parts _ _ K hnew h10
    refine ⟨cs', h11, us', h12, ?_⟩
    simp only [List.map_cons, Instr.fill]
    rw [if_neg (by simp; omega)]
    exact h13

/-- What a soft operation may lean on. -/
def Sm (cx : Cx) (β : List En) (hp : Hp) (W : Option (Nat × List Nat)) (w w' : World) : Prop := match W with
  | none => w' = w
  | some (n, Wl) => ∀ b, ((∃ k, k < n ∧ k ∉ Wl ∧ ownB hp β k = some b) ∨ (b < cx.w0.heap.size ∧ b ∉ cx.M)) → w'.heap[b]? = w.heap[b]?

theorem may_same {W : Option (Nat × List Nat)} {k b : Nat} (hm : mayAsk W k = true) (ho : ownB hp β k = some b) {w' : World} (hs : Sm cx β hp W w w') : w'.heap[b]? = w.heap[b]? := by
  cases W with
  | none => have : w' = w := hs; rw [this]
  | some W =>
    obtain ⟨n, Wl⟩ := W
    simp only [mayAsk, Bool.and_eq_true, Bool.not_eq_true'] at hm
    refine hs b (.inl ⟨k, by simpa [Nat.blt_eq] using hm.1, fun hc => ?_, ho⟩)
    rw [memN_iff.2 hc] at hm
    cases hm.2
theorem fz_same {W : Option (Nat × List Nat)} {b : Nat} (h1 : b < cx.w0.heap.size) (h2 : b ∉ cx.M) {w' : World} (hs : Sm cx β hp W w w') : w'.heap[b]? = w.heap[b]? := by
  cases W with
  | none => have : w' = w := hs; rw [this]
  | some W => exact hs b (.inr ⟨h1, h2⟩)

theorem vrun {s : Sem Value} {v : Value} {w : World} (h : s.run P w = .ok v w) : (do pure (Next.value (← s)) : Sem Next).run P w = .ok (.value v) w := by
  simp [h]

theorem e_val {k ver sz i off : Nat} {v v1 : Value} (h : LC cx β (.e k ver sz i off) v) (h1 : β[k]? = some (.r v1 ver)) : ∃ g n1 c1, v1 = .slice (some ⟨g, 0, none⟩) n1 c1 ∧ v = .pointer (some ⟨g, i * sz + off, none⟩) := by
  obtain ⟨_, v2, ver2, h2, h3, h4⟩ := h
  rw [h1] at h2
  simp only [Option.some.injEq, En.r.injEq] at h2
  obtain ⟨rfl, rfl⟩ := h2
  exact h4 rfl

theorem sum_spec : ∀ {xs : List (LV ⊕ List LV)} {vs : List Value} {i : Nat} {K : AV → Prop}, TCs cx β xs vs → sumK xs i K → ∃ r, K r ∧ ∃ v, AC cx β r v ∧ vs[i]? = some v
  | [], _, _, _, _, h => h.elim
  | .inl x :: xs, v :: vs, 0, K, hc, h => ⟨_, h, v, hc.1, rfl⟩
  | .inr cs :: xs, v :: vs, 0, K, hc, h => ⟨_, h, v, hc.1, rfl⟩
  | .inl x :: xs, v :: vs, i + 1, K, hc, h => by
    obtain ⟨r, h1, u, h2, h3⟩ := sum_spec hc.2 (i := i) h
    exact ⟨r, h1, u, h2, by simpa using h3⟩
  | .inr x :: xs, v :: vs, i + 1, K, hc, h => by
    obtain ⟨r, h1, u, h2, h3⟩ := sum_spec hc.2 (i := i) h
    exact ⟨r, h1, u, h2, by simpa using h3⟩
  | .inl _ :: _, [], _, _, hc, _ => hc.elim
  | .inr _ :: _, [], _, _, hc, _ => hc.elim

theorem struct_under {t : TypeId} {fs : List (Nat × Nat × Bool)} (h : KOk P t (.struct fs)) : ∃ g, P.underlying t = some (.struct g) := by
  obtain ⟨h1, _⟩ := h
  obtain ⟨d, hd, h2⟩ := Option.bind_eq_some_iff.1 h1
  split at h2
  · exact ⟨_, hd⟩
  · cases h2
theorem vals_spec : ∀ {cs : List LV} {K : List Value → Prop}, valsK cs K → ∃ us, K us ∧ ∀ vs, LCs cx β cs vs → vs = us
  | [], K, h => ⟨[], h, fun vs hv => by cases vs with | nil => rfl | cons _ _ => exact hv.elim⟩
  | .v x :: r, K, h => by
    obtain ⟨us, h1, h2⟩ := vals_spec (cs := r) h
    refine ⟨x :: us, h1, fun vs hv => ?_⟩
    cases vs with
    | nil => exact hv.elim
    | cons v vs =>
      have e : v = x := hv.1.2
      rw [e, h2 vs hv.2]
  | .p _ _ :: _, _, h => h.elim
  | .s _ _ :: _, _, h => h.elim
  | .w _ _ _ _ _ :: _, _, h => h.elim
  | .f _ :: _, _, h => h.elim
  | .fx _ _ :: _, _, h => h.elim
  | .e _ _ _ _ _ :: _, _, h => h.elim
  | .g _ _ _ :: _, _, h => h.elim
  | .o _ _ :: _, _, h => h.elim
  | .j :: _, _, h => h.elim
theorem under_of {t : TypeId} {ti : TI} (h : TIok P t ti) : ∃ d, P.underlying t = some d := by
  cases hq : P.underlying t with
  | none => have := h.agg; rw [hq] at this; cases this
  | some d => exact ⟨d, rfl⟩
theorem soft_spec {T : Tab} (hT : TabOk P T) {W : Option (Nat × List Nat)} {fr : Fr} {a : Act} {o : Oper} {K : AV → Prop} (hI : Inv cx β hp w) (hf : FR cx β fr a.tmps) (h : softP T W fr hp o.op K) :
    ∃ r, K r ∧ ∃ v, AC cx β r v ∧ ∀ w', Sm cx β hp W w w' → (execOp a.eval o).run P w' = .ok (.value v) w' := by
  obtain ⟨dst, op, ty, pos, after, guard⟩ := o
  cases op <;> first | exact h.elim | skip
  case move x =>
    obtain ⟨r, h1, h2⟩ := ev_spec hf h
    exact ⟨r, h1, _, h2, fun w' _ => rfl⟩
  case assign x =>
    obtain ⟨r, h1, h2⟩ := ev_spec hf h
    exact ⟨r, h1, _, h2, fun w' _ => rfl⟩
  case pick c x y =>
    obtain ⟨r, h1, h2⟩ := ev_spec hf h
    split at h1
    · rename_i t
      obtain ⟨_, hc⟩ := h2
      rw [br_ite] at h1
      cases t with
      | true =>
        obtain ⟨r, h3, h4⟩ := ev_spec hf h1
        exact ⟨r, h3, _, h4, fun w' _ => by simp [execOp, hc, asBool]⟩
      | false =>
        obtain ⟨r, h3, h4⟩ := ev_spec hf h1
        exact ⟨r, h3, _, h4, fun w' _ => by simp [execOp, hc, asBool]⟩
    · exact h1.elim
  case binOp op t x y yt =>
    obtain ⟨ra, h1, h2⟩ := ev_spec hf h
    obtain ⟨rb, h3, h4⟩ := ev_spec hf h1
    obtain ⟨r, h5, v, h6, h7⟩ := bin_spec hT h3 h2 h4 x y
    exact ⟨r, h5, v, h6, fun w' _ => vrun (h7 w')⟩
  case unOp op t x =>
    obtain ⟨ra, h1, h2⟩ := ev_spec hf h
    cases op <;> first | exact h1.elim | skip
    case neg =>
      dsimp only at h1
      split at h1
      · obtain ⟨_, he⟩ := h2
        obtain ⟨h3, h4⟩ := side_iff.1 h1
        exact ⟨_, h4, _, acI _ _, fun w' _ => vrun (by rw [he]; simp only [Op.unary, Op.intArith, rng_wrap h3]; rfl)⟩
      · exact h1.elim
    case not =>
      dsimp only at h1
      split at h1
      · obtain ⟨_, he⟩ := h2
        exact ⟨_, h1, _, acB _, fun w' _ => by simp [execOp, he, Op.unary]⟩
      · exact h1.elim
  case convert s d x =>
    obtain ⟨ra, h0, h2⟩ := ev_spec hf h
    obtain ⟨si, hs0, h1⟩ := tyK_iff.1 h0
    split at h1
    · obtain ⟨_, he⟩ := h2
      obtain ⟨ti, h3, h4⟩ := tyK_iff.1 h1
      split at h4
      · rename_i k hk
        obtain ⟨h5, h6⟩ := side_iff.1 h4
        have hu := (hT d ti h3).kind
        rw [hk] at hu
        have hu' : P.underlying d = some (.int k) := hu
        refine ⟨_, h6, _, acI _ _, fun w' _ => vrun ?_⟩
        rw [he]
        have hs : ∃ ds, P.underlying s = some ds := by cases hq : P.underlying s with | none => have := (hT s _ hs0).agg; rw [hq] at this; cases this | some ds => exact ⟨ds, rfl⟩
        obtain ⟨ds, hds⟩ := hs
        unfold convert
        rw [Sem.run_bind, run_underlying hds, Result.andThen_ok, Sem.run_bind, run_underlying hu', Result.andThen_ok]
        cases ds <;> simp [Conv.intToInt, rng_wrap h5]
      · exact h4.elim
    · exact h1.elim
  case extract x i =>
    obtain ⟨ra, h1, h2⟩ := ev_spec hf h
    split at h1
    · rename_i xs
      obtain ⟨vs, he, hc⟩ := h2
      obtain ⟨r, h3, v, h4, h5⟩ := sum_spec hc h1
      refine ⟨r, h3, v, h4, fun w' _ => vrun ?_⟩
      have h6 : vs[i]? = some v := by simpa using h5
      rw [he]
      simp [Instr.extract, h6]
    · exact h1.elim
  case nilCheck x =>
    obtain ⟨ra, h1, h2⟩ := ev_spec hf h
    split at h1
    · have h3 := h2.2
      obtain ⟨n, _, he⟩ := h3
      exact ⟨_, h1, _, h2, fun w' _ => by simp [execOp, he]⟩
    · exact h1.elim
  case makeInterface t x =>
    obtain ⟨ra, h0, h2⟩ := ev_spec hf h
    obtain ⟨ti, ht, h1⟩ := tyK_iff.1 h0
    have hti := (hT t ti ht).kind
    split at h1
    · rename_i k
      split at h1
      · rename_i e hk
        rw [hk] at hti
        have hu : P.underlying t = some (.pointer e) := hti
        obtain ⟨_, n, hn, he⟩ := h2
        exact ⟨_, h1, _, ⟨rfl, n, hn, rfl⟩, fun w' _ => vrun (by rw [he]; simp [Instr.makeInterface, run_underlying hu])⟩
      · exact h1.elim
    · rename_i cs
      split at h1
      · rename_i fs hk
        obtain ⟨vs, he, hc⟩ := h2
        obtain ⟨us, h3, h4⟩ := vals_spec (cx := cx) (β := β) h1
        have hvs : vs = us.toArray := Array.toList_inj.1 (by rw [h4 _ hc])
        have hk' := hti
        rw [hk] at hk'
        obtain ⟨g', hu⟩ := struct_under hk'
        exact ⟨_, h3, _, ⟨rfl, rfl⟩, fun w' _ => vrun (by rw [he, hvs]; simp [Instr.makeInterface, run_underlying hu])⟩
      · exact h1.elim
    · exact h1.elim
  case typeAssert x xt t ok =>
    cases ok
    case true => exact h.elim
    obtain ⟨ra, h0, h2⟩ := ev_spec hf h
    obtain ⟨ti, ht, h1⟩ := tyK_iff.1 h0
    have hti := (hT t ti ht).kind
    split at h1
    · rename_i t' us
      split at h1
      · rename_i fs hk
        obtain ⟨h3, h4⟩ := side_iff.1 h1
        obtain ⟨h5, h6⟩ := side_iff.1 h4
        have e : t' = t := Nat.eq_of_beq_eq_true h3
        subst e
        rw [hk] at hti
        obtain ⟨g', hu⟩ := struct_under hti
        obtain ⟨_, he⟩ := h2
        refine ⟨_, h6, .agg us, ⟨us, rfl, LCs.consts fun v hv => List.all_eq_true.1 h5 v hv⟩, fun w' _ => vrun ?_⟩
        rw [he]
        simp [Instr.typeAssert, run_underlying hu]
      · exact h1.elim
    · exact h1.elim
  case build t parts =>
    obtain ⟨ti, h1, h2⟩ := tyK_iff.1 h
    have hti := hT t ti h1
    split at h2
    · rename_i fs hk
      have hk' := hti.kind
      rw [hk] at hk'
      obtain ⟨g, hg, hfl⟩ := struct_row hk'
      obtain ⟨z, hz, hrz⟩ := hti.run_zero
      have hz0 : LCs cx β ti.zl z.cells.toList := by rw [hz]; exact hti.zeros
      obtain ⟨cs', h3, us', h4, h5⟩ := fill_spec hf parts.toList _ z.cells _ hz0 h2
      refine ⟨_, h3, .agg us', ⟨us', rfl, h4⟩, fun w' _ => vrun ?_⟩
      have hpl := run_places (P := P) g.toList fs #[] hfl w'
      unfold Instr.build
      rw [Sem.run_bind, hrz, Result.andThen_ok, Sem.run_bind, run_underlying hg, Result.andThen_ok]
      dsimp only
      rw [Sem.run_bind, Array.mapM_eq_foldlM, ← Array.foldlM_toList, hpl, Result.andThen_ok]
      simp only [Array.empty_append, Array.toList_map, h5]
      rfl
    · rename_i m e esz eg hk
      have hk' := hti.kind
      rw [hk] at hk'
      obtain ⟨hu, hes, _⟩ := hk'
      obtain ⟨z, hz, hrz⟩ := hti.run_zero
      have hz0 : LCs cx β ti.zl z.cells.toList := by rw [hz]; exact hti.zeros
      obtain ⟨cs', h3, us', h4, h5⟩ := fillA_spec hf parts.toList _ z.cells _ hz0 h2
      refine ⟨_, h3, .agg us', ⟨us', rfl, h4⟩, fun w' _ => vrun ?_⟩
      unfold Instr.build
      rw [Sem.run_bind, hrz, Result.andThen_ok, Sem.run_bind, run_underlying hu, Result.andThen_ok]
      dsimp only
      rw [Sem.run_bind, run_sz hes, Result.andThen_ok]
      simp only [Array.toList_map, h5]
      rfl
    · exact h2.elim
  case field t x f =>
    obtain ⟨ra, h1, h2⟩ := ev_spec hf h
    split at h1
    · obtain ⟨ti, h3, h4⟩ := tyK_iff.1 h1
      split at h4
      · rename_i fs hk
        have hk' := (hT t ti h3).kind
        rw [hk] at hk'
        obtain ⟨o, s, g, h5, h6⟩ := fldK_iff.1 h4
        obtain ⟨fl, fd, e1, e2, e3, e4, e5, _⟩ := struct_field hk' h5
        obtain ⟨us, he, hc⟩ := h2
        obtain ⟨r, h7, v, h8, h9⟩ := cut_part e5 e4 hc h6
        refine ⟨r, h7, v, h8, fun w' _ => vrun ?_⟩
        rw [he]
        unfold Instr.field
        rw [Sem.run_bind, run_underlying e1, Result.andThen_ok]
        simp [e2, e3, asAgg, h9]
      · exact h4.elim
    · exact h1.elim
  case fieldAddr t x f =>
    obtain ⟨ra, h1, h2⟩ := ev_spec hf h
    obtain ⟨ti, h3, h4⟩ := tyK_iff.1 h1
    split at h4
    · rename_i fs hk
      have hk' := (hT t ti h3).kind
      rw [hk] at hk'
      obtain ⟨o, s, g, h5, h6⟩ := fldK_iff.1 h4
      split at h6
      · obtain ⟨_, n, hn, he⟩ := h2
        exact ⟨_, h6, _, ⟨rfl, n, hn, rfl⟩, fun w' _ => vrun (by rw [he]; exact run_field hk' h5 _ _ w')⟩
      · rename_i k ver sz i off
        obtain ⟨E, l, hr, h7⟩ := rowK_spec h6
        obtain ⟨v1, r2, r3, r4⟩ := row_own hI hr
        obtain ⟨g1, n1, c1, hv, he⟩ := e_val (cx := cx) h2 r2
        exact ⟨_, h7, _, ⟨rfl, v1, ver, r2, Nat.le_refl _, fun _ => ⟨g1, n1, c1, hv, rfl⟩⟩, fun w' _ => vrun (by rw [he]; have := run_field hk' h5 g1 (i * sz + off) w'; simpa [Nat.add_assoc] using this)⟩
      · rename_i l i off
        obtain ⟨_, v1, g1, o1, n, c, hz, hv, he⟩ := h2
        exact ⟨_, h6, _, ⟨rfl, v1, g1, o1, n, c, hz, hv, rfl⟩, fun w' _ => vrun (by rw [he]; have := run_field hk' h5 g1 (o1 + (i * l.sz + off)) w'; simpa [Nat.add_assoc] using this)⟩
      · exact h6.elim
    · exact h4.elim
  case slice t x lo hi mx =>
    cases mx with
    | some m => exact h.elim
    | none =>
      obtain ⟨ra, h1, h2⟩ := ev_spec hf h
      obtain ⟨ti, h3, h4⟩ := tyK_iff.1 h1
      split at h4
      · rename_i e esz ek hk
        have hk' := (hT t ti h3).kind
        rw [hk] at hk'
        obtain ⟨k1, k2, k3, k4⟩ := hk'
        have hs : (P.info? e).map (·.size) = some esz := by
          obtain ⟨f, hf1, e1⟩ := Option.map_eq_some_iff.1 k2
          simp only [Prod.mk.injEq] at e1
          rw [hf1, Option.map_some, e1.2]
        obtain ⟨r, h5, v, h6, h7⟩ := cut_spec (P := P) hI hf k1 hs h2 h4
        exact ⟨r, h5, v, h6, fun w' _ => vrun (h7 w')⟩
      · exact h4.elim
  case indexAddr t x i =>
    obtain ⟨ra, h1, h2⟩ := ev_spec hf h
    obtain ⟨rb, h3, h4⟩ := ev_spec hf h1
    split at h3
    · rename_i k0 n
      obtain ⟨_, hi⟩ := h4
      obtain ⟨ti, h5, h6⟩ := tyK_iff.1 h3
      have hk' := (hT t ti h5).kind
      split at h6
      · rename_i e esz ek hk
        rw [hk] at hk'
        obtain ⟨k1, k2, k3, k4⟩ := hk'
        have hs : (P.info? e).map (·.size) = some esz := by
          obtain ⟨f, hf1, e1⟩ := Option.map_eq_some_iff.1 k2
          simp only [Prod.mk.injEq] at e1
          rw [hf1, Option.map_some, e1.2]
        obtain ⟨m, h7, ad, c, he⟩ := lenOf_spec hI h2 h6
        obtain ⟨⟨n0, n1⟩, h8⟩ := side_iff.1 h7
        clear h6 h7 h3
        split at h8
        · rename_i l
          obtain ⟨hb, h9⟩ := side_iff.1 h8
          have hsz : esz = l.sz := Nat.eq_of_beq_eq_true hb
          have hz : FZ cx (a.eval x) l := h2.2
          rw [he] at hz
          have hm : m = l.len := slice_len_eq hz.1
          have had : ∃ g o, ad = some ⟨g, o, none⟩ := by
            rcases hz.1.2 with ⟨e0, _⟩ | ⟨g', off', cap', cur, T', e0, _⟩
            · omega
            · simp only [Value.slice.injEq] at e0; exact ⟨g', off', e0.1⟩
          obtain ⟨g, o, rfl⟩ := had
          refine ⟨_, h9, _, ⟨rfl, _, g, o, m, c, hz, rfl, rfl⟩, fun w' _ => vrun ?_⟩
          rw [he, hi, run_index k1 hs n0 n1, addr_add, hsz]
          rfl
        · rename_i u l
          obtain ⟨hb, h9⟩ := side_iff.1 h8
          have hsz : esz = l.sz := Nat.eq_of_beq_eq_true hb
          have hz : FZ cx (a.eval x) l := h2.2.2
          rw [he] at hz
          have hm : m = l.len := slice_len_eq hz.1
          have had : ∃ g o, ad = some ⟨g, o, none⟩ := by
            rcases hz.1.2 with ⟨e0, _⟩ | ⟨g', off', cap', cur, T', e0, _⟩
            · omega
            · simp only [Value.slice.injEq] at e0; exact ⟨g', off', e0.1⟩
          obtain ⟨g, o, rfl⟩ := had
          refine ⟨_, h9, _, ⟨rfl, _, g, o, m, c, hz, rfl, rfl⟩, fun w' _ => vrun ?_⟩
          rw [he, hi, run_index k1 hs n0 n1, addr_add, hsz]
          rfl
        · rename_i k ver
          obtain ⟨E, l, hr, h9⟩ := rowK_spec h8
          obtain ⟨hb, h10⟩ := side_iff.1 h9
          obtain ⟨v1, r2, r3, r4⟩ := row_own hI hr
          have hv := s_val (cx := cx) h2 r2
          rw [he] at hv
          subst hv
          have hm : m = l.len := slice_len_eq (sl_of_owns r3)
          have had : ∃ g, ad = some ⟨g, 0, none⟩ := by
            rcases r3.2 with ⟨e0, _⟩ | ⟨g', cap', cur, e0, _⟩
            · simp only [Value.slice.injEq] at e0; omega
            · simp only [Value.slice.injEq] at e0; exact ⟨g', e0.1⟩
          obtain ⟨g, rfl⟩ := had
          refine ⟨_, h10, .pointer (some ⟨g, n.toNat * esz + 0, none⟩), ⟨rfl, _, _, r2, Nat.le_refl _, fun _ => ⟨g, m, c, rfl, rfl⟩⟩, fun w' _ => vrun ?_⟩
          rw [he, hi, run_index k1 hs n0 n1, addr_add]
          simp
        · rename_i k ver sz i0 n2
          obtain ⟨E, l, hr, h9⟩ := rowK_spec h8
          obtain ⟨hb, h10⟩ := side_iff.1 h9
          have hsz : esz = sz := Nat.eq_of_beq_eq_true hb
          subst hsz
          obtain ⟨v1, r2, r3, r4⟩ := row_own hI hr
          have hP := w_val (cx := cx) h2 r2
          rw [he] at hP
          obtain ⟨a', c', e0, hn', hpos⟩ := hP
          simp only [Value.slice.injEq] at e0
          obtain ⟨rfl, rfl, rfl⟩ := e0
          obtain ⟨g, n3, c3, hv1, rfl, _⟩ := hpos (by omega)
          refine ⟨_, h10, .pointer (some ⟨g, (i0 + n.toNat) * esz + 0, none⟩), ⟨rfl, _, _, r2, Nat.le_refl _, fun _ => ⟨g, n3, c3, hv1, rfl⟩⟩, fun w' _ => vrun ?_⟩
          rw [he, hi, run_index k1 hs n0 n1, addr_add, ← Nat.add_mul]
          simp
        · exact h8.elim
      · rename_i m e esz eagg hk
        rw [hk] at hk'
        obtain ⟨k1, k2, k3⟩ := hk'
        obtain ⟨⟨n0, n1⟩, h8⟩ := side_iff.1 h6
        split at h8
        · obtain ⟨_, n2, hn, he⟩ := h2
          refine ⟨_, h8, _, ⟨rfl, n2, hn, rfl⟩, fun w' _ => vrun ?_⟩
          rw [he, hi]
          simp [Instr.indexAt, run_underlying k1, asIntOf, Instr.sureAddr, n0, n1, run_sz k2, addr_add]
        · exact h8.elim
      · exact h6.elim
    · exact h3.elim
  case index t x i =>
    obtain ⟨ra, h1, h2⟩ := ev_spec hf h
    obtain ⟨rb, h3, h4⟩ := ev_spec hf h1
    split at h3
    · rename_i k0 n
      obtain ⟨_, hi⟩ := h4
      obtain ⟨ti, h5, h6⟩ := tyK_iff.1 h3
      have hk' := (hT t ti h5).kind
      split at h6
      · rename_i m e esz eagg hk
        rw [hk] at hk'
        obtain ⟨k1, k2, k3⟩ := hk'
        obtain ⟨⟨n0, n1⟩, h8⟩ := side_iff.1 h6
        split at h8
        · obtain ⟨us, he, hc⟩ := h2
          obtain ⟨r, h9, v, h10, h11⟩ := cut_part k3 k2 hc h8
          refine ⟨r, h9, v, h10, fun w' _ => vrun ?_⟩
          rw [he, hi]
          unfold Instr.index
          simp [asIntOf, run_underlying k1, n0, n1, run_sz k2, h11]
        · exact h8.elim
      · exact h6.elim
    · exact h3.elim
  case load t x =>
    obtain ⟨ra, h1, h2⟩ := ev_spec hf h
    obtain ⟨ti, h3, h4⟩ := tyK_iff.1 h1
    have hti := hT t ti h3
    split at h4
    · rename_i k off
      obtain ⟨hm, h5⟩ := side_iff.1 h4
      obtain ⟨x1, h6, h7⟩ := getH_iff.1 h5
      split at h7
      · rename_i cs T1
        obtain ⟨_, n, hn, he⟩ := h2
        have ho := hI.ent k _ _ h6 hn
        obtain ⟨_, us, hb, hc⟩ := ho
        obtain ⟨r, h8, v, h9, h10⟩ := cut_load hti hb hc h7
        refine ⟨r, h8, v, h9, fun w' hs => vrun ?_⟩
        rw [he]
        have hw := may_same hm (show ownB hp β k = some n by rw [ownB_of h6 hn]; rfl) hs
        simpa [Instr.loadAt, Instr.sureAddr] using h10 w' hw
      · exact h7.elim
    · rename_i k ver sz i off
      obtain ⟨hm, h5⟩ := side_iff.1 h4
      obtain ⟨E, l, h6, h7⟩ := rowK_spec h5
      obtain ⟨hbz, h7'⟩ := side_iff.1 h7
      have hsz : sz = l.sz := Nat.eq_of_beq_eq_true hbz
      obtain ⟨hlt, h8⟩ := side_iff.1 h7'
      obtain ⟨v1, r2, r3, r4⟩ := row_own hI h6
      obtain ⟨g1, n1, c1, hv, he⟩ := e_val (cx := cx) h2 r2
      subst hv
      have hn : n1 = l.len := slice_len_eq (sl_of_owns r3)
      subst hn
      obtain ⟨r, h9, v, h10, h11⟩ := el_load (w := w) hti (owns_cells r3) hlt h8
      refine ⟨r, h9, v, h10, fun w' hs => vrun ?_⟩
      have hw := may_same hm (show ownB hp β k = some g1 by rw [ownB_of h6 r2]; rfl) hs
      rw [he, hsz]
      have := h11 w' hw
      rw [Nat.zero_add] at this
      simpa [Instr.loadAt, Instr.sureAddr] using this
    · rename_i l i off
      obtain ⟨hlt, h8⟩ := side_iff.1 h4
      obtain ⟨_, v1, g1, o1, n, c, hz, hv, he⟩ := h2
      subst hv
      have hn : n = l.len := slice_len_eq hz.1
      have hcell := Sl.cells (hn ▸ hz.sl hI) (by omega)
      simp only [addr_add] at hcell
      obtain ⟨r, h9, v, h10, h11⟩ := el_load (w := w) hti hcell hlt h8
      refine ⟨r, h9, v, h10, fun w' hs => vrun ?_⟩
      have h0 := hz.1
      have hb : g1 < cx.w0.heap.size := by
        rcases hz.1.2 with ⟨e0, _⟩ | ⟨g', off', cap', cur, T', e0, _, e1, _⟩
        · omega
        · simp only [Value.slice.injEq, Option.some.injEq, Addr.mk.injEq] at e0
          obtain ⟨⟨rfl, _⟩, _⟩ := e0
          exact (Array.getElem?_eq_some_iff.1 e1).1
      have hw := fz_same (b := g1) hb (hz.2.2 (by omega) g1 rfl) hs
      rw [he]
      simpa [Instr.loadAt, Instr.sureAddr] using h11 w' hw
    · exact h4.elim
  case call c =>
    obtain ⟨callee, args, ats⟩ := c
    cases callee <;> first | exact h.elim | skip
    rename_i bb
    cases bb <;> first | exact h.elim | skip
    · obtain ⟨rs, h1, h2⟩ := evs_spec hf h
      split at h1
      · rename_i x
        split at h1
        · rename_i t hat
          obtain ⟨ti, h3, h4⟩ := tyK_iff.1 h1
          have hk' := (hT t ti h3).kind
          have hargs : ∃ y, args.toList.map a.eval = [y] ∧ AC cx β x y := by
            cases hl : args.toList.map a.eval with
            | nil => rw [hl] at h2; exact h2.elim
            | cons y ys =>
              rw [hl] at h2
              cases ys with
              | nil => exact ⟨y, rfl, h2.1⟩
              | cons _ _ => exact h2.2.elim
          obtain ⟨y, hy, hxy⟩ := hargs
          have hy' : args.map a.eval = #[y] := by
            apply Array.toList_inj.1
            simpa using hy
          have hat' : ats = #[t] := Array.toList_inj.1 hat
          have fin : ∀ (n : Nat), (∀ w, (Builtin.len_ #[t] ty #[y]).run P w = .ok (.int .i64 n) w) → K (I .i64 n) → ∃ r, K r ∧ ∃ v, AC cx β r v ∧ ∀ w', Sm cx β hp W w w' → (execOp a.eval { dst := dst, op := .call { callee := .builtin .len, args := args, argTypes := ats }, type := ty, pos := pos, after := after, guard := guard }).run P w' = .ok (.value v) w' := by
            intro n hrun hK
            refine ⟨_, hK, _, acI _ _, fun w' _ => ?_⟩
            simp [execOp, resolve, hy', invoke, builtin, hat', hrun]
          split at h4
          · rename_i e esz ek hk
            rw [hk] at hk'
            obtain ⟨k1, _⟩ := hk'
            obtain ⟨n, h5, ad, c, rfl⟩ := lenOf_spec hI hxy h4
            exact fin n (fun w => by simp [Builtin.len_, run_underlying k1, goInt]) h5
          · rename_i e hk
            rw [hk] at hk'
            have k1 : P.underlying t = some (.slice e) := hk'
            obtain ⟨n, h5, ad, c, rfl⟩ := lenOf_spec hI hxy h4
            exact fin n (fun w => by simp [Builtin.len_, run_underlying k1, goInt]) h5
          · rename_i hk
            rw [hk] at hk'
            have k1 : P.underlying t = some .string := hk'
            split at h4
            · obtain ⟨_, rfl⟩ := hxy
              exact fin _ (fun w => by simp [Builtin.len_, run_underlying k1, goInt]) h4
            · exact h4.elim
          · exact h4.elim
        · exact h1.elim
      · exact h1.elim
    · obtain ⟨rs, h1, h2⟩ := evs_spec hf h
      split at h1
      · rename_i k x k' y
        have hargs : args.toList.map a.eval = [.int k x, .int k' y] := by
          cases hl : args.toList.map a.eval with
          | nil => rw [hl] at h2; exact h2.elim
          | cons u us =>
            rw [hl] at h2
            cases us with
            | nil => exact h2.2.elim
            | cons v vs =>
              obtain ⟨⟨_, e1⟩, ⟨_, e2⟩, h3⟩ := h2
              cases vs with
              | nil => rw [e1, e2]
              | cons _ _ => exact h3.elim
        have hy' : args.map a.eval = #[.int k x, .int k' y] := by
          apply Array.toList_inj.1
          simpa using hargs
        refine ⟨_, h1, _, acI _ _, fun w' _ => ?_⟩
        simp [execOp, resolve, hy', invoke, builtin, Builtin.max_, Builtin.max2, maxI]
      · exact h1.elim
    · obtain ⟨rs, h1, h2⟩ := evs_spec hf h
      split at h1
      · rename_i k x k' y
        have hargs : args.toList.map a.eval = [.int k x, .int k' y] := by
          cases hl : args.toList.map a.eval with
          | nil => rw [hl] at h2; exact h2.elim
          | cons u us =>
            rw [hl] at h2
            cases us with
            | nil => exact h2.2.elim
            | cons v vs =>
              obtain ⟨⟨_, e1⟩, ⟨_, e2⟩, h3⟩ := h2
              cases vs with
              | nil => rw [e1, e2]
              | cons _ _ => exact h3.elim
        have hy' : args.map a.eval = #[.int k x, .int k' y] := by
          apply Array.toList_inj.1
          simpa using hargs
        refine ⟨_, h1, _, acI _ _, fun w' _ => ?_⟩
        simp [execOp, resolve, hy', invoke, builtin, Builtin.min_, Builtin.min2, minI]
      · exact h1.elim

end
end Ab
end Go.Proofs.Ytacjfkodndkaeaa
