/-
  The walk through a region that draws its order: its steps, one lemma for each kind of operation. No condition of the program but FieldsOk (no field of a struct is of size 0).
-/
import Derived.Test.YtacjfkodndkaeaaSteps
namespace Go.Proofs.Ytacjfkodndkaeaa
open Go.RowKit

/-- This field of this struct is not of size 0. -/
def fieldOk (P : Program) (s : TypeId) (f : Nat) : Bool := match P.underlying s with
  | some (.struct fs) => (match fs[f]? with
    | some fd => (match P.info? fd.type with
      | some i => i.size != 0
      | none => false)
    | none => false)
  | _ => false

/-- Only cells of block b are asked. -/
def LS (P : Program) (b : Nat) {α : Type} : Sem α → Prop
  | .pure _ => True
  | .halt _ => True
  | .program k => LS P b (k P)
  | .mark _ k => LS P b k
  | .load _ a k => a.block = b ∧ ∀ v, LS P b (k v)
  | _ => False

section
variable {P : Program} {α β : Type} {b : Nat}

theorem LS.bind {f : α → Sem β} : ∀ {s : Sem α}, LS P b s → (∀ a, LS P b (f a)) → LS P b (s >>= f) := by
  intro s
  show LS P b s → _ → LS P b (s.bind f)
  induction s with
  | pure a => intro _ hf; exact hf a
  | halt h => intro _ _; trivial
  | program k ih => intro h hf; exact ih P h hf
  | mark m k ih => intro h hf; exact ih h hf
  | load m a k ih => intro h hf; exact ⟨h.1, fun v => ih v (h.2 v) hf⟩
  | _ => intro h; exact h.elim

theorem LS.run : ∀ {s : Sem α}, LS P b s → ∀ {w w1 : World} {x : α} {cs : Array Value} {t : TypeId} {fz : Nat × Nat}, w.heap[b]? = some (.cells cs t fz) → s.run P w = .ok x w1 →
    w1 = w ∧ ∀ w', w'.heap[b]? = w.heap[b]? → s.run P w' = .ok x w' := by
  intro s
  induction s with
  | pure a => intro _ w w1 x _ _ _ _ e; simp only [Sem.run, Result.ok.injEq] at e; obtain ⟨rfl, rfl⟩ := e; exact ⟨rfl, fun _ _ => rfl⟩
  | halt h => intro _ w w1 x _ _ _ _ e; cases e
  | program k ih => intro h w w1 x _ _ _ hb e; exact ih P h hb e
  | mark m k ih => intro h w w1 x _ _ _ hb e; exact ih h hb e
  | load m a k ih =>
    intro h w w1 x cs t fz hb e
    obtain ⟨rfl, hk⟩ := h
    simp only [Sem.run] at e
    have same : ∀ w' : World, w'.heap[a.block]? = w.heap[a.block]? → w'.cell? a = w.cell? a := fun w' hw => World.cell?_of_block (w := w) hw
    cases hc : w.cell? a with
    | some v =>
      simp only [hc] at e
      obtain ⟨h1, h2⟩ := ih v (hk v) hb e
      refine ⟨h1, fun w' hw => ?_⟩
      simp only [Sem.run, same w' hw, hc]
      exact h2 w' hw
    | none =>
      simp only [hc, World.farLoad, hb] at e
      cases e
  | _ => intro h; exact h.elim

theorem ls_of_wf_pure (a : α) : LS P b (Pure.pure a : Sem α) := trivial
theorem ls_underlying (t : TypeId) : LS P b (underlying t) := by
  show LS P b (match P.underlying t with | some d => (Pure.pure d : Sem TypeDesc) | none => stuck _)
  cases P.underlying t <;> exact trivial
theorem ls_sizeOf (t : TypeId) : LS P b (sizeOf t) := by
  show LS P b ((match P.info? t with | some d => (Pure.pure d : Sem TypeInfo) | none => stuck _) >>= fun i => Pure.pure i.size)
  cases P.info? t <;> exact trivial
theorem ls_isAgg (t : TypeId) : LS P b (isAgg t) := by
  refine (ls_underlying t).bind fun d => ?_
  cases d <;> exact trivial
theorem Addr.add_block (a : Addr) (n : Nat) : (a.add n).block = a.block := by unfold Addr.add; split <;> rfl
theorem ls_loadCellsFrom (a : Addr) (ha : a.block = b) : ∀ (n i : Nat) (acc : Array Value), LS P b (loadCellsFrom a i n acc)
  | 0, i, acc => trivial
  | n + 1, i, acc => by
    show LS P b (load (a.add i) >>= _)
    exact ⟨(Addr.add_block a i).trans ha, fun v => ls_loadCellsFrom a ha n (i + 1) _⟩
theorem ls_loadVar (t : TypeId) (a : Addr) (ha : a.block = b) : LS P b (loadVar t a) := by
  unfold loadVar
  refine (ls_isAgg t).bind fun c => ?_
  cases c
  · exact ⟨ha, fun v => trivial⟩
  · exact (ls_sizeOf t).bind fun n => (ls_loadCellsFrom a ha n 0 _).bind fun _ => trivial

theorem wf_fieldAt (s : TypeId) (x : Value) (f : Nat) (hP : fieldOk P s f = true) : WF P (Instr.fieldAt s x f) := by
  unfold Instr.fieldAt
  change WF P (Sem.bind (match P.underlying s with | some d => (Pure.pure d : Sem TypeDesc) | none => stuck "no such type") _)
  cases h : P.underlying s with
  | none => exact trivial
  | some d =>
    cases d <;> try exact trivial
    rename_i fs
    change WF P (match fs[f]? with | some f => _ | _ => _)
    cases hf : fs[f]? with
    | none => exact trivial
    | some fd =>
      refine (wf_sureAddr x).bind fun a => ?_
      refine WF.bind ?_ fun _ => trivial
      unfold fieldPlace
      change WF P (Sem.bind (Sem.bind (match P.info? fd.type with | some d => (Pure.pure d : Sem TypeInfo) | none => stuck "no such type") _) _)
      cases hi : P.info? fd.type with
      | none => exact trivial
      | some i =>
        change WF P (if i.size = 0 then _ else _)
        rw [if_neg (by intro e; simp [fieldOk, h, hf, hi, e] at hP)]
        exact trivial

theorem wf_foldlM {f : β → α → Sem β} (hf : ∀ b a, WF P (f b a)) : ∀ (l : List α) (b : β), WF P (l.foldlM f b)
  | [], b => trivial
  | a :: l, b => by rw [List.foldlM_cons]; exact (hf b a).bind fun b' => wf_foldlM hf l b'
theorem wf_mapM {f : α → Sem β} (hf : ∀ a, WF P (f a)) (xs : Array α) : WF P (xs.mapM f) := by
  rw [Array.mapM_eq_foldlM, ← Array.foldlM_toList]
  exact wf_foldlM (fun b a => WF.bind (hf a) fun v => show WF P (Pure.pure (b.push v) : Sem (Array β)) from trivial) _ _
theorem wf_build (t : TypeId) (parts : Array (Nat × Value)) : WF P (Instr.build t parts) := by
  unfold Instr.build
  refine (wf_zeroValue t).bind fun z => (wf_underlying t).bind fun d => ?_
  cases d <;> try exact trivial
  · refine (wf_sizeOf _).bind fun n => ?_
    split <;> exact trivial
  · refine (wf_mapM (fun (f : Field) => WF.bind (wf_sizeOf f.type) fun n => show WF P (Pure.pure (f.offset, n) : Sem (Nat × Nat)) from trivial) _).bind fun n => ?_
    split <;> exact trivial

theorem wf_binOp_int (op : BinOp) (t : TypeId) (k k' : IntKind) (x y : Int) : WF P (binOp op t (.int k x) (.int k' y)) := by
  cases op <;> simp only [binOp] <;> first
    | exact wf_shift _ _ _ _ _
    | (refine wf_ite trivial ?_; first | exact wf_intArith _ _ _ _ | exact wf_intDiv _ _ _ _ | exact wf_intBits _ _ _ _ | exact wf_intCmp _ _ _)
theorem wf_binOp_string (op : BinOp) (t : TypeId) (x y : ByteArray) : WF P (binOp op t (.string x) (.string y)) := by
  cases op <;> simp only [binOp] <;> exact wf_stringOp _ _ _
theorem wf_equal_bool (t : TypeId) (x y : Bool) : WF P (Op.equal t (.bool x) (.bool y)) := by
  show WF P (Op.equalIn (9999 + 1) t (.bool x) (.bool y))
  rw [Op.equalIn]
  refine (wf_underlying t).bind fun d => ?_
  cases d <;> exact trivial
theorem wf_binOp_bool (op : BinOp) (t : TypeId) (x y : Bool) : WF P (binOp op t (.bool x) (.bool y)) := by
  cases op <;> simp only [binOp] <;> first | exact trivial | exact (wf_equal_bool t x y).bind fun _ => trivial

/-- Operations that answer the same in every world (a load apart). -/
def softOp (ρ : Operand → Value) : Op → Bool
  | .move _ | .assign _ | .fieldAddr .. | .field .. | .indexAddr .. | .index .. | .slice .. | .unOp .. | .extract .. | .makeInterface .. | .pick .. | .build .. => true
  | .nilCheck x => match ρ x with | .pointer (some _) => true | _ => false
  | .binOp _ _ x y _ => match ρ x, ρ y with | .int .., .int .. | .string _, .string _ | .bool _, .bool _ => true | _, _ => false
  | .convert _ _ x => match ρ x with | .int .. => true | _ => false
  | .call c => match c.callee with | .builtin .len => (match c.args[0]? with | some x => (match ρ x with | .slice .. | .string _ => true | _ => false) | none => false) | _ => false
  | _ => false

theorem wf_value {s : Sem Value} (h : WF P s) : WF P (do pure (Next.value (← s)) : Sem Next) := h.bind fun _ => trivial

theorem wf_len (ats : Array TypeId) (ty : TypeId) (args : Array Value) (h : (match args[0]? with | some (.slice ..) | some (.string _) => true | _ => false) = true) : WF P (Builtin.len_ ats ty args) := by
  unfold Builtin.len_
  cases h0 : ats[0]? with
  | none => exact trivial
  | some t =>
    cases h1 : args[0]? with
    | none => exact trivial
    | some x =>
      simp only [h1] at h
      refine (wf_underlying t).bind fun d => ?_
      cases x <;> first | (simp at h; done) | skip
      all_goals cases d <;> first | exact trivial | exact (wf_underlying _).bind fun d' => (by cases d' <;> exact trivial)

theorem wf_intToInt (k : IntKind) (n : Int) : WF P (Conv.intToInt k n) := trivial

theorem wf_convert_int (src dst : TypeId) (k : IntKind) (n : Int) (h : ∃ k', P.underlying dst = some (.int k')) : WF P (convert src dst (.int k n)) := by
  obtain ⟨k', h⟩ := h
  unfold convert
  refine (wf_underlying src).bind fun d => ?_
  change WF P (Sem.bind (match P.underlying dst with | some d => (Pure.pure d : Sem TypeDesc) | none => stuck "no such type") _)
  rw [h]
  cases d <;> exact trivial

theorem soft_wf {ρ : Operand → Value} {o : Oper} (h : softOp ρ o.op = true) (hP : ∀ s x f, o.op = .fieldAddr s x f → fieldOk P s f = true) (hc : ∀ s d x, o.op = .convert s d x → ∃ k', P.underlying d = some (.int k')) : WF P (execOp ρ o) := by
  obtain ⟨dst, op, type, pos, after, guard⟩ := o
  cases op <;> simp only [softOp] at h <;> first | (cases h; done) | skip
  case move x => exact trivial
  case assign x => exact trivial
  case pick c a b => exact (wf_asBool _).bind fun _ => trivial
  case nilCheck x =>
    simp only [execOp]
    cases hx : ρ x <;> simp only [hx] at h <;> first | (cases h; done) | skip
    rename_i a
    cases a
    · cases h
    · exact trivial
  case binOp op t x y yt =>
    simp only [execOp]
    refine wf_value ?_
    refine WF.bind ?_ fun _ => ?_
    · unfold eqGuard
      cases hx : ρ x <;> simp only [hx] at h <;> first | (cases h; done) | skip
      all_goals cases hy : ρ y <;> simp only [hy] at h <;> first | (cases h; done) | skip
      all_goals (dsimp only; split <;> exact trivial)
    · cases hx : ρ x <;> simp only [hx] at h <;> first | (cases h; done) | skip
      all_goals cases hy : ρ y <;> simp only [hy] at h <;> first | (cases h; done) | skip
      · exact wf_binOp_bool _ _ _ _
      · exact wf_binOp_int _ _ _ _ _ _
      · exact wf_binOp_string _ _ _ _
  case unOp op t x => exact wf_value (wf_unary _ _)
  case convert s d x =>
    simp only [execOp]
    refine wf_value ?_
    cases hx : ρ x <;> simp only [hx] at h <;> first | (cases h; done) | skip
    exact wf_convert_int _ _ _ _ (hc s d x rfl)
  case makeInterface t x => exact wf_value (wf_makeInterface _ _)
  case build t ps => exact wf_value (wf_build _ _)
  case slice t x lo hi mx => exact wf_value (wf_sliceAt _ _ _ _ _)
  case fieldAddr s x f => exact wf_value (wf_fieldAt _ _ _ (hP s x f rfl))
  case field t x f => exact wf_value (wf_field _ _ _)
  case indexAddr t x i => exact wf_value (wf_indexAt _ _ _)
  case index t x i => exact wf_value (wf_index _ _ _)
  case extract t i => exact wf_value (wf_extract _ _)
  case call c =>
    obtain ⟨callee, args, ats⟩ := c
    cases callee <;> first | (simp at h; done) | skip
    rename_i bb
    cases bb <;> first | (simp at h; done) | skip
    simp only [execOp, resolve]
    refine wf_value (wf_len _ _ _ ?_)
    cases h0 : args[0]? with
    | none => simp [h0] at h
    | some x =>
      simp only [Array.getElem?_map, h0, Option.map_some]
      simp only [h0] at h
      cases hx : ρ x <;> simp [hx] at h ⊢

theorem val_of {s : Sem Value} {w w1 : World} {n : Next} (h : (do pure (Next.value (← s)) : Sem Next).run P w = .ok n w1) : ∃ v, n = .value v := by
  simp only [Sem.run_bind, Sem.run_pure] at h
  cases hr : s.run P w <;> simp only [hr, Result.andThen_ok, Result.andThen_halt, Result.ok.injEq] at h
  · exact ⟨_, h.1.symm⟩
  · cases h

theorem soft_value {ρ : Operand → Value} {o : Oper} (h : softOp ρ o.op = true) {w w1 : World} {n : Next} (hr : (execOp ρ o).run P w = .ok n w1) : ∃ v, n = .value v := by
  obtain ⟨dst, op, type, pos, after, guard⟩ := o
  cases op <;> simp only [softOp] at h <;> first | (cases h; done) | skip
  case move x => simp only [execOp, Sem.run_pure, Result.ok.injEq] at hr; exact ⟨_, hr.1.symm⟩
  case assign x => simp only [execOp, Sem.run_pure, Result.ok.injEq] at hr; exact ⟨_, hr.1.symm⟩
  case pick c a b =>
    simp only [execOp, Sem.run_bind] at hr
    cases hb : (asBool (ρ c)).run P w <;> simp only [hb, Result.andThen_ok, Result.andThen_halt, Sem.run_pure, Result.ok.injEq] at hr
    · exact ⟨_, hr.1.symm⟩
    · cases hr
  case nilCheck x =>
    simp only [execOp] at hr
    cases hx : ρ x <;> simp only [hx] at h <;> first | (cases h; done) | skip
    rename_i a
    cases a
    · cases h
    · simp only [hx, Sem.run_pure, Result.ok.injEq] at hr; exact ⟨_, hr.1.symm⟩
  case call c =>
    obtain ⟨callee, args, ats⟩ := c
    cases callee <;> first | (simp at h; done) | skip
    rename_i bb
    cases bb <;> first | (simp at h; done) | skip
    exact val_of hr
  all_goals exact val_of hr

/-- Nobody leaves by it. -/
def noQ : Exit → Act → World → Prop := fun _ _ _ => False

variable {ops : Array Oper} {Q : Exit → Act → World → Prop} {p : Nat → Prop} {C : Tr} {a : Act} {w : World} {o : Oper} {i : Nat}

theorem wpE_of_run (ho : ops[i]? = some o) (hw : Region.wanted o (yielded ops a.tmps) = true)
    (hrun : ∀ n w1, (execOp a.eval o).run P w = .ok n w1 → w1 = w ∧ (∃ v, n = .value v) ∧ ∀ w', Ex p w w' → (execOp a.eval o).run P w' = .ok n w')
    (h : ∀ K : Act → World → Prop, (∀ a', wpE P ops p Q C a' w → K a' w) → o.wp P a w K noQ) : wpE P ops p Q (.op i 0 C) a w := by
  have h1 := h (fun a' w' => w' = w ∧ wpE P ops p Q C a' w') (fun a' h => ⟨rfl, h⟩)
  unfold Oper.wp at h1
  cases hr : (execOp a.eval o).run P w with
  | ok n w1 =>
    obtain ⟨rfl, ⟨v, rfl⟩, h3⟩ := hrun n w1 hr
    rw [hr] at h1
    exact ⟨o, v, ho, .inl ⟨hw, h3⟩, h1.2⟩
  | halt x w1 =>
    rw [hr] at h1
    cases x <;> exact h1.elim

theorem wpE_soft (ho : ops[i]? = some o) (hw : Region.wanted o (yielded ops a.tmps) = true) (hs : softOp a.eval o.op = true) (hc : (match o.op with | .convert .. => false | .fieldAddr .. => false | _ => true) = true)
    (h : ∀ K : Act → World → Prop, (∀ a', wpE P ops p Q C a' w → K a' w) → o.wp P a w K noQ) : wpE P ops p Q (.op i 0 C) a w :=
  wpE_of_run ho hw (fun n w1 hr =>
    have hwf := soft_wf hs (fun s x f e => by rw [e] at hc; cases hc) (fun s d x e => by rw [e] at hc; cases hc)
    ⟨(hwf.run hr).1, soft_value hs hr, fun w' _ => (hwf.run hr).2 w'⟩) h

theorem wpE_field {s : TypeId} {x : Operand} {f : Nat} (ho : ops[i]? = some o) (hw : Region.wanted o (yielded ops a.tmps) = true) (hop : o.op = .fieldAddr s x f) (hP : fieldOk P s f = true)
    (h : ∀ K : Act → World → Prop, (∀ a', wpE P ops p Q C a' w → K a' w) → o.wp P a w K noQ) : wpE P ops p Q (.op i 0 C) a w := by
  have hex : execOp a.eval o = (do pure (Next.value (← Instr.fieldAt s (a.eval x) f)) : Sem Next) := by
    unfold execOp
    rw [hop]
  have hwf : WF P (execOp a.eval o) := by rw [hex]; exact wf_value (wf_fieldAt s _ f hP)
  exact wpE_of_run ho hw (fun n w1 hr => ⟨(hwf.run hr).1, by rw [hex] at hr; exact val_of hr, fun w' _ => (hwf.run hr).2 w'⟩) h

theorem wpE_conv {s d : TypeId} {x : Operand} {k k' : IntKind} {n : Int} (ho : ops[i]? = some o) (hw : Region.wanted o (yielded ops a.tmps) = true) (hop : o.op = .convert s d x) (hx : a.eval x = .int k' n) (hd : P.underlying d = some (.int k))
    (h : ∀ K : Act → World → Prop, (∀ a', wpE P ops p Q C a' w → K a' w) → o.wp P a w K noQ) : wpE P ops p Q (.op i 0 C) a w := by
  have hex : execOp a.eval o = (do pure (Next.value (← convert s d (.int k' n))) : Sem Next) := by
    unfold execOp
    rw [hop]
    simp only [hx]
  have hwf : WF P (execOp a.eval o) := by rw [hex]; exact wf_value (wf_convert_int s d k' n ⟨k, hd⟩)
  exact wpE_of_run ho hw (fun n w1 hr => ⟨(hwf.run hr).1, by rw [hex] at hr; exact val_of hr, fun w' _ => (hwf.run hr).2 w'⟩) h

theorem wpE_load {t : TypeId} {x : Operand} {b off : Nat} (ho : ops[i]? = some o) (hw : Region.wanted o (yielded ops a.tmps) = true) (hop : o.op = .load t x) (hx : a.eval x = .pointer (some ⟨b, off, none⟩))
    (hp : p b) (hcell : (w.cell? ⟨b, off, none⟩).isSome = true)
    (h : ∀ K : Act → World → Prop, (∀ a', wpE P ops p Q C a' w → K a' w) → o.wp P a w K noQ) : wpE P ops p Q (.op i 0 C) a w := by
  refine wpE_of_run ho hw (fun n w1 hr => ?_) h
  have hb : ∃ cs t fz, w.heap[b]? = some (.cells cs t fz) := by
    unfold World.cell? at hcell
    split at hcell
    · exact ⟨_, _, _, ‹_›⟩
    · cases hcell
  obtain ⟨cs, t', fz, hb⟩ := hb
  have hex : execOp a.eval o = (do pure (Next.value (← loadVar t ⟨b, off, none⟩)) : Sem Next) := by
    unfold execOp
    rw [hop]
    simp only [hx, Instr.loadAt, Instr.sureAddr]
    rfl
  have hls : LS P b (execOp a.eval o) := by
    rw [hex]
    exact LS.bind (ls_loadVar t ⟨b, off, none⟩ rfl) (fun v => show LS P b (Pure.pure (Next.value v) : Sem Next) from trivial)
  obtain ⟨h1, h2⟩ := hls.run hb hr
  have hlt : b < w.heap.size := (Array.getElem?_eq_some_iff.1 hb).1
  exact ⟨h1, by rw [hex] at hr; exact val_of hr, fun w' hx => h2 w' (hx.2 b hp hlt)⟩

theorem wpE_skip (ho : ops[i]? = some o) (hw : Region.wanted o (yielded ops a.tmps) = false) (h : wpE P ops p Q C (a.put o.dst undef) w) : wpE P ops p Q (.op i 0 C) a w :=
  ⟨o, undef, ho, .inr ⟨hw, rfl⟩, h⟩

theorem wpE_eff (ho : ops[i]? = some o) (hw : Region.wanted o (yielded ops a.tmps) = true)
    (h : ∀ K : Act → World → Prop, (∀ a' w', (Ex p w w' ∧ wpE P ops p Q C a' w') → K a' w') → o.wp P a w K Q) : wpE P ops p Q (.op i 1 C) a w := by
  show wpOp P ops Q i _ a w
  unfold wpOp
  simp only [ho, hw, if_true]
  exact .inl (h _ fun _ _ h => h)

theorem wpE_effSkip (ho : ops[i]? = some o) (hw : Region.wanted o (yielded ops a.tmps) = false) (h : wpE P ops p Q C (a.put o.dst undef) w) : wpE P ops p Q (.op i 1 C) a w := by
  show wpOp P ops Q i _ a w
  unfold wpOp
  simp only [ho, hw, Bool.false_eq_true, if_false]
  exact ⟨Ex.refl _ _, h⟩

theorem wpE_late (ho : ops[i]? = some o) (hw : Region.wanted o (yielded ops a.tmps) = true)
    (h : ∀ K : Act → World → Prop, (∀ a' w', wpE P ops p Q C a' w' → K a' w') → o.wp P a w K Q) : wpE P ops p Q (.op i 2 C) a w := by
  show wpOp P ops Q i _ a w
  unfold wpOp
  simp only [ho, hw, if_true]
  exact .inl (h _ fun _ _ h => h)

theorem wpE_fork {j : Nat} {oj : Oper} {D : Tr} {k l : Nat} (ho : ops[i]? = some o) (hj : ops[j]? = some oj) (hw : Region.wanted o (yielded ops a.tmps) = true) (hwj : Region.wanted oj (yielded ops a.tmps) = true)
    (h : ∀ K : Act → World → Prop, (∀ a' w', (Ex p w w' ∧ wpE P ops p Q C a' w') → K a' w') → o.wp P a w K Q)
    (h' : ∀ K : Act → World → Prop, (∀ a' w', (Ex p w w' ∧ wpE P ops p Q D a' w') → K a' w') → oj.wp P a w K Q) : wpE P ops p Q (.fork i k C j l D) a w := by
  refine ⟨?_, ?_⟩
  · unfold wpOp
    simp only [ho, hw, if_true]
    exact .inl (h _ fun _ _ h => h)
  · unfold wpOp
    simp only [hj, hwj, if_true]
    exact .inl (h' _ fun _ _ h => h)

theorem wpE_nil (h : Q .normal a w) : wpE P ops p Q .nil a w := h

end
end Go.Proofs.Ytacjfkodndkaeaa
