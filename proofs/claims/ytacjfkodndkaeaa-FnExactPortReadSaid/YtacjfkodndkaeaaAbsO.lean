/-
  The soft operations: what the abstract walk says of them is what they answer. Plain lemmas; the conditions are the types' rows (TIok).
-/
import Derived.Test.YtacjfkodndkaeaaAbsR
import Derived.IntWalk
import Derived.Laws.StructEq
namespace Go.Proofs.Ytacjfkodndkaeaa
open Go.RowKit
namespace Ab

def aggD : TypeDesc → Bool
  | .struct _ | .array _ _ => true
  | _ => false
def EK.zero : EK → Value
  | .ints => .int .i64 0
  | .gots => .agg #[.int .i64 0, .int .i64 0]
  | .bytes => .int .u8 0
  | .k3 => .agg #[.int .i64 0, .int .i64 0, .int .i64 0]
def EK.sz : EK → Nat
  | .ints => 1
  | .gots => 2
  | .bytes => 1
  | .k3 => 3

def cmpV : List (Option IntKind) → List Value → List Value → Option Bool
  | [], [], [] => some true
  | some _ :: ks, .int k x :: xs, .int k' y :: ys => if k = k' then (cmpV ks xs ys).map fun b => decide (x = y) && b else none
  | none :: ks, .bool x :: xs, .bool y :: ys => (cmpV ks xs ys).map fun b => (x == y) && b
  | _, _, _ => none
def tyOf : Option IntKind → TypeDesc
  | some k => .int k
  | none => .bool
/-- Two values of this struct are compared cell by cell. -/
structure EqOk (P : Program) (t : TypeId) (ks : List (Option IntKind)) : Prop where
  under : P.underlying t = some (.struct (P.fieldsOf t))
  held : P.stoodInHeld t = false
  guard : P.eqGuardType P.depth t = false
  fields : (P.fieldsOf t).toList.map (fun f => (f.name != "_", f.offset, P.underlying f.type)) = ks.zipIdx.map fun x => (true, x.2, some (tyOf x.1))

def KOk (P : Program) (t : TypeId) : TK → Prop
  | .leaf => True
  | .bool => P.underlying t = some .bool
  | .int k => P.underlying t = some (.int k)
  | .struct fs => (P.underlying t).bind (fun d => match d with
      | .struct g => some (g.toList.map fun f => (f.offset, (P.info? f.type).map (·.size), (P.underlying f.type).map aggD))
      | _ => none) = some (fs.map fun x => (x.1, some x.2.1, some x.2.2)) ∧ fs.all (fun x => x.2.1 != 0) = true
  | .arr n e esz eagg => P.underlying t = some (.array n e) ∧ (P.info? e).map (·.size) = some esz ∧ (P.underlying e).map aggD = some eagg
  | .osl e => P.underlying t = some (.slice e)
  | .str => P.underlying t = some .string
  | .ptr e => P.underlying t = some (.pointer e)
  | .chan => (P.underlying t).bind (fun d => match d with
      | .chan _ e => (P.info? e).map fun f => decide (f.bytes ≤ 16)
      | _ => none) = some true
  | .slice e esz ek => P.underlying t = some (.slice e) ∧ (P.info? e).map (fun f => (f.zero, f.size)) = some (some ek.zero, esz) ∧ ((P.info? e).map fun f => decide (f.bytes ≤ 32)) = some true ∧ esz = ek.sz

/-- The methods of a pointer's type are these. -/
def MethOk (P : Program) (t : TypeId) (k : TK) (ms : List (String × FuncId × Bool)) : Prop := ∀ m ∈ ms, ∀ (n : Nat) (w : World),
  (m.2.2 = true → (method (P.types.size + Made.depth) t (.pointer (some ⟨n, 0, none⟩)) m.1).run P w = .ok (m.2.1, .pointer (some ⟨n, 0, none⟩)) w) ∧
  (m.2.2 = false → ∀ e, k = .ptr e → (method (P.types.size + Made.depth) t (.pointer (some ⟨n, 0, none⟩)) m.1).run P w = (do let r ← loadVar e ⟨n, 0, none⟩; pure (m.2.1, r) : Sem (FuncId × Value)).run P w)
structure TIok (P : Program) (t : TypeId) (i : TI) : Prop where
  inf : (P.info? t).map (fun f => (f.zero.map (fun z => z.cells.toList), f.size, f.bytes)) = some (some i.zero, i.sz, i.bytes)
  agg : (P.underlying t).map aggD = some i.agg
  zl : i.zl = i.zero.map LV.v
  zlen : i.zero.length = i.sz
  one : i.zero.all (·.oneCell') = true
  kind : KOk P t i.kind
  eqs : ∀ ks, i.eqs = some ks → EqOk P t ks
  meth : MethOk P t i.kind i.ms

def TabOk (P : Program) (T : Tab) : Prop := ∀ t i, tyL T t = some i → TIok P t i

section
variable {P : Program} {cx : Cx} {β : List En} {w : World}

theorem run_sz {t : TypeId} {n : Nat} (h : (P.info? t).map (·.size) = some n) (w : World) : (sizeOf t).run P w = .ok n w := by
  obtain ⟨f, hf, rfl⟩ := Option.map_eq_some_iff.1 h
  simp [sizeOf, typeInfo, hf]
theorem run_ag {t : TypeId} {g : Bool} (h : (P.underlying t).map aggD = some g) (w : World) : (isAgg t).run P w = .ok g w := by
  obtain ⟨d, hd, rfl⟩ := Option.map_eq_some_iff.1 h
  unfold isAgg
  rw [Sem.run_bind, run_underlying hd]
  cases d <;> rfl
theorem TIok.size {t : TypeId} {i : TI} (h : TIok P t i) : (P.info? t).map (·.size) = some i.sz := by
  obtain ⟨f, hf, e⟩ := Option.map_eq_some_iff.1 h.inf
  simp only [Prod.mk.injEq] at e
  rw [hf, Option.map_some, e.2.1]
theorem TIok.run_zero {t : TypeId} {i : TI} (h : TIok P t i) : ∃ z, z.cells.toList = i.zero ∧ ∀ w, (zeroValue t).run P w = .ok z w := by
  obtain ⟨f, hf, e⟩ := Option.map_eq_some_iff.1 h.inf
  simp only [Prod.mk.injEq] at e
  obtain ⟨z, hz, ez⟩ := Option.map_eq_some_iff.1 e.1
  exact ⟨z, ez, fun w => by simp [zeroValue, typeInfo, hf, hz]⟩
theorem TIok.zeros {t : TypeId} {i : TI} (h : TIok P t i) : LCs cx β i.zl i.zero := by
  rw [h.zl]
  exact LCs.consts fun v hv => List.all_eq_true.1 h.one v hv

/-! ### Operands -/
theorem const_spec {v : Value} {K : AV → Prop} (h : constK v K) : ∃ r, K r ∧ AC cx β r v := by
  unfold constK at h
  split at h <;> first | exact h.elim | exact ⟨_, h, rfl, rfl⟩
theorem ev_spec {fr : Fr} {a : Act} {x : Operand} {K : AV → Prop} (hf : FR cx β fr a.tmps) (h : evK fr x K) : ∃ r, K r ∧ AC cx β r (a.eval x) := by
  cases x with
  | tmp t =>
    obtain ⟨r, h1, h2⟩ := getF_iff.1 h
    exact ⟨r, h2, hf.2 t r h1⟩
  | const v => exact const_spec h
  | func f => exact ⟨_, h, rfl, rfl⟩
  | global g => exact ⟨_, h, rfl, rfl⟩
theorem evs_spec {fr : Fr} {a : Act} (hf : FR cx β fr a.tmps) : ∀ {xs : List Operand} {K : List AV → Prop}, evsK fr xs K → ∃ rs, K rs ∧ ACs cx β rs (xs.map a.eval)
  | [], K, h => ⟨[], h, trivial⟩
  | x :: xs, K, h => by
    obtain ⟨r, h1, h2⟩ := ev_spec hf h
    obtain ⟨rs, h3, h4⟩ := evs_spec hf h1
    exact ⟨r :: rs, h3, h2, h4⟩

/-! ### Numbers and tests -/
theorem rng_wrap {k : IntKind} {n : Int} (h : rng k n) : k.wrap n = n := by
  cases k <;> first | exact IntWalk.i64_in n h | exact IntWalk.u8_in n h | exact h.elim
theorem acI (k : IntKind) (n : Int) : AC cx β (I k n) (.int k n) := ⟨rfl, rfl⟩
theorem acB (b : Bool) : AC cx β (B b) (.bool b) := ⟨rfl, rfl⟩

theorem int_spec {op : BinOp} {k : IntKind} {x y : Int} {K : AV → Prop} (hs : isSh op = false) (h : intK op k x y K) (t : TypeId) : ∃ r, K r ∧ ∃ v, AC cx β r v ∧ ∀ w, (binOp op t (.int k x) (.int k y)).run P w = .ok v w := by
  cases op <;> simp only [isSh, Bool.true_eq_false] at hs <;> simp only [intK, side_iff] at h
  case add => exact ⟨_, h.2, _, acI _ _, fun w => by simp [binOp, Op.intArith, rng_wrap h.1]⟩
  case sub => exact ⟨_, h.2, _, acI _ _, fun w => by simp [binOp, Op.intArith, rng_wrap h.1]⟩
  case mul => exact ⟨_, h.2, _, acI _ _, fun w => by simp [binOp, Op.intArith, rng_wrap h.1]⟩
  case quo =>
    rw [br_iff] at h
    by_cases hx : x < 0
    · obtain ⟨⟨h1, h2⟩, h3⟩ := h.1 (by simpa using hx)
      have h0 : ¬ y = 0 := by omega
      have e : x.tdiv y = 0 - (0 - x) / y := by
        have := Int.neg_tdiv (a := -x) (b := y)
        rw [Int.neg_neg] at this
        rw [this, Int.tdiv_eq_ediv_of_nonneg (by omega)]
        simp
      exact ⟨_, h3, _, acI _ _, fun w => by simp only [binOp, Op.intDiv, h0, if_false, e, rng_wrap h2, ne_eq, not_true_eq_false]; rfl⟩
    · have h := h.2 (by simpa using hx)
      have h0 : ¬ y = 0 := by omega
      exact ⟨_, h.2, _, acI _ _, fun w => by simp [binOp, Op.intDiv, h0, Int.tdiv_eq_ediv_of_nonneg h.1.1, rng_wrap h.1.2.2]⟩
  case rem =>
    have h0 : ¬ y = 0 := by omega
    exact ⟨_, h.2, _, acI _ _, fun w => by simp [binOp, Op.intDiv, h0, Int.tmod_eq_emod_of_nonneg h.1.1]⟩
  case and => exact ⟨_, h, _, acI _ _, fun w => by simp [binOp, Op.intBits]⟩
  case or => exact ⟨_, h, _, acI _ _, fun w => by simp [binOp, Op.intBits]⟩
  case xor => exact ⟨_, h, _, acI _ _, fun w => by simp [binOp, Op.intBits]⟩
  case andNot => exact ⟨_, h, _, acI _ _, fun w => by simp [binOp, Op.intBits]⟩
  case eql => exact ⟨_, h, _, acB _, fun w => by simp [binOp, Op.intCmp]; rfl⟩
  case neq => exact ⟨_, h, _, acB _, fun w => by simp [binOp, Op.intCmp]; rfl⟩
  case lss => exact ⟨_, h, _, acB _, fun w => by simp [binOp, Op.intCmp]⟩
  case leq => exact ⟨_, h, _, acB _, fun w => by simp [binOp, Op.intCmp]⟩
  case gtr => exact ⟨_, h, _, acB _, fun w => by simp [binOp, Op.intCmp]⟩
  case geq => exact ⟨_, h, _, acB _, fun w => by simp [binOp, Op.intCmp]⟩
  all_goals exact h.elim

theorem sh_spec {op : BinOp} {k k' : IntKind} {x y : Int} {K : AV → Prop} (h : shK op k x y K) (t : TypeId) : ∃ r, K r ∧ ∃ v, AC cx β r v ∧ ∀ w, (binOp op t (.int k x) (.int k' y)).run P w = .ok v w := by
  cases op <;> simp only [shK, side_iff] at h
  case shl =>
    have h0 : ¬ y < 0 := by omega
    exact ⟨_, h.2, _, acI _ _, fun w => by simp [binOp, Op.shift, h0]⟩
  case shr =>
    have h0 : ¬ y < 0 := by omega
    exact ⟨_, h.2, _, acI _ _, fun w => by simp [binOp, Op.shift, h0]⟩
  all_goals exact h.elim

theorem eq1_spec {k : Option IntKind} {x y : LV} {u v : Value} {K : Bool → Prop} (h : eq1 k x y K) (hx : LC cx β x u) (hy : LC cx β y v) : ∃ b, K b ∧ ∀ ks us vs c, cmpV ks us vs = some c → cmpV (k :: ks) (u :: us) (v :: vs) = some (b && c) := by
  unfold eq1 at h
  split at h
  · split at h
    · obtain ⟨_, rfl⟩ := hx
      split at h
      · obtain ⟨_, rfl⟩ := hy
        obtain ⟨hk, h2⟩ := side_iff.1 h
        subst hk
        exact ⟨_, h2, fun ks us vs c hc => by simp [cmpV, hc]⟩
      · exact h.elim
    · exact h.elim
  · split at h
    · obtain ⟨_, rfl⟩ := hx
      split at h
      · obtain ⟨_, rfl⟩ := hy
        exact ⟨_, h, fun ks us vs c hc => by simp [cmpV, hc]⟩
      · exact h.elim
    · exact h.elim
theorem eqLs_spec : ∀ {ks : List (Option IntKind)} {xs ys : List LV} {us vs : List Value} {K : Bool → Prop}, eqLs ks xs ys K → LCs cx β xs us → LCs cx β ys vs → ∃ b, K b ∧ cmpV ks us vs = some b
  | [], [], [], [], [], _, h, _, _ => ⟨true, h, rfl⟩
  | _ :: _, _ :: _, _ :: _, _ :: _, _ :: _, _, h, hx, hy => by
    obtain ⟨b, h1, h2⟩ := eq1_spec h hx.1 hy.1
    obtain ⟨c, h3, h4⟩ := eqLs_spec h1 hx.2 hy.2
    exact ⟨_, h3, h2 _ _ _ _ h4⟩
  | [], [], [], _ :: _, _, _, _, hx, _ => hx.elim
  | [], [], [], [], _ :: _, _, _, _, hy => hy.elim
  | _ :: _, _ :: _, _ :: _, [], _, _, _, hx, _ => hx.elim
  | _ :: _, _ :: _, _ :: _, _ :: _, [], _, _, _, hy => hy.elim
  | [], [], _ :: _, _, _, _, h, _, _ => by simp [eqLs] at h
  | [], _ :: _, _, _, _, _, h, _, _ => by simp [eqLs] at h
  | _ :: _, [], _, _, _, _, h, _, _ => by simp [eqLs] at h
  | _ :: _, _ :: _, [], _, _, _, h, _, _ => by simp [eqLs] at h

theorem eqFields_spec (d : Nat) (us vs : Array Value) : ∀ (ks : List (Option IntKind)) (fs : List Field) (i : Nat) (b : Bool), fs.map (fun f => (f.name != "_", f.offset, P.underlying f.type)) = (ks.zipIdx i).map (fun x => (true, x.2, some (tyOf x.1))) →
    cmpV ks (us.toList.drop i) (vs.toList.drop i) = some b → ∀ w, (Op.eqFields (d + 1) us vs fs).run P w = .ok b w
  | [], [], i, b, _, h, w => by
    cases hu : us.toList.drop i <;> cases hv : vs.toList.drop i <;> rw [hu, hv] at h <;> simp [cmpV] at h
    subst h
    rfl
  | k :: ks, f :: fs, i, b, hf, h, w => by
    simp only [List.map_cons, List.zipIdx_cons, List.cons.injEq, Prod.mk.injEq] at hf
    obtain ⟨⟨f1, f2, f3⟩, f4⟩ := hf
    have hpart : ∀ (zs : Array Value) (z : Value) (rest : List Value), zs.toList.drop i = z :: rest → (part f.type zs f.offset).run P w = .ok z w ∧ zs.toList.drop (i + 1) = rest := by
      intro zs z rest hz
      have h0 : zs[i]? = some z := by
        have := congrArg (fun l => l[0]?) hz
        simpa using this
      refine ⟨?_, by have := congrArg List.tail hz; simpa using this⟩
      have hag : (isAgg f.type).run P w = .ok false w := by
        unfold isAgg
        rw [Sem.run_bind, run_underlying f3]
        cases k <;> rfl
      unfold part
      rw [Sem.run_bind, hag, Result.andThen_ok, f2, h0]
      rfl
    cases hu : us.toList.drop i with
    | nil => rw [hu] at h; cases k <;> simp [cmpV] at h
    | cons u us' =>
      cases hv : vs.toList.drop i with
      | nil => rw [hu, hv] at h; cases k <;> cases u <;> simp [cmpV] at h
      | cons v vs' =>
        obtain ⟨p1, p2⟩ := hpart us u us' hu
        obtain ⟨p3, p4⟩ := hpart vs v vs' hv
        rw [hu, hv] at h
        have fin : ∀ (r c : Bool), (Op.equalIn (d + 1) f.type u v).run P w = .ok r w → cmpV ks us' vs' = some c → b = (r && c) → (Op.eqFields (d + 1) us vs (f :: fs)).run P w = .ok b w := by
          intro r c h1 h2 h3
          have ih := eqFields_spec d us vs ks fs (i + 1) c f4 (by rw [p2, p4]; exact h2) w
          unfold Op.eqFields
          rw [if_pos (by simpa using f1), Sem.run_bind, p1, Result.andThen_ok, Sem.run_bind, p3, Result.andThen_ok, Sem.run_bind, h1, Result.andThen_ok, h3]
          cases r
          · rfl
          · simpa using ih
        cases k with
        | some k0 =>
          cases u <;> cases v <;> simp only [cmpV, reduceCtorEq] at h
          split at h
          · rename_i hk
            subst hk
            obtain ⟨c, h1, h2⟩ := Option.map_eq_some_iff.1 h
            exact fin _ c (run_equalIn_int w d f.type _ k0 _ _ f3) h1 h2.symm
          · cases h
        | none =>
          cases u <;> cases v <;> simp only [cmpV, reduceCtorEq] at h
          obtain ⟨c, h1, h2⟩ := Option.map_eq_some_iff.1 h
          exact fin _ c (run_equalIn_bool' w d f.type _ _ f3) h1 h2.symm
  | [], _ :: _, _, _, hf, _, _ => by simp at hf
  | _ :: _, [], _, _, hf, _, _ => by simp at hf

theorem EqOk.run {t : TypeId} {ks : List (Option IntKind)} (h : EqOk P t ks) {us vs : Array Value} {b : Bool} (hc : cmpV ks us.toList vs.toList = some b) (w : World) : (Op.equalIn 10000 t (.agg us) (.agg vs)).run P w = .ok b w := by
  rw [run_equalIn_struct w 9999 t us vs h.under h.held]
  exact eqFields_spec 9998 us vs ks _ 0 b h.fields (by simpa using hc) w

theorem guard_int {op : BinOp} {t : TypeId} {x y : Operand} {k k' : IntKind} {a b : Int} (w : World) : (eqGuard op t x y (.int k a) (.int k' b)).run P w = .ok () w := by
  unfold eqGuard; dsimp only; split <;> rfl
theorem guard_bool {op : BinOp} {t : TypeId} {x y : Operand} {a b : Bool} (w : World) : (eqGuard op t x y (.bool a) (.bool b)).run P w = .ok () w := by
  unfold eqGuard; dsimp only; split <;> rfl
theorem guard_string {op : BinOp} {t : TypeId} {x y : Operand} {a b : ByteArray} (w : World) : (eqGuard op t x y (.string a) (.string b)).run P w = .ok () w := by
  unfold eqGuard; dsimp only; split <;> rfl

theorem guard_ptr {op : BinOp} {t : TypeId} {x y : Operand} {a b : Option Addr} (w : World) : (eqGuard op t x y (.pointer a) (.pointer b)).run P w = .ok () w := by
  unfold eqGuard; dsimp only; split <;> rfl
theorem eq_nil {t e : TypeId} (hk : P.underlying t = some (.pointer e)) (p : Option Addr) (w : World) : (Op.equal t (.pointer p) (.pointer none)).run P w = .ok p.isNone w := by
  show (Op.equalIn (9999 + 1) t (.pointer p) (.pointer none)).run P w = _
  rw [Op.equalIn, Sem.run_bind, run_underlying hk]
  cases p <;> rfl
theorem bin_spec {T : Tab} (hT : TabOk P T) {op : BinOp} {t : TypeId} {a b : AV} {va vb : Value} {K : AV → Prop} (h : binK T op t a b K) (ha : AC cx β a va) (hb : AC cx β b vb) (x y : Operand) :
    ∃ r, K r ∧ ∃ v, AC cx β r v ∧ ∀ w, (do eqGuard op t x y va vb; binOp op t va vb : Sem Value).run P w = .ok v w := by
  unfold binK at h
  split at h
  · rename_i k x1
    obtain ⟨_, rfl⟩ := ha
    split at h
    · rename_i k' y1
      obtain ⟨_, rfl⟩ := hb
      cases hs : isSh op with
      | true =>
        simp only [hs] at h
        obtain ⟨r, h1, v, h2, h3⟩ := sh_spec (P := P) (cx := cx) (β := β) (k' := k') h t
        exact ⟨r, h1, v, h2, fun w => by rw [Sem.run_bind, guard_int]; exact h3 w⟩
      | false =>
        simp only [hs, side_iff] at h
        obtain ⟨rfl, h⟩ := h
        obtain ⟨r, h1, v, h2, h3⟩ := int_spec (P := P) (cx := cx) (β := β) hs h t
        exact ⟨r, h1, v, h2, fun w => by rw [Sem.run_bind, guard_int]; exact h3 w⟩
    · exact h.elim
  · rename_i x1
    obtain ⟨_, rfl⟩ := ha
    split at h
    · rename_i y1
      obtain ⟨_, rfl⟩ := hb
      obtain ⟨i, hi, h⟩ := tyK_iff.1 h
      have hk := (hT t i hi).kind
      split at h
      · rename_i hkind
        rw [hkind] at hk
        have he : ∀ w, (Op.equal t (.bool x1) (.bool y1)).run P w = .ok (x1 == y1) w := fun w => by
          show (Op.equalIn (9999 + 1) t (.bool x1) (.bool y1)).run P w = _
          rw [Op.equalIn, Sem.run_bind, run_underlying hk]
          rfl
        cases op <;> first | exact h.elim | exact ⟨_, h, _, acB _, fun w => by rw [Sem.run_bind, guard_bool]; simp [binOp, he]⟩
      · exact h.elim
    · exact h.elim
  · rename_i xs
    obtain ⟨us, rfl, hu⟩ := ha
    split at h
    · rename_i ys
      obtain ⟨vs, rfl, hv⟩ := hb
      obtain ⟨i, hi, h⟩ := tyK_iff.1 h
      have hk := (hT t i hi).eqs
      cases he : i.eqs with
      | none => simp only [he] at h
      | some ks =>
        simp only [he] at h
        have hq := hk ks he
        cases op <;> first | exact h.elim | skip
        case eql =>
          obtain ⟨c, h1, h2⟩ := eqLs_spec h hu hv
          refine ⟨_, h1, _, acB _, fun w => ?_⟩
          rw [Sem.run_bind, run_eqGuard_agg w _ t x y us vs hq.guard, Result.andThen_ok, run_eql_struct, hq.run h2]
          rfl
        case neq =>
          obtain ⟨c, h1, h2⟩ := eqLs_spec h hu hv
          refine ⟨_, h1, _, acB _, fun w => ?_⟩
          rw [Sem.run_bind, run_eqGuard_agg w _ t x y us vs hq.guard, Result.andThen_ok, run_neq_struct, hq.run h2]
          rfl
    · exact h.elim
  · rename_i x1
    obtain ⟨_, rfl⟩ := ha
    split at h
    · rename_i y1
      obtain ⟨_, rfl⟩ := hb
      cases op <;> first | exact h.elim | exact ⟨_, h, _, acB _, fun w => by rw [Sem.run_bind, guard_string]; simp [binOp, Op.stringOp]⟩
    · exact h.elim
  · rename_i p
    obtain ⟨_, rfl⟩ := ha
    split at h
    · obtain ⟨_, rfl⟩ := hb
      obtain ⟨i, hi, h⟩ := tyK_iff.1 h
      have hk := (hT t i hi).kind
      split at h
      · rename_i hkind
        rw [hkind] at hk
        cases op <;> first | exact h.elim | exact ⟨_, h, _, acB _, fun w => by rw [Sem.run_bind, guard_ptr]; simp [binOp, eq_nil hk]⟩
      · exact h.elim
    · exact h.elim
  · obtain ⟨_, n, _, rfl⟩ := ha
    split at h
    · obtain ⟨_, rfl⟩ := hb
      obtain ⟨i, hi, h⟩ := tyK_iff.1 h
      have hk := (hT t i hi).kind
      split at h
      · rename_i hkind
        rw [hkind] at hk
        cases op <;> first | exact h.elim | exact ⟨_, h, _, acB _, fun w => by rw [Sem.run_bind, guard_ptr]; simp [binOp, eq_nil hk]⟩
      · exact h.elim
    · exact h.elim
  · exact h.elim

/-! ### Parts of structs -/
theorem cut_load {t : TypeId} {i : TI} (hT : TIok P t i) {cs : List LV} {us : Array Value} {off b : Nat} {T' : TypeId} {fz : Nat × Nat} {K : AV → Prop} (hb : w.heap[b]? = some (.cells us T' fz)) (hcs : LCs cx β cs us.toList) (h : cutK cs off i.sz i.agg K) :
    ∃ r, K r ∧ ∃ v, AC cx β r v ∧ ∀ w' : World, w'.heap[b]? = w.heap[b]? → (loadVar t ⟨b, off, none⟩).run P w' = .ok v w' := by
  obtain ⟨h1, h⟩ := dropK_iff.1 h
  obtain ⟨h2, h⟩ := takeK_iff.1 h
  have hl := (hcs.drop off).take i.sz
  have hlen : ((us.toList.drop off).take i.sz).length = i.sz := by
    have := hl.length
    rw [← this]; simp only [List.length_take] at h2 ⊢; omega
  have cell : ∀ w' : World, w'.heap[b]? = w.heap[b]? → ∀ j v, ((us.toList.drop off).take i.sz)[j]? = some v → w'.cell? ((⟨b, off, none⟩ : Addr).add j) = some v := by
    intro w' hw j v hj
    have hadd : (⟨b, off, none⟩ : Addr).add j = ⟨b, off + j, none⟩ := by unfold Addr.add; split <;> simp_all
    rw [hadd]
    unfold World.cell?
    simp only [hw, hb]
    rw [List.getElem?_take] at hj
    split at hj
    · rw [List.getElem?_drop] at hj
      simpa using hj
    · cases hj
  cases hg : i.agg with
  | true =>
    simp only [hg] at h
    refine ⟨_, h, .agg ((us.toList.drop off).take i.sz).toArray, ⟨_, rfl, by simpa using hl⟩, fun w' hw => ?_⟩
    have hL := run_loadCells_list (P := P) w' ⟨b, off, none⟩ _ (cell w' hw)
    rw [hlen] at hL
    simp [loadVar, run_ag (hg ▸ hT.agg), run_sz hT.size, hL]
  | false =>
    simp only [hg] at h
    split at h
    · rename_i x hx
      rw [hx] at hl
      cases hu : (us.toList.drop off).take i.sz with
      | nil => rw [hu] at hl; exact hl.elim
      | cons v vs =>
        rw [hu] at hl
        refine ⟨_, h, v, hl.1, fun w' hw => ?_⟩
        have := cell w' hw 0 v (by rw [hu]; rfl)
        simp only [Addr.add, if_true] at this
        simp [loadVar, run_ag (hg ▸ hT.agg), load, Sem.run, this]
    · exact h.elim

end
end Ab
end Go.Proofs.Ytacjfkodndkaeaa
