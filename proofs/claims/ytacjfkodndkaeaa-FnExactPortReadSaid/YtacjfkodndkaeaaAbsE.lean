/-
  The operations that make or write memory, and calls by contract. Plain lemmas; the conditions are the types' rows (TIok) and the contracts (CSok).
-/
import Derived.Test.YtacjfkodndkaeaaAbsQ
namespace Go.Proofs.Ytacjfkodndkaeaa
open Go.RowKit
namespace Ab

/-- What an operation leaves. -/
structure Out (cx : Cx) (β : List En) (hp : Hp) (w : World) (S : Nat → Prop) (β' : List En) (hp' : Hp) (w' : World) : Prop where
  inv : Inv cx β' hp' w'
  ext : Ext β β'
  om : ∀ k b, ownB hp' β' k = some b → ownB hp β k = some b ∨ w.heap.size ≤ b
  size : w.heap.size ≤ w'.heap.size
  len : hp.length ≤ hp'.length
  own : ∀ k, k < hp.length → ¬ S k → ownB hp' β' k = ownB hp β k
  tch : ∀ b, b < w.heap.size → (∀ k, S k → ownB hp β k ≠ some b) → w'.heap[b]? = w.heap[b]?

/-- Which blocks may be written in a region that draws. -/
def SW : Option (Nat × List Nat) → Nat → Prop
  | none, _ => True
  | some (n, Wl), k => k ∈ Wl ∨ n ≤ k
theorem mayPut_iff {W : Option (Nat × List Nat)} {k : Nat} : mayPut W k = true ↔ SW W k := by
  cases W with
  | none => simp [mayPut, SW]
  | some W => obtain ⟨n, Wl⟩ := W; simp [mayPut, SW, memN_iff]

section
variable {P : Program} {cx : Cx} {β : List En} {hp : Hp} {w : World} {S : Nat → Prop}

theorem Out.refl (hI : Inv cx β hp w) : Out cx β hp w S β hp w := ⟨hI, Ext.refl _, fun _ _ h => .inl h, Nat.le_refl _, Nat.le_refl _, fun _ _ _ => rfl, fun _ _ _ => rfl⟩
theorem Out.stay (hI : Inv cx β hp w) {w' : World} (hb : Below w.heap.size w w') : Out cx β hp w S β hp w' :=
  ⟨hI.stay hb, Ext.refl _, fun _ _ h => .inl h, hb.size, Nat.le_refl _, fun _ _ _ => rfl, fun b h _ => hb.block b h⟩
theorem Out.mono {S' : Nat → Prop} {β' : List En} {hp' : Hp} {w' : World} (h : Out cx β hp w S β' hp' w') (hs : ∀ k, S k → S' k) : Out cx β hp w S' β' hp' w' :=
  ⟨h.inv, h.ext, h.om, h.size, h.len, fun k hk hn => h.own k hk fun e => hn (hs k e), fun b hb hn => h.tch b hb fun k hk => hn k (hs k hk)⟩

theorem ownB_none {k : Nat} (h : hp[k]? = none) : ownB hp β k = none := by unfold ownB; rw [h]
theorem ownB_d {k : Nat} (h : hp[k]? = some .d) : ownB hp β k = none := by unfold ownB; rw [h]; cases β[k]? <;> rfl

/-- One entry is written, or comes anew. -/
theorem Out.upd (hI : Inv cx β hp w) {k0 : Nat} {h' : HB} {e' : En} {hp' : Hp} {β' : List En} {w' : World} (hS : S k0) (ht : Tch (fun b => ownB hp β k0 = some b) w w')
    (hk : ∀ k, k ≠ k0 → hp'[k]? = hp[k]? ∧ β'[k]? = β[k]?) (hh : hp'[k0]? = some h') (he : β'[k0]? = some e') (hlen : β'.length = hp'.length) (hle : hp.length ≤ hp'.length) (hx : Ext β β') (hok : HOk cx β' w' h' e')
    (hown : ∀ b, ownE h' e' = some b → ownB hp β k0 = some b ∨ w.heap.size ≤ b) : Out cx β hp w S β' hp' w' := by
  have same : ∀ k, k ≠ k0 → ownB hp' β' k = ownB hp β k := fun k h => by unfold ownB; rw [(hk k h).1, (hk k h).2]
  refine ⟨hI.upd ht hk hh he hlen hx hok hown, hx, fun k b hb => ?_, ht.size, hle, fun k _ hn => same k fun e => hn (e ▸ hS), fun b hb hn => ht.block b hb (hn k0 hS)⟩
  by_cases h : k = k0
  · subst h
    rw [ownB_of hh he] at hb
    exact hown b hb
  · rw [same k h] at hb
    exact .inl hb

/-- A block or a list comes anew. -/
theorem new_spec {rsv : Option Nat} {x : HB} {K : Nat → Hp → Prop} (hI : Inv cx β hp w) (h : newH rsv hp x K) (e : En) (hS : ∀ k, (rsv = some k ∨ hp.length ≤ k) → S k) {w' : World} (hb : Below w.heap.size w w')
    (hown : ∀ b, ownE x e = some b → w.heap.size ≤ b) (hok : ∀ β', Ext β β' → HOk cx β' w' x e) : ∃ k hp' β', K k hp' ∧ β'[k]? = some e ∧ Out cx β hp w S β' hp' w' := by
  cases rsv with
  | none =>
    have h1 := endH_iff.1 h
    have hx : Ext β (β ++ [e]) := by
      intro k e0 he
      have hlt : k < β.length := (List.getElem?_eq_some_iff.1 he).1
      have hsame : (β ++ [e])[k]? = some e0 := by rw [List.getElem?_append_left hlt]; exact he
      cases e0 with
      | b n => exact hsame
      | r v ver => exact ⟨v, ver, hsame, Nat.le_refl _, fun _ => rfl⟩
      | x => trivial
    refine ⟨_, _, β ++ [e], h1, by rw [Nat.zero_add, ← hI.len]; simp, ?_⟩
    refine Out.upd (k0 := hp.length) (h' := x) (e' := e) hI (hS _ (.inr (Nat.le_refl _))) (Tch.of_below hb) (fun k hk => ?_) (by simp) (by rw [← hI.len]; simp) (by simp [hI.len]) (by simp) hx (hok _ hx) (fun b hb => .inr (hown b hb))
    have hl := hI.len
    by_cases hlt : k < hp.length
    · exact ⟨List.getElem?_append_left hlt, List.getElem?_append_left (by omega)⟩
    · rw [List.getElem?_eq_none (by simp; omega), List.getElem?_eq_none (by omega), List.getElem?_eq_none (by simp; omega), List.getElem?_eq_none (by omega)]
      exact ⟨rfl, rfl⟩
  | some k =>
    obtain ⟨y, h1, h2⟩ := getH_iff.1 h
    split at h2
    · obtain ⟨h3, h4⟩ := setH_iff.1 h2
      have hl := hI.len
      have hkb : k < β.length := by omega
      have hx : Ext β (β.set k e) := by
        intro i e0 he
        by_cases hik : i = k
        · subst hik
          have ho := hI.ent i _ _ h1 he
          cases e0 <;> first | exact ho.elim | trivial
        · have hsame : (β.set k e)[i]? = some e0 := by rw [List.getElem?_set_ne (Ne.symm hik)]; exact he
          cases e0 with
          | b n => exact hsame
          | r v ver => exact ⟨v, ver, hsame, Nat.le_refl _, fun _ => rfl⟩
          | x => trivial
      refine ⟨k, _, β.set k e, h4, by simp [hkb], ?_⟩
      exact Out.upd (k0 := k) (h' := x) (e' := e) hI (hS _ (.inl rfl)) (Tch.of_below hb) (fun i hi => ⟨List.getElem?_set_ne (Ne.symm hi), List.getElem?_set_ne (Ne.symm hi)⟩) (by simp [h3]) (by simp [hkb]) (by simp [hl]) (by simp) hx (hok _ hx) (fun b hb => .inr (hown b hb))
    · exact h2.elim

theorem put_spec {fr : Fr} {d : Option Tmp} {r : AV} {K : Fr → Prop} {a : Act} {v : Value} (h : putF fr d r K) (hf : FR cx β fr a.tmps) (hr : AC cx β r v) : ∃ fr', K fr' ∧ FR cx β fr' (a.put d v).tmps ∧ (a.put d v).defers = a.defers := by
  cases d with
  | none => exact ⟨fr, h, hf, rfl⟩
  | some d =>
    obtain ⟨h1, h2⟩ := setF_iff.1 h
    refine ⟨_, h2, ⟨by simp [Act.put, hf.1], fun i x hi => ?_⟩, rfl⟩
    by_cases hid : i = d
    · subst hid
      rw [List.getElem?_set_self (by omega)] at hi
      obtain rfl := Option.some.inj hi
      have : i < a.tmps.size := by rw [← hf.1]; exact h1
      simpa [Act.put, Array.getD, this] using hr
    · rw [List.getElem?_set_ne (Ne.symm hid)] at hi
      have := hf.2 i x hi
      have e : (a.put (some d) v).tmps.getD i undef = a.tmps.getD i undef := by
        simp only [Act.put, Array.getD_eq_getD_getElem?, Array.getElem?_setIfInBounds_ne (Ne.symm hid)]
      rw [e]
      exact this

/-- What holds behind an operation. -/
def Post (cx : Cx) (β : List En) (hp : Hp) (w : World) (S : Nat → Prop) (a : Act) (K : Fr → Hp → Prop) : Act → World → Prop := fun a' w' => ∃ fr' hp' β', K fr' hp' ∧ FR cx β' fr' a'.tmps ∧ a'.defers = a.defers ∧ Out cx β hp w S β' hp' w'

theorem cells_spec {a : AV} {v : Value} {K : List LV → Prop} (h : cellsK a K) (ha : AC cx β a v) : ∃ vs, K vs ∧ LCs cx β vs v.cells.toList := by
  unfold cellsK at h
  split at h
  · refine ⟨_, h, ?_⟩
    have h5 : LC cx β _ v := ha
    have h6 : v.cells = #[v] := by
      have := h5.1
      cases hv : v <;> first | rfl | (rw [hv] at this; cases this)
    rw [h6]
    exact ⟨h5, trivial⟩
  · obtain ⟨us', e, h5⟩ := ha
    exact ⟨_, h, by rw [e]; exact h5⟩
  · exact h.elim

theorem parts_spec {fr : Fr} {a : Act} (hf : FR cx β fr a.tmps) {sz : Nat} : ∀ (i n : Nat) (parts : List (Nat × Operand)) (K : List LV → Prop), partsK fr sz i n parts K →
    ∃ cs, K cs ∧ ∃ us : List Value, LCs cx β cs us ∧ us.length = n * sz ∧ ∀ (m : Nat) (cells : Array Value), m = i + n → cells.size = m * sz → ∃ cells' : Array Value, Instr.fill (fun i => some (i * sz, sz)) cells (parts.map fun x => (x.1, a.eval x.2)) = some cells' ∧ cells'.toList = cells.toList.take (i * sz) ++ us
  | i, 0, [], K, h => ⟨[], h, [], trivial, by simp, fun m cells hm hc => ⟨cells, rfl, by simp; rw [List.take_of_length_le (by simp; rw [hc, hm]; simp)]⟩⟩
  | i, n + 1, (i', x) :: r, K, h => by
    obtain ⟨h1, h2⟩ := side_iff.1 h
    have hi : i = i' := Nat.eq_of_beq_eq_true h1
    subst hi
    obtain ⟨ra, h3, h4⟩ := ev_spec hf h2
    obtain ⟨vs, h5, h6⟩ := cells_spec h3 h4
    obtain ⟨h7, h8⟩ := lenK_iff.1 h5
    obtain ⟨cs, h9, us, h10, h11, h12⟩ := parts_spec hf (i + 1) n r _ h8
    have hover : ∀ (vs cs : List LV) (K : List LV → Prop), partsK.overJ vs cs K → K (vs ++ cs) := by
      intro vs
      induction vs with
      | nil => intro cs K h; exact h
      | cons v vs ih => intro cs K h; exact ih cs _ h
    have hl : (a.eval x).cells.size = sz := by rw [← h7, h6.length]; simp
    refine ⟨vs ++ cs, hover _ _ _ h9, (a.eval x).cells.toList ++ us, LCs.append h6 h10, by simp [hl, h11, Nat.succ_mul]; omega, fun m cells hm hc => ?_⟩
    have hle : (i + 1) * sz ≤ m * sz := Nat.mul_le_mul_right _ (by omega)
    rw [Nat.succ_mul] at hle
    have hset := fold_set (a.eval x).cells.toList cells (i * sz) 0 (by simp; omega)
    obtain ⟨cells', h13, h14⟩ := h12 m ((a.eval x).cells.zipIdx.foldl (fun cs (x : Value × Nat) => cs.setIfInBounds (i * sz + x.2) x.1) cells) (by omega) (by
      have := congrArg List.length hset
      rw [← Array.foldl_toList, Array.toList_zipIdx, ← Array.length_toList, this]
      simp
      omega)
    refine ⟨cells', ?_, ?_⟩
    · simp only [List.map_cons, Instr.fill]
      rw [if_neg (by simp; omega)]
      exact h13
    · rw [h14, ← Array.foldl_toList, Array.toList_zipIdx, hset]
      simp only [Nat.add_zero, Array.length_toList, hl]
      rw [List.take_append_of_le_length (by simp; rw [hl, Nat.succ_mul]; omega), List.take_of_length_le (by simp; rw [hl, Nat.succ_mul]; omega)]
      simp
  | _, 0, _ :: _, _, h => by simp [partsK] at h
  | _, _ + 1, [], _, h => by simp [partsK] at h

theorem toEL_spec {ek : EK} {cs : List LV} {us : List Value} {K : EL → Prop} (h : toELK ek cs K) (hc : LCs cx β cs us) : ∃ l, K l ∧ l.enc = us ∧ l.sz = ek.sz := by
  have go : ∀ (cs : List LV) (us : List Value) (K : EL → Prop), toELK.go cs K → LCs cx β cs us → ∃ l, K (.ints l) ∧ (EL.ints l).enc = us := by
    intro cs
    induction cs with
    | nil =>
      intro us K h hc
      cases us with
      | nil => exact ⟨[], h, rfl⟩
      | cons _ _ => exact hc.elim
    | cons c r ih =>
      intro us K h hc
      unfold toELK.go at h
      split at h
      · rename_i e; cases e
      · rename_i n r' e
        obtain ⟨rfl, rfl⟩ := List.cons.inj e
        cases us with
        | nil => exact hc.elim
        | cons u us =>
          obtain ⟨l, h1, h2⟩ := ih us _ h hc.2
          obtain ⟨⟨_, rfl⟩, _⟩ := hc
          exact ⟨n :: l, h1, by simp only [EL.enc, List.map_cons] at h2 ⊢; rw [h2]⟩
      · exact h.elim
  have go2 : ∀ (m : Nat) (cs : List LV) (us : List Value) (K : EL → Prop), cs.length ≤ m → toELK.go2 cs K → LCs cx β cs us → ∃ l, K (.gots l) ∧ (EL.gots l).enc = us := by
    intro m
    induction m with
    | zero =>
      intro cs us K hm h hc
      cases cs with
      | nil =>
        cases us with
        | nil => exact ⟨[], h, rfl⟩
        | cons _ _ => exact hc.elim
      | cons _ _ => simp at hm
    | succ m ih =>
      intro cs us K hm h hc
      unfold toELK.go2 at h
      split at h
      · cases us with
        | nil => exact ⟨[], h, rfl⟩
        | cons _ _ => exact hc.elim
      · rename_i n1 n2 r'
        cases us with
        | nil => exact hc.elim
        | cons u us => cases us with
          | nil => exact hc.2.elim
          | cons u2 us =>
            obtain ⟨l, h1, h2⟩ := ih r' us _ (by simp at hm; omega) h hc.2.2
            obtain ⟨⟨_, rfl⟩, ⟨_, rfl⟩, _⟩ := hc
            exact ⟨(n1, n2) :: l, h1, by simp only [EL.enc, List.flatMap_cons] at h2 ⊢; rw [h2]; rfl⟩
      · exact h.elim
  have go3 : ∀ (m : Nat) (cs : List LV) (us : List Value) (K : EL → Prop), cs.length ≤ m → toELK.go3 cs K → LCs cx β cs us → ∃ l, K (.k3 l) ∧ (EL.k3 l).enc = us := by
    intro m
    induction m with
    | zero =>
      intro cs us K hm h hc
      cases cs with
      | nil =>
        cases us with
        | nil => exact ⟨[], h, rfl⟩
        | cons _ _ => exact hc.elim
      | cons _ _ => simp at hm
    | succ m ih =>
      intro cs us K hm h hc
      unfold toELK.go3 at h
      split at h
      · cases us with
        | nil => exact ⟨[], h, rfl⟩
        | cons _ _ => exact hc.elim
      · rename_i n1 n2 n3 r'
        cases us with
        | nil => exact hc.elim
        | cons u us => cases us with
          | nil => exact hc.2.elim
          | cons u2 us => cases us with
            | nil => exact hc.2.2.elim
            | cons u3 us =>
              obtain ⟨l, h1, h2⟩ := ih r' us _ (by simp at hm; omega) h hc.2.2.2
              obtain ⟨⟨_, rfl⟩, ⟨_, rfl⟩, ⟨_, rfl⟩, _⟩ := hc
              exact ⟨(n1, n2, n3) :: l, h1, by simp only [EL.enc, List.flatMap_cons] at h2 ⊢; rw [h2]; rfl⟩
      · exact h.elim
  cases ek with
  | k3 => obtain ⟨l, h1, h2⟩ := go3 _ cs us K (Nat.le_refl _) h hc; exact ⟨_, h1, h2, rfl⟩
  | ints => obtain ⟨l, h1, h2⟩ := go cs us K h hc; exact ⟨_, h1, h2, rfl⟩
  | bytes =>
    cases cs with
    | nil =>
      cases us with
      | nil => exact ⟨_, h, rfl, rfl⟩
      | cons _ _ => exact hc.elim
    | cons _ _ => exact h.elim
  | gots => obtain ⟨l, h1, h2⟩ := go2 _ cs us K (Nat.le_refl _) h hc; exact ⟨_, h1, h2, rfl⟩

def ST : Option (List Nat) → Nat → Prop
  | none, _ => True
  | some l, k => k ∈ l
/-- A contract that holds. -/
structure CSok (P : Program) (f : FuncId) (c : CS) : Prop where
  fn : (P.funcs[f]?).map (fun fn => (fn.name == "runtime.NumGoroutine", fn.body.isNone)) = some (false, false)
  snd : ∀ as1 hp K, c.S as1 hp K → ∀ cx β (w : World) (vs : Array Value), Inv cx β hp w → ACs cx β as1 vs.toList →
    Calls P f vs w fun e w' => ∃ v r hp' β', e = .returned v ∧ K r hp' ∧ AC cx β' r v ∧ Out cx β hp w (ST (c.tch as1)) β' hp' w'
def EnvOk (P : Program) (G : Env) : Prop := ∀ f c, (f, c) ∈ G → CSok P f c

theorem run_callFunc {f : FuncId} (h : (P.funcs[f]?).map (fun fn => (fn.name == "runtime.NumGoroutine", fn.body.isNone)) = some (false, false)) (vs : Array Value) (w : World) : (callFunc f vs).run P w = .ok (.enter f vs) w := by
  obtain ⟨fn, hf, e⟩ := Option.map_eq_some_iff.1 h
  simp only [Prod.mk.injEq] at e
  obtain ⟨e1, e2⟩ := e
  unfold callFunc
  change Sem.run P (match P.funcs[f]? with | none => _ | some fn => _) w = _
  rw [hf]
  dsimp only
  rw [e1]
  simp only [Bool.false_eq_true, if_false]
  rw [e2]
  rfl

theorem allIn_spec {W : Option (Nat × List Nat)} : ∀ {l : List Nat}, allIn W l = true → ∀ k ∈ l, SW W k
  | [], _, k, hk => by cases hk
  | a :: l, h, k, hk => by
    simp only [allIn, Bool.and_eq_true] at h
    rcases List.mem_cons.1 hk with rfl | hk
    · exact mayPut_iff.1 h.1
    · exact allIn_spec h.2 k hk

theorem mayTch_spec {W : Option (Nat × List Nat)} {l : Option (List Nat)} (h : mayTch W l = true) (k : Nat) (hk : ST l k) : SW W k := by
  cases l with
  | some l => cases W <;> exact allIn_spec h k hk
  | none => cases W with
    | none => trivial
    | some W => cases h
theorem app_spec {l m : EL} {K : EL → Prop} (h : appEL l m K) : ∃ l', K l' ∧ l'.enc = l.enc ++ m.enc ∧ l'.len = l.len + m.len ∧ l'.sz = l.sz ∧ m.sz = l.sz := by
  cases l <;> cases m <;> first | exact h.elim | exact ⟨_, h, by simp [EL.enc], by simp [EL.len], rfl, rfl⟩

end
end Ab
end Go.Proofs.Ytacjfkodndkaeaa
