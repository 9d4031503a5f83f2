/-
  Functions that send into a channel of the caller's own, or receive from it, with nobody else there. Plain lemmas; the conditions are the types' rows (TIok) and the contracts (CSok).
-/
import Derived.Test.YtfgpiecpifckdaaAbsW
import Derived.Conc.LoneCalls
namespace Go.Proofs.Ytfgpiecpifckdaa
open Go.RowKit
namespace Ab
section
variable {P : Program} {Q : Exit → Act → World → Prop} {a : Act} {w : World} {ops : Array Oper}

/-- Code in a frame that was called. -/
def wpK (P : Program) (c : Code) (Q : Exit → Act → World → Prop) (a : Act) (w : World) : Prop :=
  ∀ (b : Frame) (k : List Item) (cs : List Frame), b.kind = .normal → ∃ e a' w', Q e a' w' ∧ Arrives P (lone (b.at a (.code c :: k)) cs w) b k cs e a' w'
theorem wpK.of_wp {c : Code} (h : c.wp P Q a w) : wpK P c Q a w := fun b k cs _ => h b k cs
theorem wpK.mono {c : Code} {Q' : Exit → Act → World → Prop} (h : wpK P c Q a w) (hq : ∀ e a w, Q e a w → Q' e a w) : wpK P c Q' a w := fun b k cs hb =>
  let ⟨e, a', w', q, r⟩ := h b k cs hb
  ⟨e, a', w', hq _ _ _ q, r⟩
theorem wpK.seq {c d : Code} (h : wpK P c (fun e a w => (e = .normal ∧ wpK P d Q a w) ∨ (e = .ret ∧ Q .ret a w)) a w) : wpK P (.seq c d) Q a w := by
  intro b k cs hb
  obtain ⟨e, a1, w1, hq, harr⟩ := h b (.code d :: k) cs hb
  rcases hq with ⟨rfl, hq⟩ | ⟨rfl, hq⟩
  · obtain ⟨e2, a2, w2, hq2, harr2⟩ := hq b k cs hb
    exact ⟨e2, a2, w2, hq2, .of_steps (.head step_seq harr) harr2⟩
  · exact ⟨.ret, a1, w1, hq, .of_steps (e := .ret) (.one step_seq) harr⟩
theorem wpK.skip (h : Q .normal a w) : wpK P .skip Q a w := .of_wp (wp_skip h)
theorem wpK.cond {c : Operand} {x y : Code} {t : Bool} (hc : a.eval c = .bool t) (hT : t = true → wpK P x Q a w) (hF : t = false → wpK P y Q a w) : wpK P (.cond c x y) Q a w := by
  intro b k cs hb
  cases t with
  | true =>
    obtain ⟨e, a', w', q, r⟩ := hT rfl b k cs hb
    exact ⟨e, a', w', q, .of_steps (.one (step_cond hc)) r⟩
  | false =>
    obtain ⟨e, a', w', q, r⟩ := hF rfl b k cs hb
    exact ⟨e, a', w', q, .of_steps (.one (step_cond hc)) r⟩

/-- Operations of a region, in a frame that was called. -/
def wpKo (P : Program) (ops : Array Oper) (Q : Exit → Act → World → Prop) (l : List Nat) (a : Act) (w : World) : Prop :=
  ∀ (b : Frame) (k : List Item) (cs : List Frame), b.kind = .normal → ∃ e a' w', Q e a' w' ∧ Arrives P (lone (b.at a (.inRegion ops l :: k)) cs w) b k cs e a' w'
theorem wpK.region {id : Nat} (h : wpKo P ops Q (List.range ops.size) a w) : wpK P (.region id ops false) Q a w := fun b k cs hb =>
  let ⟨e, a', w', q, r⟩ := h b k cs hb
  ⟨e, a', w', q, .of_steps (.one step_region) r⟩
theorem wpKo.of_ops {l : List Nat} (h : wpOps P ops Q l a w) : wpKo P ops Q l a w := fun b k cs _ => wp_ops l a w h b k cs
theorem wpKo.value {i : Nat} {rest : List Nat} {o : Oper} {v : Value} {w' : World} (ho : ops[i]? = some o) (hg : o.guard = none) (hr : (execOp a.eval o).run P w = .ok (.value v) w') (h : wpKo P ops Q rest (a.put o.dst v) w') : wpKo P ops Q (i :: rest) a w := by
  intro b k cs hb
  obtain ⟨e, a', w2, hq, harr⟩ := h b k cs hb
  refine ⟨e, a', w2, hq, .of_steps (.one (step_lone_go ?_)) harr⟩
  have hfin := Frame.finish_at b a ops i rest k v
  rw [ho] at hfin
  have hfin : (b.at a (.inRegion ops (i :: rest) :: k)).finish v = b.at (a.put o.dst v) (.inRegion ops rest :: k) := hfin
  rw [stepG_op ho (by simp [Region.wanted, hg]), ← hfin]
  simp [stepG.apply, hr]
theorem wpKo.defer {i : Nat} {rest : List Nat} {o : Oper} {d : Deferred} {w' : World} (ho : ops[i]? = some o) (hg : o.guard = none) (hr : (execOp a.eval o).run P w = .ok (.defer d) w') (h : wpKo P ops Q rest ({ a with defers := d :: a.defers }.put o.dst undef) w') : wpKo P ops Q (i :: rest) a w := by
  intro b k cs hb
  obtain ⟨e, a', w2, hq, harr⟩ := h b k cs hb
  refine ⟨e, a', w2, hq, .of_steps (.one (step_lone_go ?_)) harr⟩
  have hfin := Frame.finish_at b { a with defers := d :: a.defers } ops i rest k undef
  rw [ho] at hfin
  have hfin : ({ b.at a (.inRegion ops (i :: rest) :: k) with defers := d :: a.defers } : Frame).finish undef = b.at ({ a with defers := d :: a.defers }.put o.dst undef) (.inRegion ops rest :: k) := hfin
  rw [stepG_op ho (by simp [Region.wanted, hg])]
  simp only [stepG.apply, Sem.runT_eq, hr, GStep.bare_after]
  exact congrArg (fun fr => GStep.go { frame := fr, callers := cs, status := .running, dying := none } w') hfin
theorem wpKo.send {i : Nat} {rest : List Nat} {o : Oper} {x y : Operand} {c cap s r : Nat} {v : Value} {buf : Array Value} {tm : Bool} (ho : ops[i]? = some o) (hg : o.guard = none) (hop : o.op = .send x y) (hx : a.eval x = .chan (some c)) (hy : a.eval y = v)
    (hc : w.heap[c]? = some (.chan cap buf false s r tm)) (hroom : buf.size < cap) (h : wpKo P ops Q rest (a.put o.dst undef) (w.setChan c cap (buf.push v) false (s + 1) r tm)) : wpKo P ops Q (i :: rest) a w := by
  intro b k cs hb
  obtain ⟨e, a', w2, hq, harr⟩ := h b k cs hb
  refine ⟨e, a', w2, hq, .of_steps (.one ?_) harr⟩
  have h1 := Go.Conc.step_lone_send_room (P := P) (fr := b.at a (.inRegion ops (i :: rest) :: k)) (cs := cs) (w := w) (c := c) (cap := cap) (buf := buf) (s := s) (r := r) (v := v) (z' := .tuple #[]) (tm := tm)
    (Go.Conc.stepG_comm (cases := #[Go.Conc.scase c v (.tuple #[])]) (blocking := true) (shape := .send) (w' := w) ho (by simp [Region.wanted, hg]) (by simp [hb]) (by simp [execOp, hop, hx, hy, Go.Conc.scase])) hc hroom
  have hfin := Frame.finish_at b a ops i rest k undef
  rw [ho] at hfin
  rw [hfin] at h1
  exact h1
theorem wpKo.recv {i : Nat} {rest : List Nat} {o : Oper} {c cap s r : Nat} {z v : Value} {buf : Array Value} {tm closed : Bool} (ho : ops[i]? = some o) (hg : o.guard = none) (hr : (execOp a.eval o).run P w = .ok (.comm #[Go.Conc.rcase c z] true (.recv true)) w)
    (hc : w.heap[c]? = some (.chan cap buf closed s r tm)) (hsome : 0 < buf.size) (hv : buf.getD 0 undef = v) (h : wpKo P ops Q rest (a.put o.dst (.tuple #[v, .bool true])) (w.setChan c cap (buf.extract 1 buf.size) closed s (r + 1) tm)) : wpKo P ops Q (i :: rest) a w := by
  intro b k cs hb
  obtain ⟨e, a', w2, hq, harr⟩ := h b k cs hb
  refine ⟨e, a', w2, hq, .of_steps (.one ?_) harr⟩
  have h1 := Go.Conc.step_lone_recv_buf (P := P) (fr := b.at a (.inRegion ops (i :: rest) :: k)) (cs := cs) (w := w) (c := c) (cap := cap) (buf := buf) (closed := closed) (s := s) (r := r) (z := z) (tm := tm) true
    (Go.Conc.stepG_comm (cases := #[Go.Conc.rcase c z]) (blocking := true) (shape := .recv true) (w' := w) ho (by simp [Region.wanted, hg]) (by simp [hb]) hr) hc hsome
  have hfin := Frame.finish_at b a ops i rest k (Go.Conc.got true (buf.getD 0 undef) true)
  rw [ho] at hfin
  rw [hfin, hv] at h1
  exact h1
theorem wpKo.recv0 {i : Nat} {rest : List Nat} {o : Oper} {c cap s r : Nat} {z : Value} {tm : Bool} (ho : ops[i]? = some o) (hg : o.guard = none) (hr : (execOp a.eval o).run P w = .ok (.comm #[Go.Conc.rcase c z] true (.recv true)) w)
    (hc : w.heap[c]? = some (.chan cap #[] true s r tm)) (h : wpKo P ops Q rest (a.put o.dst (.tuple #[z, .bool false])) w) : wpKo P ops Q (i :: rest) a w := by
  intro b k cs hb
  obtain ⟨e, a', w2, hq, harr⟩ := h b k cs hb
  refine ⟨e, a', w2, hq, .of_steps (.one ?_) harr⟩
  have h1 := Go.Conc.step_lone_recv_shut (P := P) (fr := b.at a (.inRegion ops (i :: rest) :: k)) (cs := cs) (w := w) (c := c) (cap := cap) (s := s) (r := r) (z := z) (tm := tm) true
    (Go.Conc.stepG_comm (cases := #[Go.Conc.rcase c z]) (blocking := true) (shape := .recv true) (w' := w) ho (by simp [Region.wanted, hg]) (by simp [hb]) hr) hc
  have hfin := Frame.finish_at b a ops i rest k (Go.Conc.got true z false)
  rw [ho] at hfin
  rw [hfin] at h1
  exact h1

/-! ### Leaving -/
theorem step_built {fr : Frame} {cs : List Frame} {d : Deferred} {ds : List Deferred} {bi : Builtin} {ats : Array TypeId} {ty : TypeId} {cn : Array Bool} {u : Value} {w' : World} (hm : fr.mode = .returning) (hd : fr.defers = d :: ds) (ht : d.target = .builtin bi ats ty cn)
    (hi : (invoke d.target d.args).run P w = .ok (.value u) w') : step P (lone fr cs w) = .next (lone { fr with defers := ds } cs w') := by
  obtain ⟨t, av⟩ := d
  dsimp only at ht hi
  subst ht
  exact step_lone_go (by simp [stepG, unwind, callDeferred, hm, hd, hi])
def postK (P : Program) (fn : Func) (R : Ending → World → Prop) (e : Exit) (a : Act) (w : World) : Prop := e = .ret ∧ ((a.defers = [] ∧ ∃ v, (results fn a.tmps).run P w = .ok v w ∧ R (.returned v) w) ∨
  ∃ d bi ats ty cn u w', a.defers = [d] ∧ d.target = .builtin bi ats ty cn ∧ (invoke d.target d.args).run P w = .ok (.value u) w' ∧ ∃ v, (results fn a.tmps).run P w' = .ok v w' ∧ R (.returned v) w')
theorem calls_of_wpK {f : FuncId} {fn : Func} {c : Code} {args : Array Value} {R : Ending → World → Prop} (hf : P.funcs[f]? = some fn) (hb : fn.body = some c)
    (h : wpK P c (postK P fn R) { tmps := args ++ Array.replicate (fn.ntmps - args.size) undef, defers := [] } w) : Calls P f args w R := by
  intro cs
  have henter : Frame.enter P f args .normal = ({ (default : Frame) with fn := f, kind := .normal } : Frame).at { tmps := args ++ Array.replicate (fn.ntmps - args.size) undef, defers := [] } [.code c] := by
    simp [Frame.enter, Frame.at, hf, hb]
  obtain ⟨e, a', w', hq, harr⟩ := h { (default : Frame) with fn := f, kind := .normal } [] cs rfl
  rw [← henter] at harr
  obtain ⟨rfl, hq⟩ := hq
  obtain ⟨todo, hs⟩ := harr
  rcases hq with ⟨hd, v, hr, hR⟩ | ⟨d, bi, ats, ty, cn, u, w2, hd, ht, hi, v, hr, hR⟩
  · exact ⟨.returned v, w', _, hR, hs, rfl, rfl, hd, rfl, fn, hf, hr⟩
  · exact ⟨.returned v, w2, _, hR, Steps.trans hs (.one (step_built (d := d) rfl hd ht hi)), rfl, rfl, rfl, rfl, fn, hf, hr⟩
end

/-! ### The channel's block -/
theorem chan_upd {cx : Cx} {β : List En} {hp : Hp} {w : World} (hI : Inv cx β hp w) {k n : Nat} {Φ Ψ : Obj → Prop} {ob : Obj} (h1 : hp[k]? = some (.x Φ)) (h2 : β[k]? = some (.b n)) (hΨ : Ψ ob) :
    Out cx β hp w (fun _ => True) β (hp.set k (.x Ψ)) { w with heap := w.heap.setIfInBounds n ob } := by
  have hk : k < hp.length := (List.getElem?_eq_some_iff.1 h1).1
  obtain ⟨hn, ob0, h3, _⟩ := hI.ent k _ _ h1 h2
  have hlt : n < w.heap.size := (Array.getElem?_eq_some_iff.1 h3).1
  refine Out.upd (k0 := k) (h' := .x Ψ) (e' := .b n) hI trivial ⟨rfl, rfl, rfl, by simp, fun b hb hnb => ?_⟩ (fun i hi => ⟨List.getElem?_set_ne (Ne.symm hi), rfl⟩) (by simp [hk]) h2 (by simpa using hI.len) (by simp) (Ext.refl _) ⟨hn, ob, by simp [hlt], hΨ⟩ (fun b hb => .inl ?_)
  · have : n ≠ b := fun e => hnb (by rw [ownB_of h1 h2, e]; rfl)
    simp [Array.getElem?_setIfInBounds_ne this]
  · rw [ownB_of h1 h2]
    exact hb
end Ab
end Go.Proofs.Ytfgpiecpifckdaa

/-
  A function that puts at most one number into a channel and closes it, and one that takes it: what the abstract walk says of them is what they do. Plain lemmas; the conditions are the types' rows (TIok) and the contracts (CSok).
-/
namespace Go.Proofs.Ytfgpiecpifckdaa
open Go.RowKit
namespace Ab

/-- The rest of a function that closes the channel k behind it. -/
def endS (T : Tab) (G : Env) (TR : Nat → Tr) (fn : Func) (E : Code) (N k : Nat) (L : List Int) (fr : Fr) (hp : Hp) (K : AV → Hp → Prop) : Prop := execN T G N [] TR E fr hp fun e fr7 hp7 => match e with
  | .n => False
  | .x _ => False
  | .r => getH hp7 k fun h => match h with
    | .x Φ => Side (∀ o, Φ o → chanO L false o) <| setH hp7 k (.x (chanO L true)) fun hp8 => outK T fr7 hp8 fn.results.toList fun r => K r hp8
    | _ => False
/-- The number goes into the channel. -/
def putS (hp : Hp) (k : Nat) (fr : Fr) (K : Int → Fr → Hp → Prop) : Prop := getF fr 1 fun c => match c with
  | .l (.o none k') => Side (Nat.beq k' k = true) <| setF fr 17 c fun fr5 => getF fr5 6 fun b => match b with
    | .l (.v (.int .i64 x)) => setF fr5 18 b fun fr6 => getH hp k fun h => match h with
      | .x Φ => Side (∀ o, Φ o → chanO [] false o) <| setH hp k (.x (chanO [x] false)) fun hp6 => K x fr6 hp6
      | _ => False
    | _ => False
  | _ => False
def sendS (T : Tab) (G : Env) (TR : Nat → Tr) (fn : Func) (r0 r2 r3 E : Code) (xs : List AV) (hp : Hp) (K : AV → Hp → Prop) : Prop := Side (Nat.ble xs.length fn.ntmps = true) <| natK (lenH hp) fun N =>
  execN T G N [] TR r0 (padF fn.ntmps xs) hp fun e fr1 hp1 => match e with
  | .x _ => False
  | .r => False
  | .n => getF fr1 1 fun c => match c with
    | .l (.o none k) => getH hp k fun h0 => match h0 with
      | .x _ => setF fr1 8 c fun fr2 => execN T G N [] TR r2 fr2 hp1 fun e fr3 hp3 => match e with
        | .x _ => False
        | .r => False
        | .n => execN T G N [] TR r3 fr3 hp3 fun e fr4 hp4 => match e with
          | .x _ => False
          | .r => False
          | .n => getF fr4 16 fun t => match t with
            | .l (.v (.bool t)) => Br t (putS hp4 k fr4 fun x fr6 hp6 => endS T G TR fn E N k [x] fr6 hp6 K) (endS T G TR fn E N k [] fr4 hp4 K)
            | _ => False
      | _ => False
    | _ => False
/-- What comes out of the channel. -/
def takeS (hp : Hp) (fr : Fr) (K : Fr → Hp → Prop) : Prop := getF fr 3 fun c => match c with
  | .l (.o none k) => setF fr 17 c fun fr2 => getH hp k fun h => match h with
    | .x Φ => ∃ l : Option Int, (∀ o, Φ o → chanO l.toList true o) ∧ match l with
      | some x => setF fr2 18 (.t [.inl (.v (.int .i64 x)), .inl (.v (.bool true))]) fun fr3 => setH hp k (.x (chanO [] true)) fun hp3 => K fr3 hp3
      | none => setF fr2 18 (.t [.inl (.v (.int .i64 0)), .inl (.v (.bool false))]) fun fr3 => setH hp k (.x (chanO [] true)) fun hp3 => K fr3 hp3
    | _ => False
  | _ => False
def recvS (T : Tab) (G : Env) (TR : Nat → Tr) (fn : Func) (r0 E : Code) (ops : Array Oper) (xs : List AV) (hp : Hp) (K : AV → Hp → Prop) : Prop := Side (Nat.ble xs.length fn.ntmps = true) <| natK (lenH hp) fun N =>
  execN T G N [] TR r0 (padF fn.ntmps xs) hp fun e fr1 hp1 => match e with
  | .x _ => False
  | .r => False
  | .n => takeS hp1 fr1 fun fr3 hp3 => opsN T G ops.toList (ops.toList.drop 2) fr3 hp3 fun fr4 hp4 => execN T G N [] TR E fr4 hp4 fun e fr5 hp5 => match e with
    | .n => False
    | .x _ => False
    | .r => outK T fr5 hp5 fn.results.toList fun r => K r hp5

section
variable {P : Program} {cx : Cx} {β0 : List En} {hp0 : Hp} {w0 : World}

theorem at_start {w : World} {xs : List AV} {vs : Array Value} {n : Nat} (hI : Inv cx β0 hp0 w) (ha : ACs cx β0 xs vs.toList) (hn : xs.length ≤ n) : At cx β0 hp0 w [] (padF n xs) hp0 { tmps := vs ++ Array.replicate (n - vs.size) undef, defers := [] } w := by
  have hl : xs.length = vs.size := by rw [ha.length]; simp
  refine ⟨β0, hI, ⟨?_, fun i x hi => ?_⟩, rfl, ⟨fun k e _ he => ?_, fun k b hb => ?_, Nat.le_refl _, Nat.le_refl _, fun _ _ _ => rfl⟩⟩
  · rw [pad_len _ _ hn]; simp; omega
  · rcases pad_get _ _ i x hi with h1 | rfl
    · obtain ⟨v, h2, h3⟩ := ha.get h1
      have hlt : i < vs.size := by
        have := (List.getElem?_eq_some_iff.1 h2).1
        simpa using this
      have : (vs ++ Array.replicate (n - vs.size) undef).getD i undef = v := by
        have h4 : vs[i]? = some v := by simpa using h2
        simp [Array.getD_eq_getD_getElem?, Array.getElem?_append_left hlt, h4]
      show AC cx β0 x ((vs ++ Array.replicate (n - vs.size) undef).getD i undef)
      rw [this]
      exact h3
    · trivial
  · cases e with
    | b n => exact he
    | r v ver => exact ⟨v, ver, he, Nat.le_refl _, fun _ => rfl⟩
    | x => trivial
  · by_cases hk : k < hp0.length
    · exact .inl ⟨hk, hb⟩
    · rw [ownB_none (by simp; omega)] at hb
      cases hb

theorem exK {T : Tab} {G : Env} (hT : TabOk P T) (hG : EnvOk P G) (hM : P.follows .mixedOrders = true) {TR : Nat → Tr} {d0 : List Deferred} {c : Code} {K : Xt → Fr → Hp → Prop} {Q : Exit → Act → World → Prop} {fr : Fr} {hp : Hp} {a : Act} {w : World}
    (h : execN T G hp0.length [] TR c fr hp K) (hA : At cx β0 hp0 w0 d0 fr hp a w) (hQ : ∀ e fr hp a w, K e fr hp → At cx β0 hp0 w0 d0 fr hp a w → Q (exOf e) a w) : wpK P c Q a w := by
  rw [execN_eq] at h
  exact wpK.of_wp (exec_spec hT hG hM c K Q fr hp a w hQ hA h)

/-- What a call leaves. -/
def Left (cx : Cx) (β0 : List En) (hp0 : Hp) (w0 : World) (K : AV → Hp → Prop) (e : Ending) (w' : World) : Prop := ∃ v r hp' β', e = .returned v ∧ K r hp' ∧ AC cx β' r v ∧ Inv cx β' hp' w' ∧ Lk β0 hp0 w0 β' hp' w'

theorem endS_ok {T : Tab} {G : Env} (hT : TabOk P T) (hG : EnvOk P G) (hM : P.follows .mixedOrders = true) {TR : Nat → Tr} {fn : Func} {E : Code} {k n : Nat} {L : List Int} {fr : Fr} {hp : Hp} {K : AV → Hp → Prop} {d : Deferred} {ats : Array TypeId} {ty : TypeId} {cn : Array Bool} {a : Act} {w : World}
    (h : endS T G TR fn E hp0.length k L fr hp K) (hA : At cx β0 hp0 w0 [d] fr hp a w) (hb : β0[k]? = some (.b n)) (hk : k < hp0.length) (hd : d.target = .builtin .close ats ty cn) (hda : d.args = #[.chan (some n)]) : wpK P E (postK P fn (Left cx β0 hp0 w0 K)) a w := by
  refine exK hT hG hM h hA ?_
  intro e fr7 hp7 a7 w7 hk7 hA7
  cases e with
  | n => exact hk7.elim
  | x id => exact hk7.elim
  | r =>
    refine ⟨rfl, .inr ?_⟩
    obtain ⟨β7, hI7, hf7, hd7, hL7⟩ := hA7
    have hb7 : β7[k]? = some (.b n) := hL7.ext k _ hk hb
    obtain ⟨hh, hh1, hk7⟩ := getH_iff.1 hk7
    split at hk7
    · obtain ⟨hΦ, hk7⟩ := side_iff.1 hk7
      obtain ⟨_, hk7⟩ := setH_iff.1 hk7
      obtain ⟨hn, ob, h3, h4⟩ := hI7.ent k _ _ hh1 hb7
      obtain ⟨s, r, rfl⟩ := hΦ _ h4
      have ho := chan_upd (Ψ := chanO L true) (ob := .chan 1 (L.map (Value.int .i64)).toArray true s r false) hI7 hh1 hb7 ⟨s, r, rfl⟩
      obtain ⟨x, hx, v, hv1, hv2⟩ := out_spec hT ho.inv hf7 hk7
      refine ⟨d, .close, ats, ty, cn, .tuple #[], _, hd7, hd, ?_, v, hv2, v, x, _, β7, rfl, hx, hv1, ho.inv, hL7.out ho⟩
      rw [hd, hda]
      have hc := run_close_open (P := P) ats ty h3
      simp [invoke, builtin, hc]
    · exact hk7.elim

theorem sendS_ok {T : Tab} {G : Env} (hT : TabOk P T) (hG : EnvOk P G) (hM : P.follows .mixedOrders = true) {TR : Nat → Tr} {f : FuncId} {fn : Func} {r0 r2 r3 E : Code} {o0 o1 p0 p1 p2 : Oper} {id1 id4 : Nat} {cl : Call} (hfn : P.funcs[f]? = some fn)
    (hok : (P.funcs[f]?).map (fun fn => (fn.name == "runtime.NumGoroutine", fn.body.isNone)) = some (false, false)) (hB : fn.body = some (.seq r0 (.seq (.region id1 #[o0, o1] false) (.seq r2 (.seq (.seq r3 (.cond (.tmp 16) (.region id4 #[p0, p1, p2] false) .skip)) E)))))
    (h0 : o0.op = .move (.tmp 1) ∧ o0.dst = some 8 ∧ o0.guard = none) (h1 : o1.op = .defer cl ∧ o1.dst = none ∧ o1.guard = none) (hc : cl.callee = .builtin .close ∧ cl.args = #[.tmp 8])
    (g0 : p0.op = .move (.tmp 1) ∧ p0.dst = some 17 ∧ p0.guard = none) (g1 : p1.op = .move (.tmp 6) ∧ p1.dst = some 18 ∧ p1.guard = none) (g2 : p2.op = .send (.tmp 17) (.tmp 18) ∧ p2.dst = none ∧ p2.guard = none) :
    CSok P f { S := sendS T G TR fn r0 r2 r3 E, tch := fun _ => none } := by
  refine ⟨hok, fun xs hp K hS cx β w vs hI ha => ?_⟩
  obtain ⟨hn, hS⟩ := side_iff.1 hS
  have hS := natK_iff.1 hS
  rw [lenH_eq] at hS
  have hA := at_start hI ha (by simpa using hn)
  refine Calls.mono (calls_of_wpK hfn hB (R := Left cx β hp w K) ?_) ?_
  · refine wpK.seq (exK hT hG hM hS hA ?_)
    intro e fr1 hp1 a1 w1 hk1 hA1
    cases e with
    | x id => exact hk1.elim
    | r => exact hk1.elim
    | n =>
      refine .inl ⟨rfl, ?_⟩
      obtain ⟨c, hc1, hk1⟩ := getF_iff.1 hk1
      split at hk1
      · rename_i k
        obtain ⟨hb0, hh0, hk1⟩ := getH_iff.1 hk1
        split at hk1
        · rename_i Φ0
          obtain ⟨hlt, hk1⟩ := setF_iff.1 hk1
          have hkl : k < hp.length := (List.getElem?_eq_some_iff.1 hh0).1
          obtain ⟨e0, he0⟩ : ∃ e0, β[k]? = some e0 := ⟨_, List.getElem?_eq_getElem (by rw [hI.len]; exact hkl)⟩
          have hent := hI.ent k _ _ hh0 he0
          obtain ⟨n, rfl⟩ : ∃ n, e0 = .b n := by
            cases e0 with
            | b n => exact ⟨n, rfl⟩
            | r v ver => exact hent.elim
            | x => exact hent.elim
          obtain ⟨β1, hI1, hf1, hd1, hL1⟩ := hA1
          have hb1 : β1[k]? = some (.b n) := hL1.ext k _ hkl he0
          have hv1 : a1.tmps.getD 1 undef = .chan (some n) := by
            obtain ⟨_, m, hm1, hm2⟩ := hf1.2 1 _ hc1
            rw [hb1] at hm1
            cases hm1
            exact hm2
          have hcv : AC cx β1 (.l (.o none k)) (.chan (some n)) := ⟨rfl, n, hb1, rfl⟩
          obtain ⟨fr2, rfl, hf2, hdf2⟩ := put_spec (d := some 8) (K := fun fr' => fr' = fr1.set 8 (.l (.o none k))) (setF_iff.2 ⟨hlt, rfl⟩) hf1 hcv
          refine wpK.seq (wpK.region ?_)
          refine wpKo.value (o := o0) (v := .chan (some n)) (w' := w1) rfl h0.2.2 (by simp [execOp, h0.1, Act.eval, hv1]) ?_
          rw [h0.2.1]
          have hsz : 8 < a1.tmps.size := by rw [← hf1.1]; exact hlt
          have hv8 : (a1.put (some 8) (.chan (some n))).tmps.getD 8 undef = .chan (some n) := by simp [Act.put, Array.getD, hsz]
          refine wpKo.defer (o := o1) (d := ⟨.builtin .close cl.argTypes o1.type (cl.args.map fun | .const _ => true | _ => false), #[.chan (some n)]⟩) (w' := w1) rfl h1.2.2 ?_ ?_
          · simp only [execOp, h1.1, resolve, hc.1]
            simp [hc.2, Act.eval, hv8]
          rw [h1.2.1]
          refine wpKo.of_ops ?_
          refine .inl ⟨rfl, ?_⟩
          have hA2 : At cx β hp w [⟨.builtin .close cl.argTypes o1.type (cl.args.map fun | .const _ => true | _ => false), #[.chan (some n)]⟩] (fr1.set 8 (.l (.o none k))) hp1 (({ a1.put (some 8) (.chan (some n)) with defers := ⟨.builtin .close cl.argTypes o1.type (cl.args.map fun | .const _ => true | _ => false), #[.chan (some n)]⟩ :: (a1.put (some 8) (.chan (some n))).defers } : Act).put none undef) w1 :=
            ⟨β1, hI1, hf2, by simp [Act.put, hd1], hL1⟩
          refine wpK.seq (exK hT hG hM hk1 hA2 ?_)
          intro e fr3 hp3 a3 w3 hk3 hA3
          cases e with
          | x id => exact hk3.elim
          | r => exact hk3.elim
          | n =>
            refine .inl ⟨rfl, ?_⟩
            refine wpK.seq (wpK.seq (exK hT hG hM hk3 hA3 ?_))
            intro e fr4 hp4 a4 w4 hk4 hA4
            cases e with
            | x id => exact hk4.elim
            | r => exact hk4.elim
            | n =>
              refine .inl ⟨rfl, ?_⟩
              obtain ⟨t, ht1, hk4⟩ := getF_iff.1 hk4
              split at hk4
              · rename_i t
                have hbr := br_iff.1 hk4
                obtain ⟨β4, hI4, hf4, hd4, hL4⟩ := hA4
                have htv : a4.eval (.tmp 16) = .bool t := (hf4.2 16 _ ht1).2
                have hb4 : β4[k]? = some (.b n) := hL4.ext k _ hkl he0
                refine wpK.cond htv (fun hT1 => ?_) (fun hF1 => ?_)
                · have hp := hbr.1 hT1
                  obtain ⟨c, hc4, hp⟩ := getF_iff.1 hp
                  split at hp
                  · rename_i k'
                    obtain ⟨hkk, hp⟩ := side_iff.1 hp
                    obtain rfl : k' = k := Nat.eq_of_beq_eq_true hkk
                    obtain ⟨hlt17, hp⟩ := setF_iff.1 hp
                    have hcv4 : AC cx β4 (.l (.o none k')) (.chan (some n)) := ⟨rfl, n, hb4, rfl⟩
                    have hv4 : a4.tmps.getD 1 undef = .chan (some n) := by
                      obtain ⟨_, m, hm1, hm2⟩ := hf4.2 1 _ hc4
                      rw [hb4] at hm1
                      cases hm1
                      exact hm2
                    obtain ⟨fr5, rfl, hf5, hdf5⟩ := put_spec (d := some 17) (K := fun fr' => fr' = fr4.set 17 (.l (.o none k'))) (setF_iff.2 ⟨hlt17, rfl⟩) hf4 hcv4
                    obtain ⟨b, hb6, hp⟩ := getF_iff.1 hp
                    split at hp
                    · rename_i x
                      obtain ⟨hlt18, hp⟩ := setF_iff.1 hp
                      have hv6 : (a4.put (some 17) (.chan (some n))).tmps.getD 6 undef = .int .i64 x := (hf5.2 6 _ hb6).2
                      obtain ⟨fr6, rfl, hf6, hdf6⟩ := put_spec (d := some 18) (r := .l (.v (.int .i64 x))) (v := .int .i64 x) (K := fun fr' => fr' = (fr4.set 17 (.l (.o none k'))).set 18 (.l (.v (.int .i64 x)))) (setF_iff.2 ⟨hlt18, rfl⟩) hf5 ⟨rfl, rfl⟩
                      obtain ⟨hh, hh1, hp⟩ := getH_iff.1 hp
                      split at hp
                      · obtain ⟨hΦ, hp⟩ := side_iff.1 hp
                        obtain ⟨_, hp⟩ := setH_iff.1 hp
                        obtain ⟨hn4, ob, h3, h4⟩ := hI4.ent k' _ _ hh1 hb4
                        obtain ⟨s, r, rfl⟩ := hΦ _ h4
                        have ho := chan_upd (Ψ := chanO [x] false) (ob := .chan 1 #[.int .i64 x] false (s + 1) r false) hI4 hh1 hb4 ⟨s + 1, r, rfl⟩
                        have hs17 : 17 < a4.tmps.size := by rw [← hf4.1]; exact hlt17
                        have hs18 : 18 < a4.tmps.size := by rw [← hf4.1]; simpa using hlt18
                        have e17 : ((a4.put (some 17) (.chan (some n))).put (some 18) (.int .i64 x)).tmps.getD 17 undef = .chan (some n) := by simp [Act.put, Array.getD_eq_getD_getElem?, hs17]
                        have e18 : ((a4.put (some 17) (.chan (some n))).put (some 18) (.int .i64 x)).tmps.getD 18 undef = .int .i64 x := by simp [Act.put, Array.getD, hs18]
                        refine wpK.region ?_
                        refine wpKo.value (o := p0) (v := .chan (some n)) (w' := w4) rfl g0.2.2 (by simp [execOp, g0.1, Act.eval, hv4]) ?_
                        rw [g0.2.1]
                        refine wpKo.value (o := p1) (v := .int .i64 x) (w' := w4) rfl g1.2.2 (by simp [execOp, g1.1, Act.eval, hv6]) ?_
                        rw [g1.2.1]
                        refine wpKo.send (o := p2) (c := n) (cap := 1) (s := s) (r := r) (v := .int .i64 x) (buf := #[]) (tm := false) rfl g2.2.2 g2.1 e17 e18 h3 (by simp) ?_
                        rw [g2.2.1]
                        refine wpKo.of_ops ?_
                        refine .inl ⟨rfl, ?_⟩
                        exact endS_ok (d := ⟨.builtin .close cl.argTypes o1.type (cl.args.map fun | .const _ => true | _ => false), #[.chan (some n)]⟩) hT hG hM hp ⟨β4, ho.inv, hf6, by simp [Act.put, hd4], hL4.out ho⟩ he0 hkl rfl rfl
                      · exact hp.elim
                    · exact hp.elim
                  · exact hp.elim
                · exact wpK.skip (.inl ⟨rfl, endS_ok (d := ⟨.builtin .close cl.argTypes o1.type (cl.args.map fun | .const _ => true | _ => false), #[.chan (some n)]⟩) hT hG hM (hbr.2 hF1) ⟨β4, hI4, hf4, hd4, hL4⟩ he0 hkl rfl rfl⟩)
              · exact hk4.elim
        · exact hk1.elim
      · exact hk1.elim
  · rintro e w' ⟨v, r, hp', β', rfl, h4, h5, h6, h7⟩
    refine ⟨v, r, hp', β', rfl, h4, h5, ⟨h6, fun k e he => ?_, fun k b hb => (h7.om k b hb).imp And.right id, h7.size, h7.len, fun k _ hn => (hn trivial).elim, fun b hb hn => h7.tch b hb fun k => hn k trivial⟩⟩
    exact h7.ext k e (by rw [← hI.len]; exact (List.getElem?_eq_some_iff.1 he).1) he

theorem range2 {n m : Nat} (h : n = m + 2) : List.range n = 0 :: 1 :: List.range' 2 m := by
  subst h
  rw [List.range_eq_range', List.range'_succ, List.range'_succ]

theorem recvS_ok {T : Tab} {G : Env} (hT : TabOk P T) (hG : EnvOk P G) (hM : P.follows .mixedOrders = true) {TR : Nat → Tr} {f : FuncId} {fn : Func} {r0 E : Code} {ops : Array Oper} {o0 o1 : Oper} {id1 : Nat} (hfn : P.funcs[f]? = some fn)
    (hok : (P.funcs[f]?).map (fun fn => (fn.name == "runtime.NumGoroutine", fn.body.isNone)) = some (false, false)) (hB : fn.body = some (.seq r0 (.seq (.region id1 ops false) E))) (hs : ops.size = (ops.toList.drop 2).length + 2)
    (q0 : ops[0]? = some o0) (h0 : o0.op = .move (.tmp 3) ∧ o0.dst = some 17 ∧ o0.guard = none) (q1 : ops[1]? = some o1) (h1 : o1.dst = some 18 ∧ o1.guard = none)
    {ct : TypeId} (hop : o1.op = .recv ct (.tmp 17) true)
    (hz1 : ∀ (a : Act) (w : World), (execOp a.eval ⟨none, .recv ct (.tmp 17) true, 0, "", #[], none⟩).run P w = .ok (.comm #[{ chan := a.eval (.tmp 17), send := none, zero := .int .i64 0 }] true (.recv true)) w) :
    CSok P f { S := recvS T G TR fn r0 E ops, tch := fun _ => none } := by
  have hz : ∀ (a : Act) (c : Nat) (w : World), a.eval (.tmp 17) = .chan (some c) → (execOp a.eval o1).run P w = .ok (.comm #[Go.Conc.rcase c (.int .i64 0)] true (.recv true)) w := by
    intro a c w h
    have h2 := hz1 a w
    rw [h] at h2
    simp only [execOp, hop] at h2 ⊢
    exact h2
  refine ⟨hok, fun xs hp K hS cx β w vs hI ha => ?_⟩
  obtain ⟨hn, hS⟩ := side_iff.1 hS
  have hS := natK_iff.1 hS
  rw [lenH_eq] at hS
  have hA := at_start hI ha (by simpa using hn)
  refine Calls.mono (calls_of_wpK hfn hB (R := Left cx β hp w K) ?_) ?_
  · refine wpK.seq (exK hT hG hM hS hA ?_)
    intro e fr1 hp1 a1 w1 hk1 hA1
    cases e with
    | x id => exact hk1.elim
    | r => exact hk1.elim
    | n =>
      refine .inl ⟨rfl, ?_⟩
      obtain ⟨c, hc1, hk1⟩ := getF_iff.1 hk1
      split at hk1
      · rename_i k
        obtain ⟨hlt, hk1⟩ := setF_iff.1 hk1
        obtain ⟨hb0, hh0, hk1⟩ := getH_iff.1 hk1
        split at hk1
        · rename_i Φ
          obtain ⟨l, hΦ, hk1⟩ := hk1
          obtain ⟨β1, hI1, hf1, hd1, hL1⟩ := hA1
          obtain ⟨n, hb1, hv1⟩ : ∃ n, β1[k]? = some (.b n) ∧ a1.tmps.getD 3 undef = .chan (some n) := (hf1.2 3 _ hc1).2
          obtain ⟨hn1, ob, h3, h4⟩ := hI1.ent k _ _ hh0 hb1
          obtain ⟨s, r, rfl⟩ := hΦ _ h4
          have hcv : AC cx β1 (.l (.o none k)) (.chan (some n)) := ⟨rfl, n, hb1, rfl⟩
          obtain ⟨fr2, rfl, hf2, hdf2⟩ := put_spec (d := some 17) (K := fun fr' => fr' = fr1.set 17 (.l (.o none k))) (setF_iff.2 ⟨hlt, rfl⟩) hf1 hcv
          have hs17 : 17 < a1.tmps.size := by rw [← hf1.1]; exact hlt
          have e17 : (a1.put (some 17) (.chan (some n))).tmps.getD 17 undef = .chan (some n) := by simp [Act.put, Array.getD, hs17]
          have rest : ∀ (fr3 : Fr) (hp3 : Hp) (a3 : Act) (w3 : World), At cx β hp w [] fr3 hp3 a3 w3 → (opsN T G ops.toList (ops.toList.drop 2) fr3 hp3 fun fr4 hp4 => execN T G hp.length [] TR E fr4 hp4 fun e fr5 hp5 => match e with
              | .n => False
              | .x _ => False
              | .r => outK T fr5 hp5 fn.results.toList fun r => K r hp5) →
              wpKo P ops (fun e a w' => (e = .normal ∧ wpK P E (postK P fn (Left cx β hp w K)) a w') ∨ (e = .ret ∧ postK P fn (Left cx β hp w K) .ret a w')) (List.range' 2 (ops.toList.drop 2).length) a3 w3 := by
            intro fr3 hp3 a3 w3 hA3 hk3
            rw [opsN_eq] at hk3
            refine wpKo.of_ops (ops_spec hT hG ?_ _ 2 fr3 hp3 a3 w3 rfl hA3 hk3)
            intro fr4 hp4 a4 w4 hk4 hA4
            refine .inl ⟨rfl, exK hT hG hM hk4 hA4 ?_⟩
            intro e fr5 hp5 a5 w5 hk5 hA5
            cases e with
            | n => exact hk5.elim
            | x id => exact hk5.elim
            | r =>
              obtain ⟨β5, hI5, hf5, hd5, hL5⟩ := hA5
              obtain ⟨x, hx, v, hv1, hv2⟩ := out_spec hT hI5 hf5 hk5
              exact ⟨rfl, .inl ⟨hd5, v, hv2, v, x, _, β5, rfl, hx, hv1, hI5, hL5⟩⟩
          refine wpK.seq (wpK.region ?_)
          rw [range2 hs]
          refine wpKo.value (o := o0) (v := .chan (some n)) (w' := w1) q0 h0.2.2 (by simp [execOp, h0.1, Act.eval, hv1]) ?_
          rw [h0.2.1]
          cases l with
          | some x =>
            obtain ⟨hlt18, hk1⟩ := setF_iff.1 hk1
            obtain ⟨_, hk1⟩ := setH_iff.1 hk1
            obtain ⟨fr3, rfl, hf3, hdf3⟩ := put_spec (d := some 18) (r := .t [.inl (.v (.int .i64 x)), .inl (.v (.bool true))]) (v := .tuple #[.int .i64 x, .bool true]) (K := fun fr' => fr' = (fr1.set 17 (.l (.o none k))).set 18 (.t [.inl (.v (.int .i64 x)), .inl (.v (.bool true))])) (setF_iff.2 ⟨hlt18, rfl⟩) hf2 ⟨_, rfl, ⟨rfl, rfl⟩, ⟨rfl, rfl⟩, trivial⟩
            have ho := chan_upd (Ψ := chanO [] true) (ob := .chan 1 #[] true s (r + 1) false) hI1 hh0 hb1 ⟨s, r + 1, rfl⟩
            refine wpKo.recv (o := o1) (c := n) (cap := 1) (s := s) (r := r) (z := .int .i64 0) (v := .int .i64 x) (buf := #[.int .i64 x]) (tm := false) (closed := true) q1 h1.2 (hz _ n _ e17) h3 (by simp) (by simp [Array.getD]) ?_
            rw [h1.1]
            exact rest _ _ _ _ ⟨β1, ho.inv, hf3, by simp [Act.put, hd1], hL1.out ho⟩ hk1
          | none =>
            obtain ⟨hlt18, hk1⟩ := setF_iff.1 hk1
            obtain ⟨_, hk1⟩ := setH_iff.1 hk1
            obtain ⟨fr3, rfl, hf3, hdf3⟩ := put_spec (d := some 18) (r := .t [.inl (.v (.int .i64 0)), .inl (.v (.bool false))]) (v := .tuple #[.int .i64 0, .bool false]) (K := fun fr' => fr' = (fr1.set 17 (.l (.o none k))).set 18 (.t [.inl (.v (.int .i64 0)), .inl (.v (.bool false))])) (setF_iff.2 ⟨hlt18, rfl⟩) hf2 ⟨_, rfl, ⟨rfl, rfl⟩, ⟨rfl, rfl⟩, trivial⟩
            have ho := chan_upd (Ψ := chanO [] true) (ob := .chan 1 #[] true s r false) hI1 hh0 hb1 ⟨s, r, rfl⟩
            refine wpKo.recv0 (o := o1) (c := n) (cap := 1) (s := s) (r := r) (z := .int .i64 0) (tm := false) q1 h1.2 (hz _ n _ e17) h3 ?_
            rw [h1.1]
            have hw : ({ w1 with heap := w1.heap.setIfInBounds n (.chan 1 #[] true s r false) } : World) = w1 := by
              have hlt : n < w1.heap.size := (Array.getElem?_eq_some_iff.1 h3).1
              have he : w1.heap.setIfInBounds n (.chan 1 #[] true s r false) = w1.heap := by
                apply Array.ext_getElem?
                intro i
                by_cases hi : n = i
                · subst hi
                  rw [h3]
                  simp [hlt]
                · rw [Array.getElem?_setIfInBounds_ne hi]
              rw [he]
            rw [hw] at ho
            exact rest _ _ _ _ ⟨β1, ho.inv, hf3, by simp [Act.put, hd1], hL1.out ho⟩ hk1
        · exact hk1.elim
      · exact hk1.elim
  · rintro e w' ⟨v, r, hp', β', rfl, h4, h5, h6, h7⟩
    refine ⟨v, r, hp', β', rfl, h4, h5, ⟨h6, fun k e he => ?_, fun k b hb => (h7.om k b hb).imp And.right id, h7.size, h7.len, fun k _ hn => (hn trivial).elim, fun b hb hn => h7.tch b hb fun k => hn k trivial⟩⟩
    exact h7.ext k e (by rw [← hI.len]; exact (List.getElem?_eq_some_iff.1 he).1) he
end
end Ab
end Go.Proofs.Ytfgpiecpifckdaa
