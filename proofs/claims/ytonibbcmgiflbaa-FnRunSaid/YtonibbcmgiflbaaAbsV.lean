/-
  Functions that send into a channel of the caller's own, or receive from it, with nobody else there. Plain lemmas; the conditions are the types' rows (TIok) and the contracts (CSok).
-/
import Derived.Test.YtonibbcmgiflbaaAbsW
import Derived.Conc.LoneCalls
namespace Go.Proofs.Ytonibbcmgiflbaa
open Go.RowKit
namespace Ab
section
variable {P : Program} {Q : Exit → Act → World → Prop} {a : Act} {w : World} {ops : Array Oper}

/-- Code in a frame that was called. -/
def wpK (P : Program) (c : Code) (Q : Exit → Act → World → Prop) (a : Act) (w : World) : Prop :=
  ∀ (b : Frame) (k : List Item) (cs : List Frame), b.kind = .normal → ∃ e a' w', Q e a' w' ∧ Arrives P (lone (b.at a (.code c :: k)) cs w) b k cs e a' w'
theorem wpK.of_wp {c : Code} (h : c.wp P Q a w) : wpK P c Q a w := fun b k cs _ => h b k cs
theorem wpK.mono {c : Code} {Q' : Exit → Act → World → Prop} (h : wpK P c Q a w) (hq : ∀ e a w, Q e a w → Q' e a w) : wpK P c Q' a w := fun b k cs hb =>
  let ⟨e, a', w', q, r⟩ := h b k cs hb
  ⟨e, a', w', hq _ _ _ q, r⟩
theorem wpK.seq {c d : Code} (h : wpK P c (fun e a w => (e = .normal ∧ wpK P d Q a w) ∨ (e = .ret ∧ Q .ret a w)) a w) : wpK P (.seq c d) Q a w := by
  intro b k cs hb
  obtain ⟨e, a1, w1, hq, harr⟩ := h b (.code d :: k) cs hb
  rcases hq with ⟨rfl, hq⟩ | ⟨rfl, hq⟩
  · obtain ⟨e2, a2, w2, hq2, harr2⟩ := hq b k cs hb
    exact ⟨e2, a2, w2, hq2, .of_steps (.head step_seq harr) harr2⟩
  · exact ⟨.ret, a1, w1, hq, .of_steps (e := .ret) (.one step_seq) harr⟩
theorem wpK.skip (h : Q .normal a w) : wpK P .skip Q a w := .of_wp (wp_skip h)
theorem wpK.cond {c : Operand} {x y : Code} {t : Bool} (hc : a.eval c = .bool t) (hT : t = true → wpK P x Q a w) (hF : t = false → wpK P y Q a w) : wpK P (.cond c x y) Q a w := by
  intro b k cs hb
  cases t with
  | true =>
    obtain ⟨e, a', w', q, r⟩ := hT rfl b k cs hb
    exact ⟨e, a', w', q, .of_steps (.one (step_cond hc)) r⟩
  | false =>
    obtain ⟨e, a', w', q, r⟩ := hF rfl b k cs hb
    exact ⟨e, a', w', q, .of_steps (.one (step_cond hc)) r⟩

/-- Operations of a region, in a frame that was called. -/
def wpKo (P : Program) (ops : Array Oper) (Q : Exit → Act → World → Prop) (l : List Nat) (a : Act) (w : World) : Prop :=
  ∀ (b : Frame) (k : List Item) (cs : List Frame), b.kind = .normal → ∃ e a' w', Q e a' w' ∧ Arrives P (lone (b.at a (.inRegion ops l :: k)) cs w) b k cs e a' w'
theorem wpK.region {id : Nat} (h : wpKo P ops Q (List.range ops.size) a w) : wpK P (.region id ops false) Q a w := fun b k cs hb =>
  let ⟨e, a', w', q, r⟩ := h b k cs hb
  ⟨e, a', w', q, .of_steps (.one step_region) r⟩
theorem wpKo.of_ops {l : List Nat} (h : wpOps P ops Q l a w) : wpKo P ops Q l a w := fun b k cs _ => wp_ops l a w h b k cs
theorem wpKo.value {i : Nat} {rest : List Nat} {o : Oper} {v : Value} {w' : World} (ho : ops[i]? = some o) (hg : o.guard = none) (hr : (execOp a.eval o).run P w = .ok (.value v) w') (h : wpKo P ops Q rest (a.put o.dst v) w') : wpKo P ops Q (i :: rest) a w := by
  intro b k cs hb
  obtain ⟨e, a', w2, hq, harr⟩ := h b k cs hb
  refine ⟨e, a', w2, hq, .of_steps (.one (step_lone_go ?_)) harr⟩
  have hfin := Frame.finish_at b a ops i rest k v
  rw [ho] at hfin
  have hfin : (b.at a (.inRegion ops (i :: rest) :: k)).finish v = b.at (a.put o.dst v) (.inRegion ops rest :: k) := hfin
  rw [stepG_op ho (by simp [Region.wanted, hg]), ← hfin]
  simp [stepG.apply, hr]
theorem wpKo.defer {i : Nat} {rest : List Nat} {o : Oper} {d : Deferred} {w' : World} (ho : ops[i]? = some o) (hg : o.guard = none) (hr : (execOp a.eval o).run P w = .ok (.defer d) w') (h : wpKo P ops Q rest ({ a with defers := d :: a.defers }.put o.dst undef) w') : wpKo P ops Q (i :: rest) a w := by
  intro b k cs hb
  obtain ⟨e, a', w2, hq, harr⟩ := h b k cs hb
  refine ⟨e, a', w2, hq, .of_steps (.one (step_lone_go ?_)) harr⟩
  have hfin := Frame.finish_at b { a with defers := d :: a.defers } ops i rest k undef
  rw [ho] at hfin
  have hfin : ({ b.at a (.inRegion ops (i :: rest) :: k) with defers := d :: a.defers } : Frame).finish undef = b.at ({ a with defers := d :: a.defers }.put o.dst undef) (.inRegion ops rest :: k) := hfin
  rw [stepG_op ho (by simp [Region.wanted, hg])]
  simp only [stepG.apply, Sem.runT_eq, hr, GStep.bare_after]
  exact congrArg (fun fr => GStep.go { frame := fr, callers := cs, status := .running, dying := none } w') hfin
theorem wpKo.send {i : Nat} {rest : List Nat} {o : Oper} {x y : Operand} {c cap s r : Nat} {v : Value} {buf : Array Value} {tm : Bool} (ho : ops[i]? = some o) (hg : o.guard = none) (hop : o.op = .send x y) (hx : a.eval x = .chan (some c)) (hy : a.eval y = v)
    (hc : w.heap[c]? = some (.chan cap buf false s r tm)) (hroom : buf.size < cap) (h : wpKo P ops Q rest (a.put o.dst undef) (w.setChan c cap (buf.push v) false (s + 1) r tm)) : wpKo P ops Q (i :: rest) a w := by
  intro b k cs hb
  obtain ⟨e, a', w2, hq, harr⟩ := h b k cs hb
  refine ⟨e, a', w2, hq, .of_steps (.one ?_) harr⟩
  have h1 := Go.Conc.step_lone_send_room (P := P) (fr := b.at a (.inRegion ops (i :: rest) :: k)) (cs := cs) (w := w) (c := c) (cap := cap) (buf := buf) (s := s) (r := r) (v := v) (z' := .tuple #[]) (tm := tm)
    (Go.Conc.stepG_comm (cases := #[Go.Conc.scase c v (.tuple #[])]) (blocking := true) (shape := .send) (w' := w) ho (by simp [Region.wanted, hg]) (by simp [hb]) (by simp [execOp, hop, hx, hy, Go.Conc.scase])) hc hroom
  have hfin := Frame.finish_at b a ops i rest k undef
  rw [ho] at hfin
  rw [hfin] at h1
  exact h1
theorem wpKo.recv {i : Nat} {rest : List Nat} {o : Oper} {c cap s r : Nat} {z v : Value} {buf : Array Value} {tm closed : Bool} (ho : ops[i]? = some o) (hg : o.guard = none) (hr : (execOp a.eval o).run P w = .ok (.comm #[Go.Conc.rcase c z] true (.recv true)) w)
    (hc : w.heap[c]? = some (.chan cap buf closed s r tm)) (hsome : 0 < buf.size) (hv : buf.getD 0 undef = v) (h : wpKo P ops Q rest (a.put o.dst (.tuple #[v, .bool true])) (w.setChan c cap (buf.extract 1 buf.size) closed s (r + 1) tm)) : wpKo P ops Q (i :: rest) a w := by
  intro b k cs hb
  obtain ⟨e, a', w2, hq, harr⟩ := h b k cs hb
  refine ⟨e, a', w2, hq, .of_steps (.one ?_) harr⟩
  have h1 := Go.Conc.step_lone_recv_buf (P := P) (fr := b.at a (.inRegion ops (i :: rest) :: k)) (cs := cs) (w := w) (c := c) (cap := cap) (buf := buf) (closed := closed) (s := s) (r := r) (z := z) (tm := tm) true
    (Go.Conc.stepG_comm (cases := #[Go.Conc.rcase c z]) (blocking := true) (shape := .recv true) (w' := w) ho (by simp [Region.wanted, hg]) (by simp [hb]) hr) hc hsome
  have hfin := Frame.finish_at b a ops i rest k (Go.Conc.got true (buf.getD 0 undef) true)
  rw [ho] at hfin
  rw [hfin, hv] at h1
  exact h1
theorem wpKo.recv0 {i : Nat} {rest : List Nat} {o : Oper} {c cap s r : Nat} {z : Value} {tm : Bool} (ho : ops[i]? = some o) (hg : o.guard = none) (hr : (execOp a.eval o).run P w = .ok (.comm #[Go.Conc.rcase c z] true (.recv true)) w)
    (hc : w.heap[c]? = some (.chan cap #[] true s r tm)) (h : wpKo P ops Q rest (a.put o.dst (.tuple #[z, .bool false])) w) : wpKo P ops Q (i :: rest) a w := by
  intro b k cs hb
  obtain ⟨e, a', w2, hq, harr⟩ := h b k cs hb
  refine ⟨e, a', w2, hq, .of_steps (.one ?_) harr⟩
  have h1 := Go.Conc.step_lone_recv_shut (P := P) (fr := b.at a (.inRegion ops (i :: rest) :: k)) (cs := cs) (w := w) (c := c) (cap := cap) (s := s) (r := r) (z := z) (tm := tm) true
    (Go.Conc.stepG_comm (cases := #[Go.Conc.rcase c z]) (blocking := true) (shape := .recv true) (w' := w) ho (by simp [Region.wanted, hg]) (by simp [hb]) hr) hc
  have hfin := Frame.finish_at b a ops i rest k (Go.Conc.got true z false)
  rw [ho] at hfin
  rw [hfin] at h1
  exact h1

/-! ### Leaving -/
theorem step_built {fr : Frame} {cs : List Frame} {d : Deferred} {ds : List Deferred} {bi : Builtin} {ats : Array TypeId} {ty : TypeId} {cn : Array Bool} {u : Value} {w' : World} (hm : fr.mode = .returning) (hd : fr.defers = d :: ds) (ht : d.target = .builtin bi ats ty cn)
    (hi : (invoke d.target d.args).run P w = .ok (.value u) w') : step P (lone fr cs w) = .next (lone { fr with defers := ds } cs w') := by
  obtain ⟨t, av⟩ := d
  dsimp only at ht hi
  subst ht
  exact step_lone_go (by simp [stepG, unwind, callDeferred, hm, hd, hi])
def postK (P : Program) (fn : Func) (R : Ending → World → Prop) (e : Exit) (a : Act) (w : World) : Prop := e = .ret ∧ ((a.defers = [] ∧ ∃ v, (results fn a.tmps).run P w = .ok v w ∧ R (.returned v) w) ∨
  ∃ d bi ats ty cn u w', a.defers = [d] ∧ d.target = .builtin bi ats ty cn ∧ (invoke d.target d.args).run P w = .ok (.value u) w' ∧ ∃ v, (results fn a.tmps).run P w' = .ok v w' ∧ R (.returned v) w')
theorem calls_of_wpK {f : FuncId} {fn : Func} {c : Code} {args : Array Value} {R : Ending → World → Prop} (hf : P.funcs[f]? = some fn) (hb : fn.body = some c)
    (h : wpK P c (postK P fn R) { tmps := args ++ Array.replicate (fn.ntmps - args.size) undef, defers := [] } w) : Calls P f args w R := by
  intro cs
  have henter : Frame.enter P f args .normal = ({ (default : Frame) with fn := f, kind := .normal } : Frame).at { tmps := args ++ Array.replicate (fn.ntmps - args.size) undef, defers := [] } [.code c] := by
    simp [Frame.enter, Frame.at, hf, hb]
  obtain ⟨e, a', w', hq, harr⟩ := h { (default : Frame) with fn := f, kind := .normal } [] cs rfl
  rw [← henter] at harr
  obtain ⟨rfl, hq⟩ := hq
  obtain ⟨todo, hs⟩ := harr
  rcases hq with ⟨hd, v, hr, hR⟩ | ⟨d, bi, ats, ty, cn, u, w2, hd, ht, hi, v, hr, hR⟩
  · exact ⟨.returned v, w', _, hR, hs, rfl, rfl, hd, rfl, fn, hf, hr⟩
  · exact ⟨.returned v, w2, _, hR, Steps.trans hs (.one (step_built (d := d) rfl hd ht hi)), rfl, rfl, rfl, rfl, fn, hf, hr⟩
end

/-! ### The channel's block -/
theorem chan_upd {cx : Cx} {β : List En} {hp : Hp} {w : World} (hI : Inv cx β hp w) {k n : Nat} {Φ Ψ : Obj → Prop} {ob : Obj} (h1 : hp[k]? = some (.x Φ)) (h2 : β[k]? = some (.b n)) (hΨ : Ψ ob) :
    Out cx β hp w (fun _ => True) β (hp.set k (.x Ψ)) { w with heap := w.heap.setIfInBounds n ob } := by
  have hk : k < hp.length := (List.getElem?_eq_some_iff.1 h1).1
  obtain ⟨hn, ob0, h3, _⟩ := hI.ent k _ _ h1 h2
  have hlt : n < w.heap.size := (Array.getElem?_eq_some_iff.1 h3).1
  refine Out.upd (k0 := k) (h' := .x Ψ) (e' := .b n) hI trivial ⟨rfl, rfl, rfl, by simp, fun b hb hnb => ?_⟩ (fun i hi => ⟨List.getElem?_set_ne (Ne.symm hi), rfl⟩) (by simp [hk]) h2 (by simpa using hI.len) (by simp) (Ext.refl _) ⟨hn, ob, by simp [hlt], hΨ⟩ (fun b hb => .inl ?_)
  · have : n ≠ b := fun e => hnb (by rw [ownB_of h1 h2, e]; rfl)
    simp [Array.getElem?_setIfInBounds_ne this]
  · rw [ownB_of h1 h2]
    exact hb
end Ab
end Go.Proofs.Ytonibbcmgiflbaa
