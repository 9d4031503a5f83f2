/-
  Contracts of functions that are lent a reader of bytes, and functions that are walked where they are called. Plain lemmas; the conditions are the types' rows (TIok) and the contracts (CSok).
-/
import Derived.Test.YtacjfkodndkaeaaAbsK
namespace Go.Proofs.Ytacjfkodndkaeaa
open Go.RowKit
namespace Ab

def scal : List (Sh ⊕ List Sh) → Bool
  | [] => true
  | .inl .int :: r => scal r
  | .inl .bool :: r => scal r
  | .inr ss :: r => go ss && scal r
  | _ => false
where
  go : List Sh → Bool
    | [] => true
    | .int :: r => go r
    | .bool :: r => go r
    | _ => false

/-- The block r holds a reader: bytes v that read as l, and the place p. -/
def RdrAt (T0 : TypeId) (w : World) (r : Nat) (v : Value) (l : List UInt8) (p : Int) : Prop :=
  w.heap[r]? = some (.cells #[v, .int .i64 p] T0 (0, 0)) ∧ rdE w (.bytes l) v ∧ ((EL.bytes l).len ≠ 0 → v.ownBlock ≠ some r)

/-- The contract of a function that is lent a reader. -/
def ConB (P : Program) (f : FuncId) (T0 : TypeId) (sig : List (Sh ⊕ List Sh)) (S : Int → DA sig → (DV → Int → Prop) → Prop) : Prop := ∀ (p : Int) (x : DA sig) (K : DV → Int → Prop), S p x K → ∀ (w : World) (r : Nat) (v : Value) (l : List UInt8) (vs : Array Value), RdrAt T0 w r v l p → rdA w sig x vs.toList →
  Calls P f (#[.pointer (some ⟨r, 0, none⟩)] ++ vs) w fun e w' => ∃ d u p', e = .returned u ∧ K d p' ∧ Tch (fun b => b = r) w w' ∧ w'.heap[r]? = some (.cells #[v, .int .i64 p'] T0 (0, 0)) ∧ ∃ bs, frV w' w.heap.size d u bs ∧ bs.Nodup

/-- The reader's place at the end. -/
def endB (v0 : Value) (l : List UInt8) (T0 : TypeId) (hp : Hp) (p' : Int) (q : Prop) : Prop := getH hp 0 fun h => match h with
  | .b cs T => (match cs with
    | [x, .v (.int .i64 p)] => Side (x = .fx v0 (.bytes l)) <| Side (p = p') <| Side (Nat.beq T T0 = true) q
    | _ => False)
  | _ => False

/-- Bytes that came in. -/
def isBy (c : LV) (K : Prop) : Prop := match c with
  | .fx _ (.bytes _) => K
  | .f (.bytes _) => K
  | _ => False
/-- The contract at a call. -/
def csB (T0 : TypeId) (sig : List (Sh ⊕ List Sh)) (S : Int → DA sig → (DV → Int → Prop) → Prop) : CS :=
  { S := fun xs hp K => match xs with
      | .l (.p k 0) :: r => getH hp k fun h => (match h with
        | .b cs T => (match cs with
          | [c, .v (.int .i64 p)] => isBy c <| Side (Nat.beq T T0 = true) <| decA hp sig r fun x => S p x fun d p' => setH hp k (.b [c, .v (.int .i64 p')] T) fun hp' => impV hp' d K
          | _ => False)
        | _ => False)
      | _ => False
    tch := fun xs => match xs with
      | .l (.p k _) :: _ => some [k]
      | _ => some [] }

section
variable {P : Program} {cx : Cx} {β : List En} {hp : Hp} {w : World}

theorem scal_go : ∀ {ss : List Sh} {x : HL ss} {vs : List Value}, scal.go ss = true → rds w ss x vs → LCs cx β (frzs ss x) vs
  | [], _, [], _, _ => trivial
  | .int :: r, x, v :: vs, hs, h => by
    have e : v = .int .i64 x.1 := h.1
    subst e
    exact ⟨⟨rfl, rfl⟩, scal_go (ss := r) hs h.2⟩
  | .bool :: r, x, v :: vs, hs, h => by
    have e : v = .bool x.1 := h.1
    subst e
    exact ⟨⟨rfl, rfl⟩, scal_go (ss := r) hs h.2⟩
  | .ints :: _, _, _, hs, _ => by cases hs
  | .gots :: _, _, _, hs, _ => by cases hs
  | .bytes :: _, _, _, hs, _ => by cases hs
  | [], _, _ :: _, _, h => h.elim
  | .int :: _, _, [], _, h => h.elim
  | .bool :: _, _, [], _, h => h.elim
theorem scal_A : ∀ {sig : List (Sh ⊕ List Sh)} {x : DA sig} {vs : List Value}, scal sig = true → rdA w sig x vs → ACs cx β (frzA sig x) vs
  | [], _, [], _, _ => trivial
  | .inl .int :: r, x, v :: vs, hs, h => by
    have e : v = .int .i64 x.1 := h.1
    subst e
    exact ⟨⟨rfl, rfl⟩, scal_A (sig := r) hs h.2⟩
  | .inl .bool :: r, x, v :: vs, hs, h => by
    have e : v = .bool x.1 := h.1
    subst e
    exact ⟨⟨rfl, rfl⟩, scal_A (sig := r) hs h.2⟩
  | .inr ss :: r, x, v :: vs, hs, h => by
    simp only [scal, Bool.and_eq_true] at hs
    obtain ⟨us, e, hu⟩ := h.1
    exact ⟨⟨us, e, scal_go hs.1 hu⟩, scal_A (sig := r) hs.2 h.2⟩
  | .inl .ints :: _, _, _, hs, _ => by cases hs
  | .inl .gots :: _, _, _, hs, _ => by cases hs
  | .inl .bytes :: _, _, _, hs, _ => by cases hs
  | [], _, _ :: _, _, h => h.elim
  | .inl .int :: _, _, [], _, h => h.elim
  | .inl .bool :: _, _, [], _, h => h.elim
  | .inr _ :: _, _, [], _, h => h.elim

theorem conB_of {T : Tab} {G : Env} {TR : Nat → Tr} {T0 : TypeId} {f : FuncId} {fn : Func} {sig : List (Sh ⊕ List Sh)} {S : Int → DA sig → (DV → Int → Prop) → Prop} (hT : TabOk P T) (hM : P.follows .mixedOrders = true) (hG : EnvOk P G) (hfn : P.funcs[f]? = some fn) (hn : Nat.ble (sig.length + 1) fn.ntmps = true) (hs : scal sig = true)
    (h : ∀ (v0 : Value) (l : List UInt8) (p : Int) (x : DA sig) (K : DV → Int → Prop), l.length ≤ maxL → S p x K → frzAK sig x fun vs0 => callP T G 1 [0] TR fn (.l (.p 0 0) :: vs0) [.b [.fx v0 (.bytes l), .v (.int .i64 p)] T0] fun r hp => ∃ d p', endB v0 l T0 hp p' (matV hp r d) ∧ K d p') : ConB P f T0 sig S := by
  intro p x K hS w r v l vs ⟨hb, hrd, hne⟩ hr
  have hlt : r < w.heap.size := (Array.getElem?_eq_some_iff.1 hb).1
  have hone : v.oneCell' = true := by obtain ⟨a, c, rfl, _⟩ := hrd.1.form; rfl
  have hfx : LC ⟨w, [r]⟩ [.b r] (.fx v (.bytes l)) v := ⟨hone, rfl, hrd.1, hrd.2, fun h0 b hb hm => by
    simp only [List.mem_singleton] at hm
    exact hne h0 (by rw [hb, hm])⟩
  have hI : Inv ⟨w, [r]⟩ [.b r] [.b [.fx v (.bytes l), .v (.int .i64 p)] T0] w := by
    refine ⟨Tch.refl _ _, rfl, fun k t e h1 h2 => ?_, fun i k b h1 h2 => ?_⟩
    · cases k with
      | succ k => simp at h1
      | zero =>
        simp only [List.getElem?_cons_zero, Option.some.injEq] at h1 h2
        subst h1 h2
        exact ⟨.inr (by simp), _, hb, hfx, ⟨rfl, rfl⟩, trivial⟩
    · obtain ⟨_, _, e1, _, _⟩ := ownB_some h1
      obtain ⟨_, _, e2, _, _⟩ := ownB_some h2
      have := (List.getElem?_eq_some_iff.1 e1).1
      have := (List.getElem?_eq_some_iff.1 e2).1
      simp at *
      omega
  have hargs : ACs ⟨w, [r]⟩ [.b r] (.l (.p 0 0) :: frzA sig x) (#[Value.pointer (some ⟨r, 0, none⟩)] ++ vs).toList := by
    have : (#[Value.pointer (some ⟨r, 0, none⟩)] ++ vs).toList = Value.pointer (some ⟨r, 0, none⟩) :: vs.toList := by simp
    rw [this]
    exact ⟨⟨rfl, r, rfl, rfl⟩, scal_A hs hr⟩
  refine Calls.mono (call_spec (W0 := [0]) hT hG hM hfn hI hargs (by simp [frzA_len]; simpa using hn) (frzAK_iff.1 (h v l p x K hrd.2 hS))) ?_
  rintro e w' ⟨u, ru, hp', β', rfl, ⟨d, p', h1, h2⟩, h3, hI', hL⟩
  obtain ⟨t, g1, g2⟩ := getH_iff.1 h1
  split at g2
  · rename_i cs T1
    split at g2
    · rename_i x1 p1
      obtain ⟨g3, g4⟩ := side_iff.1 g2
      obtain ⟨g5, g6⟩ := side_iff.1 g4
      obtain ⟨g7, g8⟩ := side_iff.1 g6
      have hT0 := Nat.eq_of_beq_eq_true g7
      subst g3 g5 hT0
      obtain ⟨bs, h4, h5⟩ := mat_V hI' h3 g8
      have hx := hL.ext 0 (.b r) (by simp) rfl
      have ho := hI'.ent 0 _ _ g1 hx
      obtain ⟨_, us, q1, q2⟩ := ho
      have hus : us = #[v, .int .i64 p1] := by
        apply Array.toList_inj.1
        cases hu : us.toList with
        | nil => rw [hu] at q2; exact q2.elim
        | cons a rest =>
          rw [hu] at q2
          cases rest with
          | nil => exact q2.2.elim
          | cons b rest =>
            obtain ⟨⟨_, e1, _⟩, ⟨_, e2⟩, q3⟩ := q2
            cases rest with
            | nil => rw [e1, e2]
            | cons _ _ => exact q3.elim
      subst hus
      refine ⟨d, u, p1, rfl, h2, ?_, q1, bs, h4, h5⟩
      exact hI'.kp.mono fun b _ hb => by simpa using hb
    · exact g2.elim
  · exact g2.elim

theorem isBy_spec {c : LV} {K : Prop} (h : isBy c K) : K ∧ ∀ v, LC cx β c v → ∃ l, FZ cx v (.bytes l) := by
  unfold isBy at h
  split at h
  · exact ⟨h, fun v hv => ⟨_, hv.2.2⟩⟩
  · exact ⟨h, fun v hv => ⟨_, hv.2⟩⟩
  · exact h.elim
theorem csB_ok {T0 : TypeId} {f : FuncId} {sig : List (Sh ⊕ List Sh)} {S : Int → DA sig → (DV → Int → Prop) → Prop} (hfn : (P.funcs[f]?).map (fun fn => (fn.name == "runtime.NumGoroutine", fn.body.isNone)) = some (false, false)) (h : ConB P f T0 sig S) : CSok P f (csB T0 sig S) := by
  refine ⟨hfn, fun xs hp K hS cx β w vs hI ha => ?_⟩
  simp only [csB] at hS
  split at hS
  · rename_i k r
    obtain ⟨t, g1, g2⟩ := getH_iff.1 hS
    split at g2
    · rename_i cs T1
      split at g2
      · rename_i cl p
        obtain ⟨g2', hby⟩ := isBy_spec (cx := cx) (β := β) g2
        obtain ⟨g3, g4⟩ := side_iff.1 g2'
        have hT0 := Nat.eq_of_beq_eq_true g3
        subst hT0
        cases hvs : vs.toList with
        | nil => rw [hvs] at ha; exact ha.elim
        | cons a0 rest =>
          rw [hvs] at ha
          obtain ⟨⟨_, n, hn, rfl⟩, ha⟩ := ha
          have ho := hI.ent k _ _ g1 hn
          obtain ⟨hreg, us, hb, hc⟩ := ho
          have hus : ∃ v, us = #[v, .int .i64 p] ∧ LC cx β cl v := by
            cases hu : us.toList with
            | nil => rw [hu] at hc; exact hc.elim
            | cons a rest =>
              rw [hu] at hc
              cases rest with
              | nil => exact hc.2.elim
              | cons b rest =>
                obtain ⟨o1, ⟨_, e3⟩, q3⟩ := hc
                cases rest with
                | nil => exact ⟨a, Array.toList_inj.1 (by rw [hu, e3]), o1⟩
                | cons _ _ => exact q3.elim
          obtain ⟨v, rfl, hfx⟩ := hus
          obtain ⟨l, hfz⟩ := hby v hfx
          obtain ⟨x, h1, h2⟩ := dec_A hI ha g4
          have hrdr : RdrAt T1 w n v l p := by
            refine ⟨hb, ⟨hfz.sl hI, hfz.2.1⟩, fun h0 e => ?_⟩
            have hM := hfz.2.2 h0 n e
            have hlt : n < cx.w0.heap.size := by
              rcases hfz.1.2 with ⟨e0, _⟩ | ⟨g', off', cap', cur, T', e0, _, e1, _⟩
              · exact absurd e0 h0
              · rw [e0] at e
                simp only [Value.ownBlock, Option.some.injEq] at e
                subst e
                exact (Array.getElem?_eq_some_iff.1 e1).1
            rcases hreg with h3 | h3
            · omega
            · exact hM h3
          have hcall := h p x _ h1 w n v l rest.toArray hrdr (by simpa using h2)
          have hargs : (#[Value.pointer (some ⟨n, 0, none⟩)] ++ rest.toArray) = vs := by
            apply Array.toList_inj.1
            simp [hvs]
          rw [hargs] at hcall
          refine Calls.mono hcall ?_
          rintro e w' ⟨d, u, p', rfl, h3, ht, hb', bs, h4, h5⟩
          obtain ⟨hkl, h6⟩ := setH_iff.1 h3
          have hown : ownB hp β k = some n := by rw [ownB_of g1 hn]; rfl
          have hO : Out cx β hp w (ST (some [k])) β (hp.set k (.b [cl, .v (.int .i64 p')] T1)) w' := by
            refine Out.upd (k0 := k) (h' := .b [cl, .v (.int .i64 p')] T1) (e' := .b n) hI (by simp [ST]) (ht.mono fun b _ e => by rw [hown, e]) (fun i hi => ⟨List.getElem?_set_ne (Ne.symm hi), rfl⟩) (by simp [hkl]) hn (by simp [hI.len]) (by simp) (Ext.refl _)
              ⟨hreg, _, hb', hfx, ⟨rfl, rfl⟩, trivial⟩ (fun b hb => .inl (by rw [hown]; exact hb))
          have hlt : ∀ i b, ownB (hp.set k (.b [cl, .v (.int .i64 p')] T1)) β i = some b → b < w.heap.size := by
            intro i b hb
            by_cases hik : i = k
            · subst hik
              rw [ownB_of (x := .b [cl, .v (.int .i64 p')] T1) (by simp [hkl]) hn] at hb
              have : some n = some b := hb
              simp only [Option.some.injEq] at this
              subst this
              exact (hI.lt hown).1
            · have : ownB hp β i = some b := by
                unfold ownB at hb ⊢
                rw [List.getElem?_set_ne (Ne.symm hik)] at hb
                exact hb
              exact (hI.lt this).1
          obtain ⟨ru, hp2, β2, U, i1, i2, i3, i4⟩ := imp_W hlt hI.kp.size hO.inv h4 h5 h6
          refine ⟨u, ru, hp2, β2, rfl, i1, i2, ⟨i3.inv, i4, fun i b hb => ?_, hO.size, by have := i3.len; simp at this; exact this, fun i hi hn' => ?_, hO.tch⟩⟩
          · rcases i3.own i b hb with h7 | h7
            · exact hO.om i b h7
            · exact .inr h7.1
          · have hi' : i < (hp.set k (.b [cl, .v (.int .i64 p')] T1)).length := by simpa using hi
            have h7 : ownB hp2 β2 i = ownB (hp.set k (.b [cl, .v (.int .i64 p')] T1)) β i := by
              unfold ownB
              rw [(i3.pre i hi').1, (i3.pre i hi').2]
            rw [h7]
            exact hO.own i hi hn'
      · exact g2.elim
    · exact g2.elim
  · exact hS.elim

/-- A function that is walked where it is called. -/
def csI (T : Tab) (G : Env) (TR : Nat → Tr) (fn : Func) : CS :=
  { S := fun xs hp K => Side (Nat.ble xs.length fn.ntmps = true) <| natK (lenH hp) fun n => callP T G n [] TR fn xs hp K, tch := fun _ => none }
theorem csI_ok {T : Tab} {G : Env} {TR : Nat → Tr} {f : FuncId} {fn : Func} (hT : TabOk P T) (hM : P.follows .mixedOrders = true) (hG : EnvOk P G) (hfn : P.funcs[f]? = some fn) (hok : (P.funcs[f]?).map (fun fn => (fn.name == "runtime.NumGoroutine", fn.body.isNone)) = some (false, false)) : CSok P f (csI T G TR fn) := by
  refine ⟨hok, fun xs hp K hS cx β w vs hI ha => ?_⟩
  obtain ⟨h1, h2⟩ := side_iff.1 hS
  have h3 := natK_iff.1 h2
  rw [lenH_eq] at h3
  refine Calls.mono (call_spec (W0 := []) hT hG hM hfn hI ha (by simpa using h1) h3) ?_
  rintro e w' ⟨v, r, hp', β', rfl, h4, h5, h6, h7⟩
  refine ⟨v, r, hp', β', rfl, h4, h5, ⟨h6, fun k e he => ?_, fun k b hb => (h7.om k b hb).imp And.right id, h7.size, h7.len, fun k _ hn => (hn trivial).elim, fun b hb hn => h7.tch b hb fun k => hn k trivial⟩⟩
  exact h7.ext k e (by rw [← hI.len]; exact (List.getElem?_eq_some_iff.1 he).1) he

def TabAll (P : Program) : Tab → Prop
  | [] => True
  | (t, i) :: r => TIok P t i ∧ TabAll P r
theorem tabAll_ok : ∀ {T : Tab}, TabAll P T → TabOk P T
  | [], _, t, i, h => by simp [tyL] at h
  | (t', i') :: r, h, t, i, hi => by
    simp only [tyL] at hi
    split at hi
    · rename_i e
      subst e
      obtain rfl := Option.some.inj hi
      exact h.1
    · exact tabAll_ok h.2 t i hi
def EnvAll (P : Program) : Env → Prop
  | [] => True
  | (f, c) :: r => CSok P f c ∧ EnvAll P r
theorem envAll_ok : ∀ {G : Env}, EnvAll P G → EnvOk P G
  | [], _, f, c, h => by cases h
  | (f', c') :: r, h, f, c, hm => by
    rcases List.mem_cons.1 hm with e | e
    · obtain ⟨rfl, rfl⟩ := Prod.mk.inj e
      exact h.1
    · exact envAll_ok h.2 f c e

/-- The argument of a law: bytes that came in; few, they read as a list. -/
def CodeB (w : World) (v : Value) : Prop := ∃ a n cap, v = .slice a n cap ∧ (n ≤ 1048576 → ∃ l : List UInt8, rdE w (.bytes l) v)
theorem law_of {T : Tab} {G : Env} {TR : Nat → Tr} {f : FuncId} {fn : Func} (hT : TabOk P T) (hM : P.follows .mixedOrders = true) (hG : EnvOk P G) (hfn : P.funcs[f]? = some fn) (hn : Nat.ble 1 fn.ntmps = true)
    (hbig : ∀ (a : Option Addr) (n c : Nat), 1048576 < n → callP T G 0 [] TR fn [.l (.v (.slice a n c))] [] fun r _ => r = B true) (hcon : Con P f [.inl .bytes] (fun _ K => K (.l (.v (.bool true))))) (v : Value) (w : World) (h : CodeB w v) :
    Calls P f #[v] w fun e w' => e = .returned (.bool true) ∧ Below w.heap.size w w' := by
  obtain ⟨a, n, c, rfl, hl⟩ := h
  by_cases hb : n ≤ 1048576
  · obtain ⟨l, hr⟩ := hl hb
    refine Calls.mono (hcon (l, ()) (fun d => d = .l (.v (.bool true))) rfl w #[.slice a n c] ⟨hr, trivial⟩) ?_
    rintro e w' ⟨d, u, rfl, rfl, hb, bs, h1, _⟩
    obtain ⟨rfl, _⟩ := h1
    exact ⟨rfl, hb⟩
  · have hI : Inv ⟨w, []⟩ [] [] w := ⟨Tch.refl _ _, rfl, fun k t e h => by simp at h, fun i k b h => by simp [ownB] at h⟩
    refine Calls.mono (call_spec (W0 := []) hT hG hM hfn hI (xs := [.l (.v (.slice a n c))]) (vs := #[.slice a n c]) ⟨⟨rfl, rfl⟩, trivial⟩ (by simpa using hn) (hbig a n c (by omega))) ?_
    rintro e w' ⟨u, r, hp', β', rfl, rfl, h3, hI', _⟩
    obtain ⟨_, rfl⟩ := h3
    exact ⟨rfl, ⟨hI'.kp.os, hI'.kp.tape, hI'.kp.output, hI'.kp.size, fun b hb => hI'.kp.block b hb (by simp)⟩⟩

end
end Ab
end Go.Proofs.Ytacjfkodndkaeaa
