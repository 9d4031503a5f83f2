/-
  Contracts of functions that hand back what came in, but for some cells. Plain lemmas; the conditions are the types' rows (TIok) and the contracts (CSok).
-/
import Derived.Test.YtkhggobpanfkfaaAbsW
namespace Go.Proofs.Ytkhggobpanfkfaa
open Go.RowKit
namespace Ab

/-- Values of which nothing is known, and cells that hold them. -/
def opqK : Nat → (List Value → List LV → Prop) → Prop
  | 0, K => K [] []
  | n + 1, K => ∀ v, opqK n fun r x => K (v :: r) (.v v :: x)
theorem opqK_of : ∀ {n : Nat} {K : List Value → List LV → Prop}, opqK n K → ∀ us : List Value, us.length = n → K us (us.map LV.v)
  | 0, _, h, us, hl => by
    cases us with
    | nil => exact h
    | cons _ _ => cases hl
  | n + 1, _, h, us, hl => by
    cases us with
    | nil => cases hl
    | cons v us => exact opqK_of (h v) us (by simpa using hl)
theorem opq0 {K : List Value → List LV → Prop} (h :  K [] []) : opqK 0 K := h
theorem opq8 {K : List Value → List LV → Prop} (h : ∀ v0 v1 v2 v3 v4 v5 v6 v7 : Value, K [v0, v1, v2, v3, v4, v5, v6, v7] [.v v0, .v v1, .v v2, .v v3, .v v4, .v v5, .v v6, .v v7]) : opqK 8 K := h
theorem opq14 {K : List Value → List LV → Prop} (h : ∀ v0 v1 v2 v3 v4 v5 v6 v7 v8 v9 v10 v11 v12 v13 : Value, K [v0, v1, v2, v3, v4, v5, v6, v7, v8, v9, v10, v11, v12, v13] [.v v0, .v v1, .v v2, .v v3, .v v4, .v v5, .v v6, .v v7, .v v8, .v v9, .v v10, .v v11, .v v12, .v v13]) : opqK 14 K := h
def appK : List LV → List LV → (List LV → Prop) → Prop
  | [], ys, K => K ys
  | x :: xs, ys, K => appK xs ys fun r => K (x :: r)
theorem appK_iff : ∀ {xs ys : List LV} {K : List LV → Prop}, appK xs ys K ↔ K (xs ++ ys)
  | [], _, _ => Iff.rfl
  | x :: xs, ys, K => by simp only [appK, appK_iff (xs := xs), List.cons_append]
def keepR (n0 m : Nat) (x0 x3 : List LV) (K : List DL → Prop) (r : AV) (hp : Hp) : Prop := match r with
  | .a cs => takeK cs n0 fun c0 => Side (c0 = x0) <| dropK cs n0 fun r0 => takeK r0 m fun cm => dropK r0 m fun c3 => Side (c3 = x3) <| ∃ d, matV hp (.a cm) (.a d) ∧ K d
  | _ => False
def ConKeep (P : Program) (f : FuncId) (n0 : Nat) (ss : List Sh) (n3 : Nat) (sig : List (Sh ⊕ List Sh)) (S : HL ss → DA sig → (List DL → Prop) → Prop) : Prop := ∀ x y K, S x y K → ∀ (w : World) (u0 us u3 rest : List Value), u0.length = n0 → u3.length = n3 → (∀ v ∈ u0, v.oneCell' = true) → (∀ v ∈ u3, v.oneCell' = true) → rds w ss x us → rdA w sig y rest →
  Calls P f (.agg (u0 ++ (us ++ u3)).toArray :: rest).toArray w fun e w' => ∃ d ud, e = .returned (.agg (u0 ++ (ud ++ u3)).toArray) ∧ K d ∧ Below w.heap.size w w' ∧ ∃ bs, frLs w' w.heap.size d ud bs ∧ bs.Nodup
def csKeep (n0 : Nat) (ss : List Sh) (n3 : Nat) (sig : List (Sh ⊕ List Sh)) (S : HL ss → DA sig → (List DL → Prop) → Prop) : CS :=
  { S := fun xs hp K => match xs with
      | .a cs :: rest => takeK cs n0 fun c0 => dropK cs n0 fun r0 => takeK r0 ss.length fun cm => dropK r0 ss.length fun c3 => lenK c3 n3 <| decs hp ss cm fun x => decA hp sig rest fun y => S x y fun d => impLs hp d fun rc hp' => appK rc c3 fun q => appK c0 q fun q' => K (.a q') hp'
      | _ => False
    tch := fun _ => some [] }

section
variable {P : Program} {cx : Cx} {β : List En} {hp : Hp} {w : World}
theorem rds_len : ∀ {ss : List Sh} {x : HL ss} {us : List Value}, rds w ss x us → us.length = ss.length
  | [], _, [], _ => rfl
  | s :: r, x, v :: vs, h => by simp [rds_len (ss := r) h.2]
  | [], _, _ :: _, h => h.elim
  | _ :: _, _, [], h => h.elim
theorem consts_eq : ∀ {us vs : List Value}, LCs cx β (us.map LV.v) vs → vs = us
  | [], [], _ => rfl
  | u :: us, v :: vs, h => by
    have h1 : v = u := h.1.2
    rw [h1, consts_eq (us := us) h.2]
  | [], _ :: _, h => h.elim
  | _ :: _, [], h => h.elim

theorem conKeep_of {T : Tab} {G : Env} {TR : Nat → Tr} {f : FuncId} {fn : Func} {n0 n3 : Nat} {ss : List Sh} {sig : List (Sh ⊕ List Sh)} {S : HL ss → DA sig → (List DL → Prop) → Prop} (W0 : List Nat) (hT : TabOk P T) (hM : P.follows .mixedOrders = true) (hG : EnvOk P G) (hfn : P.funcs[f]? = some fn) (hn : Nat.ble (sig.length + 1) fn.ntmps = true)
    (h : ∀ (x : HL ss) (y : DA sig) (K : List DL → Prop), S x y K → bds ss x → bdA sig y → opqK n0 fun _ x0 => opqK n3 fun _ x3 => frzsK ss x fun c => frzAK sig y fun ys => appK c x3 fun q => appK x0 q fun q' => callN T G 0 W0 TR fn (.a q' :: ys) [] (keepR n0 ss.length x0 x3 K)) : ConKeep P f n0 ss n3 sig S := by
  intro x y K hS w u0 us u3 rest hl0 hl3 ho0 ho3 hx hy
  obtain ⟨hb1, ha1⟩ := frz_bds (β := []) hx
  obtain ⟨hb2, ha2⟩ := frz_bdA (β := []) hy
  have hI : Inv ⟨w, []⟩ [] [] w := ⟨Tch.refl _ _, rfl, fun k t e h => by simp at h, fun i k b h => by simp [ownB] at h⟩
  have h1 := opqK_of (opqK_of (h x y K hS hb1 hb2) u0 hl0) u3 hl3
  have h2 := appK_iff.1 (appK_iff.1 (frzAK_iff.1 (frzsK_iff.1 h1)))
  have hargs : ACs ⟨w, []⟩ [] (.a (u0.map LV.v ++ (frzs ss x ++ u3.map LV.v)) :: frzA sig y) ((Value.agg (u0 ++ (us ++ u3)).toArray :: rest).toArray).toList :=
    ⟨⟨_, rfl, LCs.append (LCs.consts ho0) (LCs.append ha1 (LCs.consts ho3))⟩, ha2⟩
  refine Calls.mono (callN_spec (W0 := W0) hT hM hG hfn hI hargs (by rw [List.length_cons, frzA_len]; exact hn) h2) ?_
  rintro e w' ⟨v, r, hp', β', rfl, hk, hr, hI', _⟩
  cases r with
  | a cs =>
    obtain ⟨_, hk⟩ := takeK_iff.1 hk
    obtain ⟨k1, hk⟩ := side_iff.1 hk
    obtain ⟨_, hk⟩ := dropK_iff.1 hk
    obtain ⟨_, hk⟩ := takeK_iff.1 hk
    obtain ⟨_, hk⟩ := dropK_iff.1 hk
    obtain ⟨k2, d, k3, k4⟩ := side_iff.1 hk
    rw [List.drop_drop] at k2
    obtain ⟨uv, rfl, hu⟩ := hr
    have e0 := consts_eq (k1 ▸ hu.take n0)
    have e3 := consts_eq (k2 ▸ hu.drop (n0 + ss.length))
    have hm : AC ⟨w, []⟩ β' (.a ((cs.drop n0).take ss.length)) (.agg ((uv.toList.drop n0).take ss.length).toArray) := ⟨_, rfl, by simpa using (hu.drop n0).take ss.length⟩
    obtain ⟨bs, ⟨uz, hz, h4⟩, h5⟩ := mat_V hI' hm k3
    obtain rfl : ((uv.toList.drop n0).take ss.length).toArray = uz := by
      injection hz
    refine ⟨d, (uv.toList.drop n0).take ss.length, ?_, k4, ⟨hI'.kp.os, hI'.kp.tape, hI'.kp.output, hI'.kp.size, fun b hb => hI'.kp.block b hb (by simp)⟩, bs, h4, h5⟩
    have hsplit : uv.toList = u0 ++ ((uv.toList.drop n0).take ss.length ++ u3) := by
      rw [← e0, ← e3, ← List.drop_drop, List.take_append_drop, List.take_append_drop]
    rw [← hsplit]
  | _ => exact hk.elim

theorem keep_ok {f : FuncId} {n0 n3 : Nat} {ss : List Sh} {sig : List (Sh ⊕ List Sh)} {S : HL ss → DA sig → (List DL → Prop) → Prop} (hfn : (P.funcs[f]?).map (fun fn => (fn.name == "runtime.NumGoroutine", fn.body.isNone)) = some (false, false)) (h : ConKeep P f n0 ss n3 sig S) : CSok P f (csKeep n0 ss n3 sig S) := by
  refine ⟨hfn, fun xs hp K hS cx β w vs hI ha => ?_⟩
  unfold csKeep at hS
  dsimp only at hS
  split at hS
  · rename_i cs rest
    obtain ⟨g1, hS⟩ := takeK_iff.1 hS
    obtain ⟨g2, hS⟩ := dropK_iff.1 hS
    obtain ⟨g3, hS⟩ := takeK_iff.1 hS
    obtain ⟨g4, hS⟩ := dropK_iff.1 hS
    obtain ⟨g5, hS⟩ := lenK_iff.1 hS
    rw [List.drop_drop] at g5
    simp only [List.length_drop] at g3 g4 g5
    obtain ⟨v0, vr, hvs⟩ : ∃ v0 vr, vs.toList = v0 :: vr := by
      cases hv : vs.toList with
      | nil => rw [hv] at ha; exact ha.elim
      | cons v0 vr => exact ⟨v0, vr, rfl⟩
    rw [hvs] at ha
    obtain ⟨⟨us0, rfl, hu⟩, hrest⟩ := ha
    obtain ⟨x, h1, h2⟩ := dec_s hI ((hu.drop n0).take ss.length) hS
    obtain ⟨y, h3, h4⟩ := dec_A hI hrest h1
    have hl := hu.length
    have hsplit : us0.toList = us0.toList.take n0 ++ ((us0.toList.drop n0).take ss.length ++ us0.toList.drop (n0 + ss.length)) := by
      rw [← List.drop_drop, List.take_append_drop, List.take_append_drop]
    have hvs' : vs = (Value.agg (us0.toList.take n0 ++ ((us0.toList.drop n0).take ss.length ++ us0.toList.drop (n0 + ss.length))).toArray :: vr).toArray := by
      apply Array.toList_inj.1
      rw [hvs, ← hsplit]
    rw [hvs']
    refine Calls.mono (h x y _ h3 w (us0.toList.take n0) _ (us0.toList.drop (n0 + ss.length)) vr (by rw [List.length_take]; omega) (by rw [List.length_drop]; omega) (fun v hv => hu.one v (List.mem_of_mem_take hv)) (fun v hv => hu.one v (List.mem_of_mem_drop hv)) h2 h4) ?_
    rintro e w' ⟨d, ud, rfl, k1, hb, bs, k2, k3⟩
    obtain ⟨r, hp', β', k4, k5, k6⟩ := imp_V (d := .a d) (v := .agg ud.toArray) (K := fun r hp' => match r with
      | .a rc => appK rc ((cs.drop n0).drop ss.length) fun q => appK (cs.take n0) q fun q' => K (.a q') hp'
      | _ => False) hI hb ⟨_, rfl, k2⟩ k3 k1
    cases r with
    | a rc =>
      obtain ⟨uz, hz, k7⟩ := k5
      injection hz with hz
      subst hz
      have k4 := appK_iff.1 (appK_iff.1 k4)
      rw [List.drop_drop] at k4
      exact ⟨_, _, hp', β', rfl, k4, ⟨_, rfl, LCs.append ((hu.take n0).ext k6.ext) (LCs.append k7 ((hu.drop (n0 + ss.length)).ext k6.ext))⟩, k6⟩
    | _ => exact k4.elim
  · exact hS.elim
end
end Ab
end Go.Proofs.Ytkhggobpanfkfaa
