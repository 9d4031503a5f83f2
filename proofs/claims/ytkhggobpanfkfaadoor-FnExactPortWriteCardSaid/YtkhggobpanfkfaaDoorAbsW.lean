/-
  A contract, where the function's own blocks of some numbers may be written in regions that draw.
-/
import Derived.Test.YtkhggobpanfkfaaDoorAbsT
namespace Go.Proofs.YtkhggobpanfkfaaDoor
open Go.RowKit
namespace Ab
theorem con_ofW {P : Program} {T : Tab} {G : Env} {TR : Nat → Tr} {f : FuncId} {fn : Func} {sig : List (Sh ⊕ List Sh)} {S : DA sig → (DV → Prop) → Prop} (W0 : List Nat) (hT : TabOk P T) (hM : P.follows .mixedOrders = true) (hG : EnvOk P G) (hfn : P.funcs[f]? = some fn) (hn : Nat.ble sig.length fn.ntmps = true)
    (h : ∀ (x : DA sig) (K : DV → Prop), S x K → bdA sig x → frzAK sig x fun vs0 => callN T G 0 W0 TR fn vs0 [] fun r hp => ∃ d, matV hp r d ∧ K d) : Con P f sig S := by
  intro x K hS w vs hr hg
  obtain ⟨hb, ha⟩ := frz_bdA (β := []) hr
  have hI : Inv ⟨w, []⟩ [] [] w := ⟨Tch.refl _ _, rfl, fun k t e h => by simp at h, fun i k b h => by simp [ownB] at h⟩
  refine Calls.mono (callN_spec (W0 := W0) hT hM ⟨hG, .inr ⟨hg, Gm.nil⟩⟩ hfn hI ha (by rw [frzA_len]; exact hn) (frzAK_iff.1 (h x K hS hb))) ?_
  rintro e w' ⟨v, r, hp', β', rfl, ⟨d, h1, h2⟩, h3, hI', _⟩
  obtain ⟨bs, h4, h5⟩ := mat_V hI' h3 h1
  exact ⟨d, v, rfl, h2, ⟨hI'.kp.os, hI'.kp.tape, hI'.kp.output, hI'.kp.size, fun b hb => hI'.kp.block b hb (by simp)⟩, bs, h4, h5⟩
/-- A function that is walked where it is called, and may write blocks of some numbers in regions that draw. -/
def csNW (W0 : List Nat) (T : Tab) (G : Env) (TR : Nat → Tr) (fn : Func) : CS :=
  { S := fun xs hp K => Side (Nat.ble xs.length fn.ntmps = true) <| natK (lenH hp) fun n => callN T G n W0 TR fn xs hp K, tch := fun _ => none }
theorem csNW_ok {P : Program} {W0 : List Nat} {T : Tab} {G : Env} {TR : Nat → Tr} {f : FuncId} {fn : Func} (hT : TabOk P T) (hM : P.follows .mixedOrders = true) (hG : EnvOk P G) (hfn : P.funcs[f]? = some fn) (hok : (P.funcs[f]?).map (fun fn => (fn.name == "runtime.NumGoroutine", fn.body.isNone)) = some (false, false)) : CSok P f (csNW W0 T G TR fn) := by
  refine ⟨hok, fun xs hp K hS cx β w vs hI gl ha => ?_⟩
  obtain ⟨h1, h2⟩ := side_iff.1 hS
  have h3 := natK_iff.1 h2
  rw [lenH_eq] at h3
  refine Calls.mono (callN_spec (W0 := W0) hT hM ⟨hG, .inr gl⟩ hfn hI ha h1 h3) ?_
  rintro e w' ⟨v, r, hp', β', rfl, h4, h5, h6, h7⟩
  refine ⟨v, r, hp', β', rfl, h4, h5, ⟨h6, fun k e he => ?_, fun k b hb => (h7.om k b hb).imp And.right id, h7.size, h7.len, fun k _ hn => (hn trivial).elim, fun b hb hn => h7.tch b hb fun k => hn k trivial⟩⟩
  exact h7.ext k e (by rw [← hI.len]; exact (List.getElem?_eq_some_iff.1 he).1) he
end Ab
end Go.Proofs.YtkhggobpanfkfaaDoor
