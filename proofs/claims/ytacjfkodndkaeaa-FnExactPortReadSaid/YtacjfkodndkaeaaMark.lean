/-
  Exact laws on the abstract walk: marks in lists of the call's own; arguments that came in.
-/
import Derived.Test.YtacjfkodndkaeaaG2
import Derived.Test.YtacjfkodndkaeaaCodeB
import Derived.Test.YtacjfkodndkaeaaMarkI
namespace Go.Proofs.Ytacjfkodndkaeaa
open Go.RowKit
open Ab
set_option linter.unusedSimpArgs false
set_option linter.unusedVariables false

def isK : EK → EL → Bool
  | .ints, .ints _ => true
  | .gots, .gots _ => true
  | .bytes, .bytes _ => true
  | .k3, .k3 _ => true
  | _, _ => false
theorem isK_sz {ek : EK} {l : EL} (h : isK ek l = true) : l.sz = ek.sz := by cases ek <;> cases l <;> first | rfl | cases h
theorem isK_nil (ek : EK) : isK ek ek.nil = true ∧ ek.nil.len = 0 := by cases ek <;> exact ⟨rfl, rfl⟩

/-- A function that is lent a list of the call's own and writes it anew. -/
def csMark (E : TypeId) (ek : EK) (mk : EL → Int → EL) (rv : EL → Int → Int) : CS :=
  { S := fun xs hp K => match xs with
      | [a, .l (.v (.int .i64 q))] => (match a with
        | .l (.s k ver) => rowK hp k ver fun E' l => Side (Nat.beq E' E = true) <| Side (isK ek l = true) <| Side (0 ≤ q ∧ q ≤ 1099511627776) <| setH hp k (.r ver E (mk l q)) fun hp' => K (.l (.v (.int .i64 (rv l q)))) hp'
        | .l (.v (.slice none 0 0)) => Side (0 ≤ q ∧ q ≤ 1099511627776) <| K (.l (.v (.int .i64 q))) hp
        | _ => False)
      | _ => False
    tch := fun xs => match xs with
      | .l (.s k _) :: _ => some [k]
      | _ => some [] }

def Marks (P : Program) (f : FuncId) (E : TypeId) (ek : EK) (mk : EL → Int → EL) (rv : EL → Int → Int) : Prop := ∀ (v : Value) (l : EL) (q : Int) (base : Nat) (w : World), isK ek l = true → w.ownsRow base E ek.sz v l.len l.enc → l.len ≤ maxL → 0 ≤ q → q ≤ 1099511627776 →
  Calls P f #[v, .int .i64 q] w fun e w' => e = .returned (.int .i64 (rv l q)) ∧ (l.len = 0 → rv l q = q) ∧ (mk l q).sz = ek.sz ∧ (mk l q).len = l.len ∧ w'.ownsRow base E ek.sz v l.len (mk l q).enc ∧ w.grownBy w' v.ownBlock

theorem csMark_ok {P : Program} {f : FuncId} {E : TypeId} {ek : EK} {mk : EL → Int → EL} {rv : EL → Int → Int} (hfn : (P.funcs[f]?).map (fun fn => (fn.name == "runtime.NumGoroutine", fn.body.isNone)) = some (false, false)) (h : Marks P f E ek mk rv) : CSok P f (csMark E ek mk rv) := by
  refine ⟨hfn, fun xs hp K hS cx β w vs hI ha => ?_⟩
  simp only [csMark] at hS
  split at hS
  · rename_i a q
    obtain ⟨v, rfl, hv⟩ : ∃ v, vs = #[v, .int .i64 q] ∧ AC cx β a v := by
      cases hvs : vs.toList with
      | nil => rw [hvs] at ha; exact ha.elim
      | cons v r =>
        rw [hvs] at ha
        cases r with
        | nil => exact ha.2.elim
        | cons u r =>
          obtain ⟨h1, ⟨_, h2⟩, h3⟩ := ha
          cases r with
          | cons _ _ => exact h3.elim
          | nil => exact ⟨v, Array.toList_inj.1 (by rw [hvs, h2]), h1⟩
    split at hS
    · rename_i k ver
      obtain ⟨E', l, h1, h2⟩ := rowK_spec hS
      obtain ⟨h3, h4⟩ := side_iff.1 h2
      obtain ⟨h5, h6⟩ := side_iff.1 h4
      obtain ⟨⟨q0, q1⟩, h7⟩ := side_iff.1 h6
      obtain ⟨hkl, h8⟩ := setH_iff.1 h7
      have hE := Nat.eq_of_beq_eq_true h3
      have hsz := isK_sz h5
      subst hE
      obtain ⟨v1, r2, r3, r4⟩ := row_own hI h1
      have hv1 := s_val (cx := cx) hv r2
      subst hv1
      rw [hsz] at r3
      refine Calls.mono (h v l q _ w h5 r3 r4 q0 q1) ?_
      rintro e w' ⟨rfl, _, m1, m2, m3, m4⟩
      have hown : ownB hp β k = v.ownBlock := by rw [ownB_of h1 r2]; rfl
      have hO : Out cx β hp w (Ab.ST (some [k])) β (hp.set k (.r ver E' (mk l q))) w' := by
        refine Out.upd (k0 := k) (h' := .r ver E' (mk l q)) (e' := .r v ver) hI (by simp [Ab.ST]) ?_ (fun i hi => ⟨List.getElem?_set_ne (Ne.symm hi), rfl⟩) (by simp [hkl]) r2 (by simp [hI.len]) (by simp) (Ext.refl _)
          ⟨rfl, by rw [m1, m2]; exact m3, by rw [m2]; exact r4⟩ (fun b hb => .inl (by rw [hown]; exact hb))
        rw [hown]; exact Tch.of_grown m4
      exact ⟨_, _, _, β, rfl, h8, ⟨rfl, rfl⟩, hO⟩
    · obtain ⟨⟨q0, q1⟩, h1⟩ := side_iff.1 hS
      obtain ⟨_, hv⟩ := hv
      have hv : v = .slice none 0 0 := hv
      subst hv
      obtain ⟨hl1, hl2⟩ := isK_nil ek
      generalize ek.nil = l at hl1 hl2
      have he : l.enc = [] := List.eq_nil_of_length_eq_zero (by rw [l.enc_len, hl2]; simp)
      refine Calls.mono (h (.slice none 0 0) l q w.heap.size w hl1 (by rw [hl2, he]; exact World.ownsRow_nil _ _ _ _) (by omega) q0 q1) ?_
      rintro e w' ⟨rfl, m0, m1, m2, m3, m4⟩
      rw [m0 hl2]
      have hb : Below w.heap.size w w' := ⟨m4.os, m4.tape, m4.output, m4.size, fun k hk => m4.block k hk (by simp [Value.ownBlock])⟩
      exact ⟨_, _, hp, β, rfl, h1, ⟨rfl, rfl⟩, Out.stay hI hb⟩
    · exact hS.elim
  · exact hS.elim

def mkI (l : EL) (q : Int) : EL := .ints (markL q l.len)
def rvI (l : EL) (q : Int) : Int := q + l.len
theorem marksI : Marks Try.prog 113 3 .ints mkI rvI := by
  intro v l q base w hs h hl h0 h1
  cases l with
  | ints l =>
    refine Calls.mono (markIntS_any v l q base w h hl h0 h1) ?_
    rintro e w' ⟨rfl, h2, h3⟩
    have e1 : (markL q l.length).length = l.length := markL_length _ _
    refine ⟨rfl, fun h => by simp [rvI, h], rfl, e1, ?_, h3⟩
    have h2 : w'.ownsRow base 3 1 v (markL q l.length).length ((markL q l.length).map (Value.int .i64)) := h2
    rw [e1] at h2
    exact h2
  | gots l => cases hs
  | bytes l => cases hs
  | k3 l => cases hs
def c_l_markIntS : CS := csMark 3 .ints mkI rvI
theorem c_l_markIntS_ok : CSok Try.prog 113 c_l_markIntS := csMark_ok (by kernel_rfl) marksI

def intsD (l : List Int) : DV := .l (.s 3 (.ints l))
def heldI (l : List Int) (q : Int) : Int := if l = markL q l.length then q + l.length else -1

end Go.Proofs.Ytacjfkodndkaeaa
