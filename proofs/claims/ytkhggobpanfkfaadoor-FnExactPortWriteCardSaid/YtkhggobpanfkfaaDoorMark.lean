/-
  Marks in slices of int (markIntS of the laws of exactness), by hand.
-/
import Derived.Test.YtkhggobpanfkfaaDoorData
import Derived.Test.YtkhggobpanfkfaaDoorG2
import Derived.Test.YtkhggobpanfkfaaDoorCodeB
namespace Go.Proofs.YtkhggobpanfkfaaDoor
open Go.RowKit

/-- The marks: k, k + 1 and so on. -/
def markL (k : Int) : Nat → List Int
  | 0 => []
  | n + 1 => k :: markL (k + 1) n
theorem markL_length (k : Int) (n : Nat) : (markL k n).length = n := by
  induction n generalizing k with
  | zero => rfl
  | succ n ih => simp [markL, ih]
theorem markL_getD (k : Int) (n i : Nat) (h : i < n) : (markL k n).getD i 0 = k + i := by
  induction n generalizing k i with
  | zero => omega
  | succ n ih =>
    cases i with
    | zero => simp [markL]
    | succ i =>
      have := ih (k + 1) i (by omega)
      simp only [markL, List.getD_cons_succ, this]
      omega
theorem OwnI.put {w : World} {base g n c : Nat} {l : List Int} (h : OwnI w base (.slice (some ⟨g, 0, none⟩) n c) l) (k : Nat) (x : Int) : OwnI (w.setCell ⟨g, k, none⟩ (.int .i64 x)) base (.slice (some ⟨g, 0, none⟩) n c) (l.set k x) := by
  obtain ⟨-, h2⟩ := h
  refine ⟨by simp, ?_⟩
  rcases h2 with ⟨h2, _⟩ | ⟨g', cap, cur, he, hb, hg, hn, hm, hs, ht⟩
  · simp at h2
  · simp only [Value.slice.injEq, Option.some.injEq, Addr.mk.injEq, and_true] at he
    obtain ⟨rfl, h3, rfl⟩ := he
    refine .inr ⟨g, c, _, by rw [h3, List.length_set], hb, look_set hg, by rw [List.length_set]; exact hn, hm, by simpa using hs, ?_⟩
    rw [List.length_set, List.map_set, ← ht]
    simp [List.take_set]
theorem OwnI.at' {w : World} {base : Nat} {a : Option Addr} {n c : Nat} {l : List Int} (h : OwnI w base (.slice a n c) l) {k : Nat} (hk : k < l.length) : ∃ g, a = some ⟨g, 0, none⟩ ∧ base ≤ g ∧ g < w.heap.size ∧ (∀ j, j < l.length → w.cell? ⟨g, j, none⟩ = some (.int .i64 (l.getD j 0))) ∧ ∀ j, w.frozen? ⟨g, j, none⟩ = false := by
  obtain ⟨_, _, he, hc⟩ := h.ints.form
  simp only [Value.slice.injEq] at he
  obtain ⟨rfl, rfl, rfl⟩ := he
  rcases h.2 with ⟨h2, h3⟩ | ⟨g, cap, cur, he, hb, hg, _⟩
  · omega
  · simp only [Value.slice.injEq] at he
    obtain ⟨rfl, _⟩ := he
    refine ⟨g, rfl, hb, (Array.getElem?_eq_some_iff.1 hg).1, fun j hj => ?_, (blk hg).2⟩
    obtain ⟨g', off, he, hcell⟩ := hc j hj
    simp only [Option.some.injEq, Addr.mk.injEq, and_true] at he
    obtain ⟨rfl, rfl⟩ := he
    simpa using hcell
theorem take_set_succ (l m : List Int) (k : Nat) (hk : k < l.length) (hm : m = l.take k ++ List.replicate (l.length - k) 0) : m.set k (l.getD k 0) = l.take (k + 1) ++ List.replicate (l.length - (k + 1)) 0 := by
  subst hm
  rw [List.set_append_right _ _ (by simp; omega), show l.length - k = (l.length - (k + 1)) + 1 by omega, List.replicate_succ, List.length_take, Nat.min_eq_left (by omega), Nat.sub_self, List.set_cons_zero, show l.take (k + 1) = l.take k ++ [l[k]] by rw [List.take_add_one, List.getElem?_eq_getElem hk]; rfl, List.append_assoc, List.singleton_append]
  simp [List.getD, hk]

/-- The slice v can be read as l (an argument of a law). -/
def ReadI (w : World) (v : Value) (l : List Int) : Prop := ∃ a cap, v = .slice a l.length cap ∧ ∀ k, k < l.length → ∃ g off, a = some ⟨g, off, none⟩ ∧ w.cell? ⟨g, off + k, none⟩ = some (.int .i64 (l.getD k 0))
theorem mark_step (l : List Int) (q : Int) (n k : Nat) (hk : k < n) (hn : l.length = n) : (markL q k ++ l.drop k).set k (q + k) = markL q (k + 1) ++ l.drop (k + 1) := by
  have h1 : ∀ q : Int, ∀ k : Nat, markL q (k + 1) = markL q k ++ [q + k] := by
    intro q k
    induction k generalizing q with
    | zero => simp [markL]
    | succ k ih =>
      rw [markL, ih (q + 1)]
      simp only [markL, List.cons_append]
      congr 3
      omega
  rw [List.set_append_right _ _ (by rw [markL_length]; omega), markL_length, Nat.sub_self, List.drop_eq_getElem_cons (by omega), List.set_cons_zero, h1]
  simp

set_option maxHeartbeats 400000 in
theorem markIntS_any (v : Value) (l : List Int) (q : Int) (base : Nat) (w : World) (hv : OwnI w base v l) (hl : l.length ≤ 1099511627776) (h0 : 0 ≤ q) (h1 : q ≤ 1099511627776) :
    Calls Tryd.prog 68 #[v, .int .i64 q] w fun e w' => e = .returned (.int .i64 (q + l.length)) ∧ OwnI w' base v (markL q l.length) ∧ w.grownBy w' v.ownBlock := by
  obtain ⟨a, cap, rfl⟩ := hv.form
  obtain ⟨n, hn⟩ : ∃ n, n = l.length := ⟨_, rfl⟩
  rw [← hn] at hl hv ⊢
  have HN := hid hn
  have HV := hid hv
  clear hn hv
  go_enter Tryd.func68, Tryd.ntmps68
  go_wp2
  go_loopw [5, 1] (fun i z wr => ∃ k : Nat, k ≤ n ∧ i = .int .i64 k ∧ z = .int .i64 (q + k) ∧ OwnI wr base (.slice a n cap) (markL q k ++ l.drop k) ∧ w.grownBy wr (Value.slice a n cap).ownBlock) (fun i _ _ => n - (intOf i).toNat)
  case atStart => exact ⟨0, Nat.zero_le _, rfl, by simp, by simpa [markL] using HV.out, grown_refl _ _⟩
  case round =>
    obtain ⟨k, hk, rfl, rfl, hO, hG⟩ := hrel
    have HO := hid hO
    have HG := hid hG
    clear hG
    by_cases hlt : k < n
    · have hlen : (markL q k ++ l.drop k).length = n := by have := HN.out; rw [List.length_append, markL_length, List.length_drop]; omega
      obtain ⟨g', rfl, -, hg2, hc2, hf2⟩ := hO.at' (k := k) (by omega)
      have hcw := hc2 k (by omega)
      have hfw := hf2 k
      clear hO hc2 hf2
      go_wp2
      go_roundw
      case rel =>
        refine ⟨k + 1, by omega, by go_num, by go_num, ?_, grown_set HG.out _⟩
        have := HO.out.put k (q + k)
        rwa [mark_step l q n k hlt HN.out.symm] at this
      case measure => simp [intOf]; omega
    · obtain rfl : k = n := by omega
      clear hO
      have hO := HO.out
      rw [HN.out, List.drop_length, List.append_nil, ← HN.out] at hO
      replace HO := hid hO
      clear hO
      go_wp2
      go_ret
      exact ⟨rfl, HO.out, HG.out⟩

end Go.Proofs.YtkhggobpanfkfaaDoor

/-
  Exact laws on the abstract walk: marks in lists of the call's own; arguments that came in.
-/
namespace Go.Proofs.YtkhggobpanfkfaaDoor
open Go.RowKit
open Ab
set_option linter.unusedSimpArgs false
set_option linter.unusedVariables false

def isK : EK → EL → Bool
  | .ints, .ints _ => true
  | .gots, .gots _ => true
  | .bytes, .bytes _ => true
  | .k3, .k3 _ => true
  | _, _ => false
theorem isK_sz {ek : EK} {l : EL} (h : isK ek l = true) : l.sz = ek.sz := by cases ek <;> cases l <;> first | rfl | cases h
theorem isK_nil (ek : EK) : isK ek ek.nil = true ∧ ek.nil.len = 0 := by cases ek <;> exact ⟨rfl, rfl⟩

/-- A function that is lent a list of the call's own and writes it anew. -/
def csMark (E : TypeId) (ek : EK) (mk : EL → Int → EL) (rv : EL → Int → Int) : CS :=
  { S := fun xs hp K => match xs with
      | [a, .l (.v (.int .i64 q))] => (match a with
        | .l (.s k ver) => rowK hp k ver fun E' l => Side (Nat.beq E' E = true) <| Side (isK ek l = true) <| Side (0 ≤ q ∧ q ≤ 1099511627776) <| setH hp k (.r ver E (mk l q)) fun hp' => K (.l (.v (.int .i64 (rv l q)))) hp'
        | .l (.v (.slice none 0 0)) => Side (0 ≤ q ∧ q ≤ 1099511627776) <| K (.l (.v (.int .i64 q))) hp
        | _ => False)
      | _ => False
    tch := fun xs => match xs with
      | .l (.s k _) :: _ => some [k]
      | _ => some [] }

def Marks (P : Program) (f : FuncId) (E : TypeId) (ek : EK) (mk : EL → Int → EL) (rv : EL → Int → Int) : Prop := ∀ (v : Value) (l : EL) (q : Int) (base : Nat) (w : World), isK ek l = true → w.ownsRow base E ek.sz v l.len l.enc → l.len ≤ maxL → 0 ≤ q → q ≤ 1099511627776 →
  Calls P f #[v, .int .i64 q] w fun e w' => e = .returned (.int .i64 (rv l q)) ∧ (l.len = 0 → rv l q = q) ∧ (mk l q).sz = ek.sz ∧ (mk l q).len = l.len ∧ w'.ownsRow base E ek.sz v l.len (mk l q).enc ∧ w.grownBy w' v.ownBlock

theorem csMark_ok {P : Program} {f : FuncId} {E : TypeId} {ek : EK} {mk : EL → Int → EL} {rv : EL → Int → Int} (hfn : (P.funcs[f]?).map (fun fn => (fn.name == "runtime.NumGoroutine", fn.body.isNone)) = some (false, false)) (h : Marks P f E ek mk rv) : CSok P f (csMark E ek mk rv) := by
  refine ⟨hfn, fun xs hp K hS cx β w vs hI gl ha => ?_⟩
  simp only [csMark] at hS
  split at hS
  · rename_i a q
    obtain ⟨v, rfl, hv⟩ : ∃ v, vs = #[v, .int .i64 q] ∧ AC cx β a v := by
      cases hvs : vs.toList with
      | nil => rw [hvs] at ha; exact ha.elim
      | cons v r =>
        rw [hvs] at ha
        cases r with
        | nil => exact ha.2.elim
        | cons u r =>
          obtain ⟨h1, ⟨_, h2⟩, h3⟩ := ha
          cases r with
          | cons _ _ => exact h3.elim
          | nil => exact ⟨v, Array.toList_inj.1 (by rw [hvs, h2]), h1⟩
    split at hS
    · rename_i k ver
      obtain ⟨E', l, h1, h2⟩ := rowK_spec hS
      obtain ⟨h3, h4⟩ := side_iff.1 h2
      obtain ⟨h5, h6⟩ := side_iff.1 h4
      obtain ⟨⟨q0, q1⟩, h7⟩ := side_iff.1 h6
      obtain ⟨hkl, h8⟩ := setH_iff.1 h7
      have hE := Nat.eq_of_beq_eq_true h3
      have hsz := isK_sz h5
      subst hE
      obtain ⟨v1, r2, r3, r4⟩ := row_own hI h1
      have hv1 := s_val (cx := cx) hv r2
      subst hv1
      rw [hsz] at r3
      refine Calls.mono (h v l q _ w h5 r3 r4 q0 q1) ?_
      rintro e w' ⟨rfl, _, m1, m2, m3, m4⟩
      have hown : ownB hp β k = v.ownBlock := by rw [ownB_of h1 r2]; rfl
      have hO : Out cx β hp w (Ab.ST (some [k])) β (hp.set k (.r ver E' (mk l q))) w' := by
        refine Out.upd (k0 := k) (h' := .r ver E' (mk l q)) (e' := .r v ver) hI (by simp [Ab.ST]) ?_ (fun i hi => ⟨List.getElem?_set_ne (Ne.symm hi), rfl⟩) (by simp [hkl]) r2 (by simp [hI.len]) (by simp) (Ext.refl _)
          ⟨rfl, by rw [m1, m2]; exact m3, by rw [m2]; exact r4⟩ (fun b hb => .inl (by rw [hown]; exact hb))
        rw [hown]; exact Tch.of_grown m4
      exact ⟨_, _, _, β, rfl, h8, ⟨rfl, rfl⟩, hO⟩
    · obtain ⟨⟨q0, q1⟩, h1⟩ := side_iff.1 hS
      obtain ⟨_, hv⟩ := hv
      have hv : v = .slice none 0 0 := hv
      subst hv
      obtain ⟨hl1, hl2⟩ := isK_nil ek
      generalize ek.nil = l at hl1 hl2
      have he : l.enc = [] := List.eq_nil_of_length_eq_zero (by rw [l.enc_len, hl2]; simp)
      refine Calls.mono (h (.slice none 0 0) l q w.heap.size w hl1 (by rw [hl2, he]; exact World.ownsRow_nil _ _ _ _) (by omega) q0 q1) ?_
      rintro e w' ⟨rfl, m0, m1, m2, m3, m4⟩
      rw [m0 hl2]
      have hb : Below w.heap.size w w' := ⟨m4.os, m4.tape, m4.output, m4.size, fun k hk => m4.block k hk (by simp [Value.ownBlock])⟩
      exact ⟨_, _, hp, β, rfl, h1, ⟨rfl, rfl⟩, Out.stay hI hb⟩
    · exact hS.elim
  · exact hS.elim

def mkI (l : EL) (q : Int) : EL := .ints (markL q l.len)
def rvI (l : EL) (q : Int) : Int := q + l.len
theorem marksI : Marks Tryd.prog 68 3 .ints mkI rvI := by
  intro v l q base w hs h hl h0 h1
  cases l with
  | ints l =>
    refine Calls.mono (markIntS_any v l q base w h hl h0 h1) ?_
    rintro e w' ⟨rfl, h2, h3⟩
    have e1 : (markL q l.length).length = l.length := markL_length _ _
    refine ⟨rfl, fun h => by simp [rvI, h], rfl, e1, ?_, h3⟩
    have h2 : w'.ownsRow base 3 1 v (markL q l.length).length ((markL q l.length).map (Value.int .i64)) := h2
    rw [e1] at h2
    exact h2
  | gots l => cases hs
  | bytes l => cases hs
  | k3 l => cases hs
def c_l_markIntS : CS := csMark 3 .ints mkI rvI
theorem c_l_markIntS_ok : CSok Tryd.prog 68 c_l_markIntS := csMark_ok (by kernel_rfl) marksI

def intsD (l : List Int) : DV := .l (.s 3 (.ints l))
def heldI (l : List Int) (q : Int) : Int := if l = markL q l.length then q + l.length else -1

end Go.Proofs.YtkhggobpanfkfaaDoor
