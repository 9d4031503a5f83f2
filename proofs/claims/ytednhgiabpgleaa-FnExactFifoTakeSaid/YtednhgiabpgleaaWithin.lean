/-
  What a call has made lies between two block numbers; marking it leaves all else.
-/
import Derived.Test.YtednhgiabpgleaaExFifo
namespace Go.Proofs.Ytednhgiabpgleaa
open Go.RowKit

/-- Only blocks from lo on and before hi have turned. -/
structure Within (lo hi : Nat) (w w' : World) : Prop where
  os : w'.os = w.os
  tape : w'.tape = w.tape
  output : w'.output = w.output
  size : w.heap.size ≤ w'.heap.size
  block : ∀ b, b < w.heap.size → ¬ (lo ≤ b ∧ b < hi) → w'.heap[b]? = w.heap[b]?

/-- A slice of int that lies in blocks from lo on and before hi. -/
def OwnR (w : World) (lo hi : Nat) (v : Value) (l : List Int) : Prop := OwnI w lo v l ∧ ∀ j, v.ownBlock = some j → j < hi

theorem OwnI.inR {w : World} {lo : Nat} {v : Value} {l : List Int} (h : OwnI w lo v l) : OwnR w lo w.heap.size v l := ⟨h, fun j hj => (h.lt j hj).2⟩
theorem OwnR.ints {w : World} {lo hi : Nat} {v : Value} {l : List Int} (h : OwnR w lo hi v l) : Ints w v l := h.1.ints
theorem OwnR.below {w w' : World} {lo hi : Nat} {v : Value} {l : List Int} (h : OwnR w lo hi v l) (hb : Below w.heap.size w w') : OwnR w' lo hi v l := ⟨h.1.below hb, h.2⟩
theorem OwnR.within {w w' : World} {lo hi lo' hi' : Nat} {v : Value} {l : List Int} (h : OwnR w lo hi v l) (hg : Within lo' hi' w w') (hd : hi ≤ lo' ∨ hi' ≤ lo) : OwnR w' lo hi v l := by
  obtain ⟨⟨h1, h2⟩, h3⟩ := h
  refine ⟨⟨h1, h2.imp id fun ⟨g, cap, cur, he, hb, hg', hx⟩ => ⟨g, cap, cur, he, hb, ?_, hx⟩⟩, h3⟩
  have := h3 g (by rw [he]; rfl)
  exact (hg.block g (Array.getElem?_eq_some_iff.1 hg').1 (by omega)).trans hg'
theorem OwnR.lo {w : World} {lo lo' hi : Nat} {v : Value} {l : List Int} (h : OwnR w lo hi v l) (hl : lo' ≤ lo) : OwnR w lo' hi v l := ⟨h.1.base hl, h.2⟩
theorem look_within {w w' : World} {lo hi k : Nat} {x : Obj} (hg : Within lo hi w w') (hk : ¬ (lo ≤ k ∧ k < hi)) (h : w.heap[k]? = some x) : w'.heap[k]? = some x := (hg.block k (Array.getElem?_eq_some_iff.1 h).1 hk).trans h
theorem Within.belowOf {w w1 w2 : World} {lo hi B : Nat} (h : Below B w w1) (hg : Within lo hi w1 w2) (hB : B ≤ lo) (hs : B ≤ w1.heap.size) : Below B w w2 :=
  ⟨hg.os.trans h.os, hg.tape.trans h.tape, hg.output.trans h.output, Nat.le_trans h.size hg.size, fun k hk => (hg.block k (by omega) (by omega)).trans (h.block k hk)⟩
theorem within_of_grown {w w' : World} {lo hi : Nat} {v : Value} (hg : w.grownBy w' v.ownBlock) (h : ∀ j, v.ownBlock = some j → lo ≤ j ∧ j < hi) : Within lo hi w w' :=
  ⟨hg.os, hg.tape, hg.output, hg.size, fun b hb hn => hg.block b hb (fun e => hn (h b e.symm))⟩
theorem Within.of_below {w w1 w2 : World} {lo hi : Nat} (h : Below w.heap.size w w1) (hg : Within lo hi w1 w2) : Within lo hi w w2 :=
  ⟨hg.os.trans h.os, hg.tape.trans h.tape, hg.output.trans h.output, Nat.le_trans h.size hg.size, fun k hk hn => (hg.block k (Nat.lt_of_lt_of_le hk h.size) hn).trans (h.block k hk)⟩

theorem markFifo_in (room : Int) (v : Value) (l : List Int) (q : Int) (lo hi : Nat) (w : World) (hv : OwnR w lo hi v l) (hl : l.length ≤ 1099511627776) (h0 : 0 ≤ q) (h1 : q ≤ 1099511627776) :
    Calls Try.prog 26 #[.agg #[.int .i64 room, v], .int .i64 q] w fun e w' => e = .returned (.int .i64 (q + l.length)) ∧ OwnR w' lo hi v (markL q l.length) ∧ Within lo hi w w' := by
  refine (markFifo_any room v l q lo w hv.1 hl h0 h1).mono ?_
  rintro e w' ⟨rfl, h2, h3⟩
  exact ⟨rfl, ⟨h2, hv.2⟩, within_of_grown h3 fun j hj => ⟨(hv.1.lt j hj).1, hv.2 j hj⟩⟩

end Go.Proofs.Ytednhgiabpgleaa
