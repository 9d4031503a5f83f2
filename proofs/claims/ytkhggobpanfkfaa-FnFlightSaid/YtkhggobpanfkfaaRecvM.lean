/-
  RecvTake, RecvPut and recvCopy of the program: what they return (by hand, over the linked list).
-/
import Derived.Test.YtkhggobpanfkfaaGot
import Derived.Test.YtkhggobpanfkfaaR1
import Derived.Deep.Cut
import Derived.Deep.CutRange
namespace Go.Proofs.Ytkhggobpanfkfaa
open Go.RowKit
open Ab
set_option linter.unusedSimpArgs false
set_option linter.unusedVariables false

theorem RecvValid_any (r t : Int) (v : Value) (l : List (Int × Int)) (o : Bool) (a : Int) (w : World) (hv : Sl w 2 v l.length (EL.gots l).enc) (hl : l.length ≤ 1099511627776) :
    Calls Try.prog 92 #[.agg #[.int .i64 r, .int .i64 t, v, .bool o, .int .i64 a]] w fun e w' => e = .returned (.bool (rcvV ⟨r, t, l, o, a⟩)) ∧ Below w.heap.size w w' := by
  refine (con_i_RecvValid ((r, t, l, o, a, ()), ()) (fun d => d = .l (.v (.bool (rcvV ⟨r, t, l, o, a⟩)))) rfl w #[.agg #[.int .i64 r, .int .i64 t, v, .bool o, .int .i64 a]] ⟨⟨_, rfl, rfl, rfl, ⟨hv, hl⟩, rfl, rfl, trivial⟩, trivial⟩).mono ?_
  rintro e w' ⟨d, u, rfl, rfl, hb, bs, h1, _⟩
  obtain ⟨rfl, _⟩ := h1
  exact ⟨rfl, hb⟩
theorem below_alloc3 (w : World) (o o' o2 : Obj) : Below w.heap.size w (((w.alloc o).alloc o').alloc o2) := (((Below.refl _ _).alloc (Nat.le_refl _) o).alloc (by simp) o').alloc (by simp; omega) o2
theorem OwnG.base {w : World} {base base' : Nat} {v : Value} {l : List (Int × Int)} (h : OwnG w base v l) (hb : base' ≤ base) : OwnG w base' v l := owns_base h hb
theorem OwnG.set {w : World} {base : Nat} {v : Value} {l : List (Int × Int)} (h : OwnG w base v l) {p : Addr} (hp : p.block < base) (u : Value) : OwnG (w.setCell p u) base v l := ownsRow_setCell_below h hp u
theorem OwnG.below {w w' : World} {base : Nat} {v : Value} {l : List (Int × Int)} (h : OwnG w base v l) (hb : Below w.heap.size w w') : OwnG w' base v l := owns_below h hb
theorem OwnG.drew {w : World} {base : Nat} {v : Value} {l : List (Int × Int)} (h : OwnG w base v l) : OwnG w.drew base v l := h

theorem Ex.ddrew {p : Nat → Prop} {w w' : World} (h : Ex p w w') : Ex p w.drew w'.drew := h
theorem below_set' (w : World) (b o : Nat) (v : Value) : Below b w (w.setCell ⟨b, o, none⟩ v) := ⟨rfl, rfl, rfl, by simp, fun k hk => heap_setCell_other w ⟨b, o, none⟩ k v (by simp; omega)⟩

/-- The argument of a function on receivers. -/
theorem rcv_arg {w : World} {r t : Int} {l : List (Int × Int)} {o : Bool} {a : Int} {us : List Value} (h : rds w [.int, .int, .gots, .bool, .int] (r, t, l, o, a, ()) us) : ∃ v, us = [.int .i64 r, .int .i64 t, v, .bool o, .int .i64 a] ∧ Sl w 2 v l.length (EL.gots l).enc ∧ l.length ≤ 1099511627776 := by
  match us, h with
  | [x1, x2, x3, x4, x5], ⟨h1, h2, ⟨h3, h3'⟩, h4, h5, _⟩ => exact ⟨x3, by rw [show x1 = _ from h1, show x2 = _ from h2, show x4 = _ from h4, show x5 = _ from h5], h3, h3'⟩

end Go.Proofs.Ytkhggobpanfkfaa
