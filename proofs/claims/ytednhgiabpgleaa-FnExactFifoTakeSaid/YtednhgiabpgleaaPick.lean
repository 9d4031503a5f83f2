/-
  The reader of the drawn inputs: pick, l6Open.
-/
import Derived.Test.YtednhgiabpgleaaData
namespace Go.Proofs.Ytednhgiabpgleaa
open Go.RowKit

/-- The first n bytes from a on are bytes, in blocks below B. -/
def RdB (B : Nat) (w : World) (a : Option Addr) (n : Nat) : Prop := ∀ k, k < n → ∃ g off, a = some ⟨g, off, none⟩ ∧ g < B ∧ ∃ x : Int, 0 ≤ x ∧ x ≤ 255 ∧ w.cell? ⟨g, off + k, none⟩ = some (.int .u8 x)
/-- The block r holds a reader at place p. -/
def Rd (B : Nat) (w : World) (r : Nat) (p : Nat) : Prop := ∃ a n cap, w.heap[r]? = some (.cells #[.slice a n cap, .int .i64 p] 107 (0, 0)) ∧ B ≤ r ∧ n ≤ 2000 ∧ RdB B w a n

theorem RdB.mono {B : Nat} {w w' : World} {a : Option Addr} {n : Nat} (h : RdB B w a n) (hb : ∀ g, g < B → g < w.heap.size → w'.heap[g]? = w.heap[g]?) : RdB B w' a n := by
  intro k hk
  obtain ⟨g, off, rfl, hg, x, h1, h2, h3⟩ := h k hk
  exact ⟨g, off, rfl, hg, x, h1, h2, (World.cell?_of_block (w := w) (hb g hg (World.block_lt_of_cell? w _ h3))).trans h3⟩

theorem RdB.up {B B' : Nat} {w : World} {a : Option Addr} {n : Nat} (h : RdB B w a n) (hb : B ≤ B') : RdB B' w a n := fun k hk => by
  obtain ⟨g, off, rfl, hg, x⟩ := h k hk
  exact ⟨g, off, rfl, by omega, x⟩
theorem Rd.below {B : Nat} {w w' : World} {r p : Nat} (h : Rd B w r p) (hb : Below w.heap.size w w') : Rd B w' r p := by
  obtain ⟨a, n, cap, h1, h2, h3, h4⟩ := h
  exact ⟨a, n, cap, look_below hb (Array.getElem?_eq_some_iff.1 h1).1 h1, h2, h3, h4.mono fun g _ hg => hb.block g hg⟩
theorem Rd.grown {B : Nat} {w w' : World} {r p : Nat} {row : Option Nat} (h : Rd B w r p) (hg : w.grownBy w' row) (hne : some r ≠ row) (hB : ∀ j, row = some j → B ≤ j) : Rd B w' r p := by
  obtain ⟨a, n, cap, h1, h2, h3, h4⟩ := h
  exact ⟨a, n, cap, look_grown hg hne h1, h2, h3, h4.mono fun g hgB hgs => hg.block g hgs (fun e => by have := hB g e.symm; omega)⟩
theorem Rd.set {B : Nat} {w : World} {r p : Nat} (h : Rd B w r p) {q : Addr} (hne : q.block ≠ r) (hB : B ≤ q.block) (u : Value) : Rd B (w.setCell q u) r p := by
  obtain ⟨a, n, cap, h1, h2, h3, h4⟩ := h
  exact ⟨a, n, cap, look_ne hne h1, h2, h3, h4.mono fun g hgB hgs => Below.heap_setCell _ _ _ _ (by omega)⟩
theorem Rd.lt {B : Nat} {w : World} {r p : Nat} (h : Rd B w r p) : B ≤ r ∧ r < w.heap.size := by
  obtain ⟨a, n, cap, h1, h2, h3, h4⟩ := h
  exact ⟨h2, (Array.getElem?_eq_some_iff.1 h1).1⟩

theorem rd_step {B r p n cap : Nat} {w : World} {a : Option Addr} (h1 : w.heap[r]? = some (.cells #[.slice a n cap, .int .i64 p] 107 (0, 0))) (h2 : B ≤ r) (h3 : n ≤ 2000) (h4 : RdB B w a n) :
    Rd B (w.setCell ⟨r, 1, none⟩ (.int .i64 ((p : Int) + 1))) r (p + 1) :=
  ⟨a, n, cap, by rw [look_set h1]; rfl, h2, h3, h4.mono fun g hgB _ => Below.heap_setCell _ _ _ _ (by show g ≠ r; omega)⟩

theorem xor_nonneg (x y : Int) (hx : 0 ≤ x) (hx2 : x < 9223372036854775808) (hy : 0 ≤ y) (hy2 : y < 9223372036854775808) : 0 ≤ bits BinOp.xor IntKind.i64 x y := by
  obtain ⟨a, rfl⟩ := Int.eq_ofNat_of_zero_le hx
  obtain ⟨b, rfl⟩ := Int.eq_ofNat_of_zero_le hy
  have ha : a < 2 ^ 63 := by omega
  have hb : b < 2 ^ 63 := by omega
  have h : (a ^^^ b) < 2 ^ 63 := Nat.xor_lt_two_pow ha hb
  have e : bits BinOp.xor IntKind.i64 (a : Int) (b : Int) = IntKind.i64.wrap ((a ^^^ b : Nat) : Int) := by
    simp only [bits, BitVec.ofInt_natCast, BitVec.toNat_xor, BitVec.toNat_ofNat]
    rw [Nat.mod_eq_of_lt (show a < 2 ^ IntKind.i64.bits from Nat.lt_trans ha (by decide)), Nat.mod_eq_of_lt (show b < 2 ^ IntKind.i64.bits from Nat.lt_trans hb (by decide))]
  rw [e, IntKind.wrap_i64]
  omega

set_option maxHeartbeats 800000 in
theorem pick_any (B r p : Nat) (m : Int) (w : World) (h : Rd B w r p) (hp : p ≤ 1073741824) (hm : m ≤ 4294967296) :
    Calls Try.prog 87 #[.pointer (some ⟨r, 0, none⟩), .int .i64 m] w fun e w' => ∃ x : Int, e = .returned (.int .i64 x) ∧ 0 ≤ x ∧ (x < m ∨ x = 0) ∧ Rd B w' r (p + 1) ∧ w.grownBy w' (some r) := by
  obtain ⟨a, n, cap, h1, h2, h3, h4⟩ := h
  have HS := hid (rd_step h1 h2 h3 h4)
  have H4 := hid h4
  obtain ⟨c0, f0⟩ := blk h1
  clear h1 h4
  by_cases hm1 : m < 1
  · go_enter Try.func87, Try.ntmps87
    go_wp2
    go_ret
    exact ⟨0, rfl, by omega, .inr rfl, HS.out, (by repeat (first | exact grown_refl _ _ | refine grown_drew ?_ | refine grown_set ?_ _))⟩
  · by_cases hn : n = 0
    · subst hn
      go_enter Try.func87, Try.ntmps87
      go_wp2
      go_ret
      exact ⟨0, rfl, by omega, .inr rfl, HS.out, (by repeat (first | exact grown_refl _ _ | refine grown_drew ?_ | refine grown_set ?_ _))⟩
    · have hn' : ((n : Int) == 0) = false := by rw [beq_eq_false_iff_ne]; omega
      by_cases hpn : p < n
      · obtain ⟨g, off, rfl, hg, x, x0, x1, hx⟩ := H4.out p hpn
        have hne : g ≠ r := by omega
        have hmod0 : 0 ≤ x % m := Int.emod_nonneg _ (by omega)
        have hmod1 : x % m < m := Int.emod_lt_of_pos _ (by omega)
        go_enter Try.func87, Try.ntmps87
        go_wp2
        go_ret
        exact ⟨_, rfl, hmod0, .inl hmod1, HS.out, (by repeat (first | exact grown_refl _ _ | refine grown_drew ?_ | refine grown_set ?_ _))⟩
      · have hq0 : 0 ≤ (p : Int) / (n : Int) := Int.ediv_nonneg (by omega) (by omega)
        have hq1 : (p : Int) / (n : Int) ≤ p := Int.ediv_le_self _ (by omega)
        have hi0 : 0 ≤ (p : Int) % (n : Int) := Int.emod_nonneg _ (by omega)
        have hi1 : (p : Int) % (n : Int) < n := Int.emod_lt_of_pos _ (by omega)
        have hj0 : 0 ≤ ((p : Int) * 7 + 3) % (n : Int) := Int.emod_nonneg _ (by omega)
        have hj1 : ((p : Int) * 7 + 3) % (n : Int) < n := Int.emod_lt_of_pos _ (by omega)
        obtain ⟨g, off, rfl, hg, x, x0, x1, hx⟩ := H4.out (p % n) (Nat.mod_lt _ (by omega))
        obtain ⟨g', off', he, hg', y, y0, y1, hy⟩ := H4.out ((p * 7 + 3) % n) (Nat.mod_lt _ (by omega))
        simp only [Option.some.injEq, Addr.mk.injEq, and_true] at he
        obtain ⟨rfl, rfl⟩ := he
        have hne : g ≠ r := by omega
        clear hg'
        go_enter Try.func87, Try.ntmps87
        go_wp2
        refine wp_region_E (fun _ => True) (.op 0 0 (.op 1 0 (.op 2 0 (.op 3 0 (.op 4 0 (.op 5 0 (.op 6 0 (.op 7 0 (.op 8 0 (.op 9 0 (.op 10 0 (.op 11 0 (.op 12 0 (.op 13 0 (.op 14 0 (.op 15 0 (.op 16 0 (.op 17 0 (.op 18 0 (.op 19 0 (.op 20 0 (.op 21 0 (.op 22 0 (.op 23 0 (.op 24 0 (.op 25 0 (.op 26 0 (.op 27 0 (.op 28 0 (.op 29 0 (.op 30 0 (.op 31 0 (.op 32 0 (.op 33 0 (.op 34 0 (.op 35 0 (.op 36 0 (.op 37 0 (.op 38 0 (.op 39 0 (.op 40 0 (.op 41 0 (.op 42 0 (.op 43 0 (.op 44 0 (.op 45 2 (.nil))))))))))))))))))))))))))))))))))))))))))))))) (by kernel_rfl) rfl (by kernel_rfl) (by kernel_rfl) (by kernel_rfl) (fun _ _ d _ _ h => by cases d <;> exact h) ?_
        go_wp2_with (first
    | (refine wpE_soft (by rfl) (by rfl) (by rfl) (by rfl) ?_; intro K hK)
    | (refine wpE_field (by rfl) (by rfl) (by rfl) (by kernel_rfl) ?_; intro K hK)
    | (refine wpE_conv (k := .i64) (by rfl) (by rfl) (by rfl) (by rfl) (by kernel_rfl) ?_; intro K hK)
    | (refine wpE_load (by rfl) (by rfl) (by rfl) (by rfl) (by first | trivial | (simp; done) | (simp; omega) | omega) (by first | (simp [*]; done) | go_simp) ?_; intro K hK)
    | (refine wpE_late (by rfl) (by rfl) ?_; intro K hK)
    | (refine wpE_skip (by rfl) (by rfl) ?_)
    | (refine wpE_nil ?_))
        go_ret
        have hX : 0 ≤ x * 131 + y * 1117 + (p : Int) * 29 + (p : Int) / (n : Int) * 53 := by omega
        have hX2 : x * 131 + y * 1117 + (p : Int) * 29 + (p : Int) / (n : Int) * 53 < 9223372036854775808 := by omega
        have hb := xor_nonneg _ _ hX hX2 (by omega : 0 ≤ (x * 131 + y * 1117 + (p : Int) * 29 + (p : Int) / (n : Int) * 53) / 64) (by omega)
        refine ⟨_, rfl, ?_, .inl ?_, HS.out, (by repeat (first | exact grown_refl _ _ | refine grown_drew ?_ | refine grown_set ?_ _))⟩
        · exact Int.tmod_nonneg _ hb
        · exact Int.tmod_lt_of_pos _ (by omega)

end Go.Proofs.Ytednhgiabpgleaa
