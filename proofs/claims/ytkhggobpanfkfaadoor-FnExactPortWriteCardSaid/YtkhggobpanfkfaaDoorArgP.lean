/-
  Slices of pairs of numbers, and structs of five fields, that came in with a law's argument. Plain lemmas; the conditions are the types' rows.
-/
import Derived.Test.YtkhggobpanfkfaaDoorCodeB
import Derived.Lib.SmallJoins
namespace Go.Proofs.YtkhggobpanfkfaaDoor
open Go.ChangeShapes Go.WideShapes Go.RowKit Go.Deep Go.Joins
open Ab
set_option linter.unusedSimpArgs false
set_option linter.unusedVariables false

theorem sl_of_cells2 {w : World} {x : Addr} {n cap : Nat} {xs : List Value} (h1 : n ≤ cap) (h2 : xs.length = cap * 2) (h3 : ∀ i, i < xs.length → w.cell? (x.add i) = xs[i]?) : Sl w 2 (.slice (some x) n cap) n (xs.take (n * 2)) := by
  refine ⟨by rw [List.length_take]; omega, ?_⟩
  by_cases h0 : cap = 0
  · exact .inl ⟨by omega, some x, cap, by rw [show n = 0 by omega], fun h => by simp at h⟩
  right
  have hc0 : w.cell? x = some (xs[0]'(by omega)) := by
    have := h3 0 (by omega)
    rw [List.getElem?_eq_getElem (by omega)] at this
    rw [← this]
    congr 1
  have hs : x.spot = none := World.cell?_spot hc0
  obtain ⟨g, off, spot⟩ := x
  simp only at hs
  subst hs
  have hadd : ∀ i, (⟨g, off, none⟩ : Addr).add i = ⟨g, off + i, none⟩ := fun i => by unfold Addr.add; split <;> simp_all
  unfold World.cell? at hc0
  cases hg : w.heap[g]? with
  | none => simp [hg] at hc0
  | some o =>
    cases o with
    | cells cur T fr =>
      have hcell : ∀ i, i < cap * 2 → cur[off + i]? = xs[i]? := fun i hi => by
        have := h3 i (by omega)
        rw [hadd, World.cell?] at this
        simp only [hg] at this
        simpa using this
      refine ⟨g, off, cap, cur, (T, fr), rfl, h1, hg, ?_, ?_⟩
      · have := hcell (cap * 2 - 1) (by omega)
        rw [List.getElem?_eq_getElem (by omega)] at this
        have := (Array.getElem?_eq_some_iff.1 this).1
        omega
      · apply List.ext_getElem?
        intro i
        simp only [List.getElem?_take]
        split
        · rw [List.getElem?_drop, Array.getElem?_toList]
          exact hcell i (by omega)
        · rfl
    | _ => simp [hg] at hc0

def decI : Option Value → Int
  | some (.int _ n) => n
  | _ => 0

section
variable {H : Type} {enc : TypeId × Value → H} {P : Program} {w : World} {base : Nat} {spare : Nat → Bool} {held : Bool}

theorem gots_arg {t e : TypeId} {f0 f1 : Field} {fuel : Nat} {v : Value} {x : DataW H × List MemPlace} (ht : P.underlying t = some (.slice e)) (he : P.underlying e = some (.struct #[f0, f1])) (hi0 : P.underlying f0.type = some (.int .i64)) (hi1 : P.underlying f1.type = some (.int .i64))
    (hone : oneCellFields P #[f0, f1] = true) (hc : P.cellsOf e = 2) (h : DataW.trod enc P w base spare held fuel t [v] = some x) (hs : ∀ b, spare b = true) :
    ∃ a n c, v = .slice a n c ∧ n ≤ 9223372036854775807 ∧ (n ≤ 1048576 → ∃ l : List (Int × Int), rdE w (.gots l) v) := by
  rcases DataW.trod_slice ht h with ⟨e1, _⟩ | ⟨a, len, cap, elems, rest, n, _, e1, _, hb, hl, hm, hlen, hel, hsp, _⟩
  · simp only [List.cons.injEq, and_true] at e1
    subst e1
    exact ⟨none, 0, 0, rfl, by omega, fun _ => ⟨[], ⟨rfl, .inl ⟨rfl, _, _, rfl, fun _ => rfl⟩⟩, Nat.zero_le _⟩⟩
  · simp only [List.cons.injEq, and_true] at e1
    subst e1
    have hmx : maxLen = 9223372036854775807 := rfl
    refine ⟨some a, len, cap, rfl, by omega, fun hn => ?_⟩
    rw [hc] at hel hsp
    obtain ⟨hrl, hr⟩ := hsp (hs _)
    obtain ⟨o0, k0⟩ := hone_of hone 0 f0 rfl
    obtain ⟨o1, k1⟩ := hone_of hone 1 f1 rfl
    have one : ∀ (b : Addr) (y : DataW H × List MemPlace), (w.cells? base b 2).bind (DataW.trod enc P w base spare held n e) = some y → ∃ p q : Int, w.cell? (b.add 0) = some (.int .i64 p) ∧ w.cell? (b.add 1) = some (.int .i64 q) := by
      intro b y hy
      obtain ⟨cs2, hc2, hy2⟩ := Option.bind_eq_some_iff.1 hy
      obtain ⟨_, hl2, hcell⟩ := World.cells?_some hc2
      obtain ⟨y0, y1, m, _, _, g0, g1⟩ := trod_struct2 he hy2
      match cs2, hl2 with
      | [c0, c1], _ =>
        rw [o0, k0] at g0
        rw [o1, k1] at g1
        obtain ⟨p, e0, -, -⟩ := DataW.trod_int hi0 (cs := [c0]) (by simpa using g0)
        obtain ⟨q, e1, -, -⟩ := DataW.trod_int hi1 (cs := [c1]) (by simpa using g1)
        simp only [List.cons.injEq, and_true] at e0 e1
        subst e0 e1
        exact ⟨p, q, hcell 0 (by omega), hcell 1 (by omega)⟩
    have each : ∀ i, i < cap → ∃ p q : Int, w.cell? ((a.add (i * 2)).add 0) = some (.int .i64 p) ∧ w.cell? ((a.add (i * 2)).add 1) = some (.int .i64 q) := by
      intro i hi
      by_cases hil : i < len
      · exact one _ (elems[i]'(by omega)) (by rw [hel i hil, List.getElem?_eq_getElem])
      · have := hr (i - len) (by omega)
        rw [show len + (i - len) = i by omega] at this
        exact one _ (rest[i - len]'(by omega)) (by rw [this, List.getElem?_eq_getElem])
    have hspot : 0 < cap → a.spot = none := fun h0 => by
      obtain ⟨p, q, h1, _⟩ := each 0 h0
      have := World.cell?_spot h1
      unfold Addr.add at this
      simpa using this
    have hadd2 : 0 < cap → ∀ i j, (a.add i).add j = a.add (i + j) := fun h0 i j => by
      have h1 := hspot h0
      obtain ⟨g, off, spot⟩ := a
      simp only at h1
      subst h1
      have hadd : ∀ o i, (⟨g, o, none⟩ : Addr).add i = ⟨g, o + i, none⟩ := fun o i => by unfold Addr.add; split <;> simp_all
      rw [hadd, hadd, hadd, Nat.add_assoc]
    let z : Nat → Int × Int := fun i => (decI (w.cell? (a.add (i * 2))), decI (w.cell? (a.add (i * 2 + 1))))
    have hz : ∀ i, i < cap → w.cell? (a.add (i * 2)) = some (.int .i64 (z i).1) ∧ w.cell? (a.add (i * 2 + 1)) = some (.int .i64 (z i).2) := by
      intro i hi
      obtain ⟨p, q, h1, h2⟩ := each i hi
      rw [hadd2 (by omega), Nat.add_zero] at h1
      rw [hadd2 (by omega)] at h2
      simp only [z, h1, h2, decI, and_self]
    have hlenE : (EL.gots ((List.range cap).map z)).enc.length = cap * 2 := by rw [EL.enc_len]; simp [EL.len, EL.sz]
    have hget : ∀ j, j < cap * 2 → w.cell? (a.add j) = (EL.gots ((List.range cap).map z)).enc[j]? := by
      intro j hj
      have key : ∀ (q : List (Int × Int)) (i : Nat), i < q.length → (EL.gots q).enc[i * 2]? = some (.int .i64 (q.getD i (0, 0)).1) ∧ (EL.gots q).enc[i * 2 + 1]? = some (.int .i64 (q.getD i (0, 0)).2) := by
        intro q
        induction q with
        | nil => intro i hi; simp at hi
        | cons x q ih =>
          intro i hi
          cases i with
          | zero => simp [EL.enc]
          | succ i =>
            have := ih i (by simpa using hi)
            have e1 : (i + 1) * 2 = i * 2 + 1 + 1 := by omega
            simpa [EL.enc, e1] using this
      have hi : j / 2 < cap := by omega
      have hk := key ((List.range cap).map z) (j / 2) (by simpa using hi)
      have hzz := hz (j / 2) hi
      have hgd : ((List.range cap).map z).getD (j / 2) (0, 0) = z (j / 2) := by simp [List.getD, hi]
      rw [hgd] at hk
      rcases Nat.mod_two_eq_zero_or_one j with h0 | h1
      · have : j = j / 2 * 2 := by omega
        rw [this, hk.1]
        exact hzz.1
      · have : j = j / 2 * 2 + 1 := by omega
        rw [this, hk.2]
        exact hzz.2
    refine ⟨((List.range cap).map z).take len, ?_, ?_⟩
    · have hll : (EL.gots (((List.range cap).map z).take len)).len = len := by simp only [EL.len, List.length_take, List.length_map, List.length_range]; omega
      rw [hll]
      have he2 : (EL.gots (((List.range cap).map z).take len)).enc = (EL.gots ((List.range cap).map z)).enc.take (len * 2) := EL.enc_take (.gots ((List.range cap).map z)) len
      rw [he2]
      exact sl_of_cells2 hl hlenE (fun i hi => hget i (by rw [hlenE] at hi; exact hi))
    · simp only [EL.len, maxL, List.length_take, List.length_map, List.length_range]
      omega

theorem array5 {α : Type} {cs : Array α} (h : cs.size = 5) : ∃ c0 c1 c2 c3 c4, cs = #[c0, c1, c2, c3, c4] := by
  obtain ⟨l⟩ := cs
  match l, h with
  | [c0, c1, c2, c3, c4], _ => exact ⟨c0, c1, c2, c3, c4, rfl⟩
theorem trod_struct5 {t : TypeId} {f0 f1 f2 f3 f4 : Field} {fuel : Nat} {cs : List Value} {x : DataW H × List MemPlace} (ht : P.underlying t = some (.struct #[f0, f1, f2, f3, f4])) (h : DataW.trod enc P w base spare held fuel t cs = some x) :
    ∃ y0 y1 y2 y3 y4 n, DataW.trod enc P w base spare held n f0.type ((cs.drop f0.offset).take (P.cellsOf f0.type)) = some y0 ∧ DataW.trod enc P w base spare held n f1.type ((cs.drop f1.offset).take (P.cellsOf f1.type)) = some y1 ∧
      DataW.trod enc P w base spare held n f2.type ((cs.drop f2.offset).take (P.cellsOf f2.type)) = some y2 ∧ DataW.trod enc P w base spare held n f3.type ((cs.drop f3.offset).take (P.cellsOf f3.type)) = some y3 ∧ DataW.trod enc P w base spare held n f4.type ((cs.drop f4.offset).take (P.cellsOf f4.type)) = some y4 := by
  obtain ⟨xs, n, _, rfl, hl, hlen, hf⟩ := DataW.trod_struct ht h
  match xs, hlen with
  | [y0, y1, y2, y3, y4], _ => exact ⟨y0, y1, y2, y3, y4, n, by simpa using hf 0 f0 rfl, by simpa using hf 1 f1 rfl, by simpa using hf 2 f2 rfl, by simpa using hf 3 f3 rfl, by simpa using hf 4 f4 rfl⟩
theorem open_agg5 {r : Reach} {b0 : Nat} {t : TypeId} {f0 f1 f2 f3 f4 : Field} {v : Value} {d : DataW H} {p : List MemPlace} (hs : P.underlying t = some (.struct #[f0, f1, f2, f3, f4])) (hone : oneCellFields P #[f0, f1, f2, f3, f4] = true) (hC : P.cellsOf t = 5)
    (hv : Value.okWide P w r b0 t v) (h : DataW.Trod enc P w base spare held t v d p) :
    ∃ (v0 v1 v2 v3 v4 : Value) (y0 y1 y2 y3 y4 : DataW H × List MemPlace) (n : Nat), v = .agg #[v0, v1, v2, v3, v4] ∧
      DataW.trod enc P w base spare held n f0.type [v0] = some y0 ∧ DataW.trod enc P w base spare held n f1.type [v1] = some y1 ∧ DataW.trod enc P w base spare held n f2.type [v2] = some y2 ∧ DataW.trod enc P w base spare held n f3.type [v3] = some y3 ∧ DataW.trod enc P w base spare held n f4.type [v4] = some y4 := by
  obtain ⟨cs, rfl, hsz⟩ := okWide_struct hs hv
  obtain ⟨c0, c1, c2, c3, c4, rfl⟩ := array5 (hsz.trans hC)
  obtain ⟨fuel, hf⟩ := h
  obtain ⟨y0, y1, y2, y3, y4, n, h0, h1, h2, h3, h4⟩ := trod_struct5 hs hf
  obtain ⟨o0, k0⟩ := hone_of hone 0 f0 rfl
  obtain ⟨o1, k1⟩ := hone_of hone 1 f1 rfl
  obtain ⟨o2, k2⟩ := hone_of hone 2 f2 rfl
  obtain ⟨o3, k3⟩ := hone_of hone 3 f3 rfl
  obtain ⟨o4, k4⟩ := hone_of hone 4 f4 rfl
  exact ⟨c0, c1, c2, c3, c4, y0, y1, y2, y3, y4, n, rfl, by simpa [Value.cells, o0, k0] using h0, by simpa [Value.cells, o1, k1] using h1, by simpa [Value.cells, o2, k2] using h2, by simpa [Value.cells, o3, k3] using h3, by simpa [Value.cells, o4, k4] using h4⟩

end
end Go.Proofs.YtkhggobpanfkfaaDoor

/-
  Ports that came in with a law's argument. Plain lemmas; the conditions are the types' rows.
-/
namespace Go.Proofs.YtkhggobpanfkfaaDoor
open Go.ChangeShapes Go.WideShapes Go.RowKit Go.Deep Go.Joins
open Ab
set_option linter.unusedSimpArgs false
set_option linter.unusedVariables false
set_option linter.unusedSimpArgs false
set_option linter.unusedVariables false

section
variable {H : Type} {enc : TypeId × Value → H} {P : Program} {w : World} {base : Nat} {spare : Nat → Bool} {held : Bool}
theorem trod_field {t : TypeId} {fs : Array Field} {fuel : Nat} {cs : List Value} {x : DataW H × List MemPlace} (ht : P.underlying t = some (.struct fs)) (h : DataW.trod enc P w base spare held fuel t cs = some x) (i : Nat) {f : Field} (hf : fs[i]? = some f) :
    ∃ y n, DataW.trod enc P w base spare held n f.type ((cs.drop f.offset).take (P.cellsOf f.type)) = some y := by
  obtain ⟨xs, n, _, rfl, hl, hlen, hfield⟩ := DataW.trod_struct ht h
  have hi : i < fs.size := (Array.getElem?_eq_some_iff.1 hf).1
  exact ⟨xs[i]'(by omega), n, by rw [hfield i f hf, List.getElem?_eq_getElem]⟩
theorem leaf_int {t : TypeId} {fuel : Nat} {cs : List Value} {x : DataW H × List MemPlace} {c : Value} (ht : P.underlying t = some (.int .i64)) (h : DataW.trod enc P w base spare held fuel t cs = some x) (hc : cs = [c]) : ∃ z, c = .int .i64 z := by
  subst hc
  obtain ⟨z, e, _⟩ := DataW.trod_int ht h
  simp only [List.cons.injEq, and_true] at e
  exact ⟨z, e⟩
theorem leaf_bool {t : TypeId} {fuel : Nat} {cs : List Value} {x : DataW H × List MemPlace} {c : Value} (ht : P.underlying t = some .bool) (h : DataW.trod enc P w base spare held fuel t cs = some x) (hc : cs = [c]) : ∃ z, c = .bool z := by
  subst hc
  obtain ⟨z, e, _⟩ := DataW.trod_bool ht h
  simp only [List.cons.injEq, and_true] at e
  exact ⟨z, e⟩
end
theorem array18 {α : Type} {cs : Array α} (h : cs.size = 18) : ∃ c0 c1 c2 c3 c4 c5 c6 c7 c8 c9 c10 c11 c12 c13 c14 c15 c16 c17, cs = #[c0, c1, c2, c3, c4, c5, c6, c7, c8, c9, c10, c11, c12, c13, c14, c15, c16, c17] := by
  obtain ⟨l⟩ := cs
  match l, h with
  | [c0, c1, c2, c3, c4, c5, c6, c7, c8, c9, c10, c11, c12, c13, c14, c15, c16, c17], _ => exact ⟨c0, c1, c2, c3, c4, c5, c6, c7, c8, c9, c10, c11, c12, c13, c14, c15, c16, c17, rfl⟩

theorem cF : Tryd.prog.cellsOf 23 = 3 := by kernel_rfl
theorem cR : Tryd.prog.cellsOf 26 = 5 := by kernel_rfl
theorem cS : Tryd.prog.cellsOf 29 = 4 := by kernel_rfl
theorem cM : Tryd.prog.cellsOf 31 = 4 := by kernel_rfl
theorem cI : Tryd.prog.cellsOf 3 = 1 := by kernel_rfl
theorem cB : Tryd.prog.cellsOf 4 = 1 := by kernel_rfl
theorem cG : Tryd.prog.cellsOf 24 = 1 := by kernel_rfl
theorem cL : Tryd.prog.cellsOf 27 = 1 := by kernel_rfl

/-- The cells of a port. -/
theorem open_port {H : Type} {enc : TypeId × Value → H} {w : World} {base : Nat} {held : Bool} {fuel : Nat} {x : DataW H × List MemPlace} {c0 c1 c2 c3 c4 c5 c6 c7 c8 c9 c10 c11 c12 c13 c14 c15 c16 c17 : Value} (h : DataW.trod enc Tryd.prog w base (fun _ => true) held fuel 33 [c0, c1, c2, c3, c4, c5, c6, c7, c8, c9, c10, c11, c12, c13, c14, c15, c16, c17] = some x) :
    ∃ (fb fq fst pe pc rr rt : Int) (ro : Bool) (ra sr ss sf : Int) (mc mh mcc mhc : Bool), c0 = .int .i64 fb ∧ c1 = .int .i64 fq ∧ c2 = .int .i64 fst ∧ c3 = .int .i64 pe ∧ c4 = .int .i64 pc ∧ c5 = .int .i64 rr ∧ c6 = .int .i64 rt ∧ c8 = .bool ro ∧ c9 = .int .i64 ra ∧ c10 = .int .i64 sr ∧ c12 = .int .i64 ss ∧ c13 = .int .i64 sf ∧ c14 = .bool mc ∧ c15 = .bool mh ∧ c16 = .bool mcc ∧ c17 = .bool mhc ∧
      (∃ a n c, c7 = .slice a n c ∧ n ≤ 9223372036854775807 ∧ (n ≤ 1048576 → ∃ l : List (Int × Int), rdE w (.gots l) c7)) ∧ (∃ a n c, c11 = .slice a n c ∧ n ≤ 9223372036854775807 ∧ (n ≤ 1048576 → ∃ l : List Int, rdE w (.ints l) c11)) := by
  obtain ⟨y0, n0, e0⟩ := trod_field Tryd.underlying33 h 0 rfl
  obtain ⟨y1, n1, e1⟩ := trod_field Tryd.underlying33 h 1 rfl
  obtain ⟨y2, n2, e2⟩ := trod_field Tryd.underlying33 h 2 rfl
  obtain ⟨y3, n3, e3⟩ := trod_field Tryd.underlying33 h 3 rfl
  obtain ⟨y4, n4, e4⟩ := trod_field Tryd.underlying33 h 4 rfl
  obtain ⟨y5, n5, e5⟩ := trod_field Tryd.underlying33 h 5 rfl
  obtain ⟨_, _, f0⟩ := trod_field Tryd.underlying23 e0 0 rfl
  obtain ⟨_, _, f1⟩ := trod_field Tryd.underlying23 e0 1 rfl
  obtain ⟨_, _, f2⟩ := trod_field Tryd.underlying23 e0 2 rfl
  obtain ⟨_, _, r0⟩ := trod_field Tryd.underlying26 e3 0 rfl
  obtain ⟨_, _, r1⟩ := trod_field Tryd.underlying26 e3 1 rfl
  obtain ⟨_, _, r2⟩ := trod_field Tryd.underlying26 e3 2 rfl
  obtain ⟨_, _, r3⟩ := trod_field Tryd.underlying26 e3 3 rfl
  obtain ⟨_, _, r4⟩ := trod_field Tryd.underlying26 e3 4 rfl
  obtain ⟨_, _, s0⟩ := trod_field Tryd.underlying29 e4 0 rfl
  obtain ⟨_, _, s1⟩ := trod_field Tryd.underlying29 e4 1 rfl
  obtain ⟨_, _, s2⟩ := trod_field Tryd.underlying29 e4 2 rfl
  obtain ⟨_, _, s3⟩ := trod_field Tryd.underlying29 e4 3 rfl
  obtain ⟨_, _, m0⟩ := trod_field Tryd.underlying31 e5 0 rfl
  obtain ⟨_, _, m1⟩ := trod_field Tryd.underlying31 e5 1 rfl
  obtain ⟨_, _, m2⟩ := trod_field Tryd.underlying31 e5 2 rfl
  obtain ⟨_, _, m3⟩ := trod_field Tryd.underlying31 e5 3 rfl
  obtain ⟨z0, rfl⟩ := leaf_int (c := c0) Tryd.underlying3 f0 (by simp [cF, cR, cS, cM, cI, cB])
  obtain ⟨z1, rfl⟩ := leaf_int (c := c1) Tryd.underlying3 f1 (by simp [cF, cR, cS, cM, cI, cB])
  obtain ⟨z2, rfl⟩ := leaf_int (c := c2) Tryd.underlying3 f2 (by simp [cF, cR, cS, cM, cI, cB])
  obtain ⟨z3, rfl⟩ := leaf_int (c := c3) Tryd.underlying3 e1 (by simp [cF, cR, cS, cM, cI, cB])
  obtain ⟨z4, rfl⟩ := leaf_int (c := c4) Tryd.underlying3 e2 (by simp [cF, cR, cS, cM, cI, cB])
  obtain ⟨z5, rfl⟩ := leaf_int (c := c5) Tryd.underlying3 r0 (by simp [cF, cR, cS, cM, cI, cB])
  obtain ⟨z6, rfl⟩ := leaf_int (c := c6) Tryd.underlying3 r1 (by simp [cF, cR, cS, cM, cI, cB])
  obtain ⟨z8, rfl⟩ := leaf_bool (c := c8) Tryd.underlying4 r3 (by simp [cF, cR, cS, cM, cI, cB])
  obtain ⟨z9, rfl⟩ := leaf_int (c := c9) Tryd.underlying3 r4 (by simp [cF, cR, cS, cM, cI, cB])
  obtain ⟨z10, rfl⟩ := leaf_int (c := c10) Tryd.underlying3 s0 (by simp [cF, cR, cS, cM, cI, cB])
  obtain ⟨z12, rfl⟩ := leaf_int (c := c12) Tryd.underlying3 s2 (by simp [cF, cR, cS, cM, cI, cB])
  obtain ⟨z13, rfl⟩ := leaf_int (c := c13) Tryd.underlying3 s3 (by simp [cF, cR, cS, cM, cI, cB])
  obtain ⟨z14, rfl⟩ := leaf_bool (c := c14) Tryd.underlying4 m0 (by simp [cF, cR, cS, cM, cI, cB])
  obtain ⟨z15, rfl⟩ := leaf_bool (c := c15) Tryd.underlying4 m1 (by simp [cF, cR, cS, cM, cI, cB])
  obtain ⟨z16, rfl⟩ := leaf_bool (c := c16) Tryd.underlying4 m2 (by simp [cF, cR, cS, cM, cI, cB])
  obtain ⟨z17, rfl⟩ := leaf_bool (c := c17) Tryd.underlying4 m3 (by simp [cF, cR, cS, cM, cI, cB])
  simp [cR, cG] at r2
  simp [cS, cL] at s1
  refine ⟨z0, z1, z2, z3, z4, z5, z6, z8, z9, z10, z12, z13, z14, z15, z16, z17, rfl, rfl, rfl, rfl, rfl, rfl, rfl, rfl, rfl, rfl, rfl, rfl, rfl, rfl, rfl, rfl, ?_, ?_⟩
  · exact gots_arg Tryd.underlying24 Tryd.underlying137 Tryd.underlying3 Tryd.underlying3 (by kernel_rfl) (by kernel_rfl) (v := c7) r2 (fun _ => rfl)
  · exact ints_arg (v := c11) (open_ints Tryd.underlying27 Tryd.underlying3 (by kernel_rfl) s1) (fun _ => rfl)


end Go.Proofs.YtkhggobpanfkfaaDoor
