/-
  An argument of the type Rules opened: a slice of integers and eight integers, by value.
-/
import Derived.Test.YtcicldcgibgnfaaSl
namespace Go.Proofs.Ytcicldcgibgnfaa
open Go.ChangeShapes Go.WideShapes Go.ChangeAt Go.RowKit Go.Deep

section
variable {H : Type} {enc : TypeId × Value → H} {P : Program} {w : World} {base : Nat} {spare : Nat → Bool} {held : Bool}

/-- A struct of a slice of integers and eight integers, as its cells are read. -/
theorem rules_of_cells {tsl ti : TypeId} {fs : Array Field} (hti : P.underlying ti = some (.int .i64)) (hsl : P.underlying tsl = some (.slice ti)) (hC1 : P.cellsOf ti = 1) (hone : oneCellFields P fs = true)
    (hty : fs.toList.map (·.type) = [tsl, ti, ti, ti, ti, ti, ti, ti, ti]) {cs : List Value} (hlen : cs.length = fs.size) {xs : List (DataW H × List MemPlace)} {n : Nat} (hxl : xs.length = fs.size)
    (hg : ∀ (i : Nat) (f : Field), fs[i]? = some f → DataW.trod enc P w base spare held n f.type ((cs.drop f.offset).take (P.cellsOf f.type)) = xs[i]?) :
    ∃ (A : Option Addr) (m c : Nat) (es : List (Nat → Int)) (r : Nat → Int), cs = [.slice A m c, .int .i64 (r 1), .int .i64 (r 2), .int .i64 (r 3), .int .i64 (r 4), .int .i64 (r 5), .int .i64 (r 6), .int .i64 (r 7), .int .i64 (r 8)] ∧ m ≤ c ∧ c ≤ maxLen ∧ Rd w 1 A m es := by
  have h9 : fs.size = 9 := by
    have := congrArg List.length hty
    simpa using this
  have ht : ∀ i (h : i < fs.size), fs[i].type = [tsl, ti, ti, ti, ti, ti, ti, ti, ti][i]'(by simp; omega) := by
    intro i h
    have : (fs.toList.map (·.type))[i]? = [tsl, ti, ti, ti, ti, ti, ti, ti, ti][i]? := by rw [hty]
    rw [List.getElem?_map, List.getElem?_eq_getElem (by simpa using h), List.getElem?_eq_getElem (by simp; omega)] at this
    simpa using this
  have cell : ∀ i (h : i < cs.length), ∃ x, DataW.trod enc P w base spare held n (fs[i]'(by omega)).type [cs[i]] = some x := by
    intro i h
    have hi : i < fs.size := by omega
    have hf : fs[i]? = some fs[i] := Array.getElem?_eq_getElem hi
    obtain ⟨ho, hc⟩ := hone_of hone i fs[i] hf
    have h1 := hg i fs[i] hf
    rw [ho, hc] at h1
    have hx : xs[i]? = some (xs[i]'(by omega)) := List.getElem?_eq_getElem (by omega)
    have hd : (cs.drop i).take 1 = [cs[i]] := by
      rw [List.drop_eq_getElem_cons h]
      rfl
    rw [hd, hx] at h1
    exact ⟨_, h1⟩
  have ints : ∀ i (h : i < cs.length), 0 < i → cs[i] = .int .i64 (intOf cs[i]) := by
    intro i h h0
    obtain ⟨x, hx⟩ := cell i h
    have h2 := ht i (by omega)
    have h3 : [tsl, ti, ti, ti, ti, ti, ti, ti, ti][i]'(by simp; omega) = ti := by
      have hi : i = 1 ∨ i = 2 ∨ i = 3 ∨ i = 4 ∨ i = 5 ∨ i = 6 ∨ i = 7 ∨ i = 8 := by omega
      rcases hi with rfl | rfl | rfl | rfl | rfl | rfl | rfl | rfl <;> rfl
    rw [h2, h3] at hx
    obtain ⟨z, hz, _, _⟩ := DataW.trod_int hti hx
    injection hz with hz _
    rw [hz]
    rfl
  obtain ⟨x, hx⟩ := cell 0 (by omega)
  rw [ht 0 (by omega)] at hx
  obtain ⟨A, m, c, es, hv, h1, h2, h3⟩ := slice_of_trod1 (t := tsl) hsl hti hC1 hx
  refine ⟨A, m, c, es, fun j => intOf (cs.getD j undef), ?_, h1, h2, h3⟩
  have hcs : cs = [cs[0]'(by omega), cs[1]'(by omega), cs[2]'(by omega), cs[3]'(by omega), cs[4]'(by omega), cs[5]'(by omega), cs[6]'(by omega), cs[7]'(by omega), cs[8]'(by omega)] := by
    refine List.ext_getElem (by simp; omega) fun i hi hi2 => ?_
    have hi9 : i = 0 ∨ i = 1 ∨ i = 2 ∨ i = 3 ∨ i = 4 ∨ i = 5 ∨ i = 6 ∨ i = 7 ∨ i = 8 := by omega
    rcases hi9 with rfl | rfl | rfl | rfl | rfl | rfl | rfl | rfl | rfl <;> rfl
  have gd : ∀ j (h : j < cs.length), cs.getD j undef = cs[j] := fun j h => by simp [List.getD_eq_getElem?_getD, List.getElem?_eq_getElem h]
  show cs = [.slice A m c, .int .i64 (intOf (cs.getD 1 undef)), .int .i64 (intOf (cs.getD 2 undef)), .int .i64 (intOf (cs.getD 3 undef)), .int .i64 (intOf (cs.getD 4 undef)), .int .i64 (intOf (cs.getD 5 undef)), .int .i64 (intOf (cs.getD 6 undef)), .int .i64 (intOf (cs.getD 7 undef)), .int .i64 (intOf (cs.getD 8 undef))]
  rw [gd 1 (by omega), gd 2 (by omega), gd 3 (by omega), gd 4 (by omega), gd 5 (by omega), gd 6 (by omega), gd 7 (by omega), gd 8 (by omega), ← ints 1 (by omega) (by omega), ← ints 2 (by omega) (by omega), ← ints 3 (by omega) (by omega), ← ints 4 (by omega) (by omega), ← ints 5 (by omega) (by omega), ← ints 6 (by omega) (by omega), ← ints 7 (by omega) (by omega), ← ints 8 (by omega) (by omega), ← hv]
  exact hcs

/-- An argument of the type Rules. -/
theorem open_rules {r0 : Reach} {b0 : Nat} {t tsl ti : TypeId} {fs : Array Field} {v : Value} {d : DataW H} {p : List MemPlace} (hs : P.underlying t = some (.struct fs)) (hti : P.underlying ti = some (.int .i64)) (hsl : P.underlying tsl = some (.slice ti)) (hC1 : P.cellsOf ti = 1)
    (hone : oneCellFields P fs = true) (hty : fs.toList.map (·.type) = [tsl, ti, ti, ti, ti, ti, ti, ti, ti]) (hC : P.cellsOf t = fs.size)
    (hv : Value.okWide P w r0 b0 t v) (h : DataW.Trod enc P w base spare held t v d p) :
    ∃ (A : Option Addr) (m c : Nat) (es : List (Nat → Int)) (r : Nat → Int), v = .agg #[.slice A m c, .int .i64 (r 1), .int .i64 (r 2), .int .i64 (r 3), .int .i64 (r 4), .int .i64 (r 5), .int .i64 (r 6), .int .i64 (r 7), .int .i64 (r 8)] ∧ m ≤ c ∧ c ≤ maxLen ∧ Rd w 1 A m es := by
  obtain ⟨cs, rfl, hsz⟩ := okWide_struct hs hv
  obtain ⟨fuel, hf⟩ := h
  obtain ⟨xs, n, _, _, _, hlen, hg⟩ := DataW.trod_struct hs hf
  obtain ⟨A, m, c, es, r, hz, h1, h2, h3⟩ := rules_of_cells hti hsl hC1 hone hty (cs := (Value.agg cs).cells.toList) (by simpa [Value.cells] using hsz.trans hC) hlen hg
  refine ⟨A, m, c, es, r, ?_, h1, h2, h3⟩
  refine congrArg Value.agg (Array.toList_inj.1 ?_)
  simpa [Value.cells] using hz
end
end Go.Proofs.Ytcicldcgibgnfaa
