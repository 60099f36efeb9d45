/-
  Arguments opened: structs of integer fields by value. No conditions beyond closed facts of the program's tables.
-/
import Derived.ProofKit
import Derived.Deep.Fields
namespace Go.Proofs.Ytcicldcgibgnfaa
open Go.ChangeShapes Go.WideShapes Go.ChangeAt Go.RowKit Go.Deep

/-- n is a number of Go's int. -/
def I64 (n : Int) : Prop := -9223372036854775808 ≤ n ∧ n ≤ 9223372036854775807

theorem I64.of_wf {n : Int} (h : (Lit.int .i64 n).wf = true) : I64 n := by
  unfold I64
  simpa [Lit.wf, IntKind.min, IntKind.max, IntKind.signed, IntKind.bits] using h

def intsV (zs : List Int) : List Value := zs.map (Value.int .i64)

section
variable {H : Type} {enc : TypeId × Value → H} {P : Program} {w : World} {base : Nat} {spare : Nat → Bool} {held : Bool}

/-- The cells of a struct whose fields are all of Go's int are integers. -/
theorem ints_of_cells {ti : TypeId} {fs : Array Field} (hti : P.underlying ti = some (.int .i64)) (hone : oneCellFields P fs = true) (hall : fs.toList.all (fun f => f.type == ti) = true)
    {cs : List Value} (hlen : cs.length = fs.size) {xs : List (DataW H × List MemPlace)} {n : Nat} (hxl : xs.length = fs.size)
    (hg : ∀ (i : Nat) (f : Field), fs[i]? = some f → DataW.trod enc P w base spare held n f.type ((cs.drop f.offset).take (P.cellsOf f.type)) = xs[i]?) :
    ∃ zs : List Int, cs = intsV zs ∧ zs.length = fs.size ∧ ∀ z ∈ zs, I64 z := by
  have key : ∀ i, i < fs.size → ∃ z, cs[i]? = some (.int .i64 z) ∧ I64 z := by
    intro i hi
    have hf : fs[i]? = some fs[i] := Array.getElem?_eq_getElem hi
    have ht : fs[i].type = ti := by
      have := List.all_eq_true.1 hall fs[i] (by simp)
      simpa using this
    obtain ⟨ho, hc⟩ := hone_of hone i fs[i] hf
    have h1 := hg i fs[i] hf
    rw [ho, hc, ht] at h1
    have hx : xs[i]? = some (xs[i]'(by omega)) := List.getElem?_eq_getElem (by omega)
    have hd : (cs.drop i).take 1 = [cs[i]'(by omega)] := by
      rw [List.drop_eq_getElem_cons (by omega)]
      rfl
    rw [hd, hx] at h1
    obtain ⟨z, hz, _, hwf⟩ := DataW.trod_int hti h1
    refine ⟨z, ?_, I64.of_wf hwf⟩
    rw [List.getElem?_eq_getElem (by omega)]
    simpa using hz
  have hcell : ∀ i (h : i < cs.length), cs[i] = .int .i64 (intOf cs[i]) ∧ I64 (intOf cs[i]) := by
    intro i h
    obtain ⟨z, hz, hw⟩ := key i (by omega)
    rw [List.getElem?_eq_getElem h] at hz
    injection hz with hz
    rw [hz]
    exact ⟨rfl, hw⟩
  refine ⟨cs.map intOf, ?_, by simpa using hlen, ?_⟩
  · unfold intsV
    rw [List.map_map]
    refine List.ext_getElem (by simp) fun i h1 h2 => ?_
    rw [List.getElem_map]
    exact (hcell i h1).1
  · intro z hz
    obtain ⟨i, hi, rfl⟩ := List.mem_iff_getElem.1 hz
    rw [List.getElem_map]
    exact (hcell i (by simpa using hi)).2

/-- A struct of integer fields, by value. -/
theorem open_structI {r : Reach} {b0 : Nat} {t ti : TypeId} {fs : Array Field} {v : Value} {d : DataW H} {p : List MemPlace} (hs : P.underlying t = some (.struct fs)) (hti : P.underlying ti = some (.int .i64))
    (hone : oneCellFields P fs = true) (hall : fs.toList.all (fun f => f.type == ti) = true) (hC : P.cellsOf t = fs.size)
    (hv : Value.okWide P w r b0 t v) (h : DataW.Trod enc P w base spare held t v d p) :
    ∃ zs : List Int, v = .agg (intsV zs).toArray ∧ zs.length = fs.size ∧ ∀ z ∈ zs, I64 z := by
  obtain ⟨cs, rfl, hsz⟩ := okWide_struct hs hv
  obtain ⟨fuel, hf⟩ := h
  obtain ⟨xs, n, _, _, _, hlen, hg⟩ := DataW.trod_struct hs hf
  obtain ⟨zs, hz, hl, hw⟩ := ints_of_cells hti hone hall (cs := (Value.agg cs).cells.toList) (by simpa [Value.cells] using hsz.trans hC) hlen hg
  refine ⟨zs, ?_, hl, hw⟩
  rw [← hz]
  simp [Value.cells]
end

theorem len1 {α : Type _} {l : List α} (h : l.length = 1) : ∃ a0, l = [a0] := by
  match l, h with
  | [a0], _ => exact ⟨a0, rfl⟩
theorem len2 {α : Type _} {l : List α} (h : l.length = 2) : ∃ a0 a1, l = [a0, a1] := by
  match l, h with
  | [a0, a1], _ => exact ⟨a0, a1, rfl⟩
theorem len3 {α : Type _} {l : List α} (h : l.length = 3) : ∃ a0 a1 a2, l = [a0, a1, a2] := by
  match l, h with
  | [a0, a1, a2], _ => exact ⟨a0, a1, a2, rfl⟩
theorem len4 {α : Type _} {l : List α} (h : l.length = 4) : ∃ a0 a1 a2 a3, l = [a0, a1, a2, a3] := by
  match l, h with
  | [a0, a1, a2, a3], _ => exact ⟨a0, a1, a2, a3, rfl⟩
theorem len5 {α : Type _} {l : List α} (h : l.length = 5) : ∃ a0 a1 a2 a3 a4, l = [a0, a1, a2, a3, a4] := by
  match l, h with
  | [a0, a1, a2, a3, a4], _ => exact ⟨a0, a1, a2, a3, a4, rfl⟩
theorem len10 {α : Type _} {l : List α} (h : l.length = 10) : ∃ a0 a1 a2 a3 a4 a5 a6 a7 a8 a9, l = [a0, a1, a2, a3, a4, a5, a6, a7, a8, a9] := by
  match l, h with
  | [a0, a1, a2, a3, a4, a5, a6, a7, a8, a9], _ => exact ⟨a0, a1, a2, a3, a4, a5, a6, a7, a8, a9, rfl⟩
end Go.Proofs.Ytcicldcgibgnfaa
