/-
  Two neighbouring blocks of a row change places, plain. No conditions.
-/
import Derived.Test.YtlkladabefpnfaaSt
namespace Go.Proofs.Ytlkladabefpnfaa
open Go.RowKit

/-- The elements from a to b. -/
def blk (es : List (Nat → Int)) (a b : Nat) : List (Nat → Int) := (es.drop a).take (b - a)
theorem blk_len {es : List (Nat → Int)} {a b : Nat} (hb : b ≤ es.length) : (blk es a b).length = b - a := by
  unfold blk
  rw [List.length_take, List.length_drop]
  omega
theorem blk_fld {es : List (Nat → Int)} {a b i : Nat} (h : i < b - a) : fld (blk es a b) i = fld es (a + i) := by
  unfold blk
  rw [fld_takeF h, fld_dropF]
theorem blk_mem {es : List (Nat → Int)} {a b : Nat} {x : Nat → Int} (hb : b ≤ es.length) (h : x ∈ blk es a b) : ∃ i, a ≤ i ∧ i < b ∧ fld es i = x := by
  obtain ⟨i, hi, rfl⟩ := List.mem_iff_getElem.1 h
  rw [blk_len hb] at hi
  refine ⟨a + i, by omega, by omega, ?_⟩
  rw [← fld_get (by rw [blk_len hb]; exact hi), blk_fld hi]
/-- The blocks from a to m and from m to b change places. -/
def rotL (es : List (Nat → Int)) (a m b : Nat) : List (Nat → Int) := es.take a ++ (blk es m b ++ (blk es a m ++ es.drop b))
theorem split_blk {es : List (Nat → Int)} {a m b : Nat} (h1 : a ≤ m) (h2 : m ≤ b) (h3 : b ≤ es.length) : es = es.take a ++ (blk es a m ++ (blk es m b ++ es.drop b)) := by
  refine ext_fld (by simp only [List.length_append, List.length_take, List.length_drop, blk_len h3, blk_len (Nat.le_trans h2 h3)]; omega) (fun i hi => ?_)
  have ht : (es.take a).length = a := by rw [List.length_take]; omega
  by_cases c1 : i < a
  · rw [fld_app_lt (by omega), fld_takeF c1]
  rw [fld_app_ge (by omega), ht]
  have hl1 := blk_len (es := es) (a := a) (b := m) (by omega)
  by_cases c2 : i < m
  · rw [fld_app_lt (by omega), blk_fld (by omega), show a + (i - a) = i by omega]
  rw [fld_app_ge (by omega), hl1]
  have hl2 := blk_len (es := es) (a := m) (b := b) h3
  by_cases c3 : i < b
  · rw [fld_app_lt (by omega), blk_fld (by omega), show m + (i - a - (m - a)) = i by omega]
  rw [fld_app_ge (by omega), hl2, fld_dropF, show b + (i - a - (m - a) - (b - m)) = i by omega]
theorem rotL_len {es : List (Nat → Int)} {a m b : Nat} (h1 : a ≤ m) (h2 : m ≤ b) (h3 : b ≤ es.length) : (rotL es a m b).length = es.length := by
  unfold rotL
  simp only [List.length_append, List.length_take, List.length_drop, blk_len h3, blk_len (Nat.le_trans h2 h3)]
  omega
theorem filter_blocks {p : (Nat → Int) → Bool} {P X Y S : List (Nat → Int)} (h : ∀ x, x ∈ X → ∀ y, y ∈ Y → ¬ (p x = true ∧ p y = true)) : (P ++ (Y ++ (X ++ S))).filter p = (P ++ (X ++ (Y ++ S))).filter p := by
  simp only [List.filter_append]
  by_cases hx : X.filter p = []
  · rw [hx]
    simp
  · have hy : Y.filter p = [] := by
      obtain ⟨x, hx⟩ := List.exists_mem_of_ne_nil _ hx
      rw [List.mem_filter] at hx
      rw [List.filter_eq_nil_iff]
      intro y hy hp
      exact h x hx.1 y hy ⟨hx.2, hp⟩
    rw [hy]
    simp
/-- All of the second block belong ahead of all of the first: stable. -/
theorem rotL_stb {es : List (Nat → Int)} {a m b : Nat} (h1 : a ≤ m) (h2 : m ≤ b) (h3 : b ≤ es.length) (h : ∀ i j, a ≤ i → i < m → m ≤ j → j < b → ltP (fld es j) (fld es i)) : Stb (rotL es a m b) es := fun u v => by
  unfold rotL
  rw [filter_blocks (p := keyB u v) (X := blk es a m) (Y := blk es m b) (fun x hx y hy => ?_), ← split_blk h1 h2 h3]
  obtain ⟨i, i1, i2, rfl⟩ := blk_mem (by omega) hx
  obtain ⟨j, j1, j2, rfl⟩ := blk_mem h3 hy
  have hl := h i j i1 i2 j1 j2
  rintro ⟨e1, e2⟩
  rw [keyB_iff] at e1 e2
  unfold ltP at hl
  omega
/-- The elements of a row whose blocks have changed places. -/
theorem rotL_lo {es : List (Nat → Int)} {a m b i : Nat} (h1 : a ≤ m) (h2 : m ≤ b) (h3 : b ≤ es.length) (hi : i < a) : fld (rotL es a m b) i = fld es i := by
  unfold rotL
  rw [fld_app_lt (by rw [List.length_take]; omega), fld_takeF hi]
theorem rotL_fst {es : List (Nat → Int)} {a m b i : Nat} (h1 : a ≤ m) (h2 : m ≤ b) (h3 : b ≤ es.length) (hi : i < b - m) : fld (rotL es a m b) (a + i) = fld es (m + i) := by
  unfold rotL
  have ht : (es.take a).length = a := by rw [List.length_take]; omega
  rw [fld_app_ge (by omega), ht, fld_app_lt (by rw [blk_len h3]; omega), show a + i - a = i by omega, blk_fld hi]
theorem rotL_snd {es : List (Nat → Int)} {a m b i : Nat} (h1 : a ≤ m) (h2 : m ≤ b) (h3 : b ≤ es.length) (hi : i < m - a) : fld (rotL es a m b) (a + (b - m) + i) = fld es (a + i) := by
  unfold rotL
  have ht : (es.take a).length = a := by rw [List.length_take]; omega
  rw [fld_app_ge (by omega), ht, fld_app_ge (by rw [blk_len h3]; omega), blk_len h3, fld_app_lt (by rw [blk_len (by omega)]; omega), show a + (b - m) + i - a - (b - m) = i by omega, blk_fld hi]
theorem rotL_hi {es : List (Nat → Int)} {a m b i : Nat} (h1 : a ≤ m) (h2 : m ≤ b) (h3 : b ≤ es.length) (hi : b ≤ i) : fld (rotL es a m b) i = fld es i := by
  unfold rotL
  have ht : (es.take a).length = a := by rw [List.length_take]; omega
  rw [fld_app_ge (by omega), ht, fld_app_ge (by rw [blk_len h3]; omega), blk_len h3, fld_app_ge (by rw [blk_len (by omega)]; omega), blk_len (by omega), fld_dropF, show b + (i - a - (b - m) - (m - a)) = i by omega]
end Go.Proofs.Ytlkladabefpnfaa
