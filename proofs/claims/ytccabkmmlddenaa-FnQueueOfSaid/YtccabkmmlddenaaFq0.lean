/-
  Counting an entry in a row and in its stable sort, plain. No conditions.
-/
import Derived.Test.YtccabkmmlddenaaEl
namespace Go.Proofs.Ytccabkmmlddenaa
open Go.RowKit

theorem insF_perm (e : Nat → Int) : ∀ l, (insF e l).Perm (e :: l)
  | [] => List.Perm.refl _
  | x :: l => by
    unfold insF
    split
    · exact ((insF_perm e l).cons x).trans (List.Perm.swap e x l)
    · exact List.Perm.refl _
theorem sortR_perm : ∀ l, (sortR l).Perm l
  | [] => List.Perm.refl _
  | e :: l => (insF_perm e (sortR l)).trans ((sortR_perm l).cons e)
/-- Are the four fields the same? -/
def eq4 (e x : Nat → Int) : Bool := (x 0 == e 0) && ((x 1 == e 1) && ((x 2 == e 2) && (x 3 == e 3)))
theorem eq4_iff {e x : Nat → Int} : eq4 e x = true ↔ x 0 = e 0 ∧ x 1 = e 1 ∧ x 2 = e 2 ∧ x 3 = e 3 := by
  unfold eq4
  simp
/-- How many of the first k are e. -/
def cnt4 (e : Nat → Int) (l : List (Nat → Int)) (k : Nat) : Nat := (l.take k).countP (eq4 e)
theorem cnt4_zero (e : Nat → Int) (l : List (Nat → Int)) : cnt4 e l 0 = 0 := rfl
theorem cnt4_le (e : Nat → Int) (l : List (Nat → Int)) (k : Nat) : cnt4 e l k ≤ k := by
  unfold cnt4
  have h := List.countP_le_length (p := eq4 e) (l := l.take k)
  rw [List.length_take] at h
  omega
theorem take_one {l : List (Nat → Int)} {k : Nat} (h : k < l.length) : l.take (k + 1) = l.take k ++ [fld l k] := by
  rw [List.take_succ_eq_append_getElem h, fld_get h]
theorem cnt4_y {e : Nat → Int} {l : List (Nat → Int)} {k : Nat} (h : k < l.length) (he : eq4 e (fld l k) = true) : cnt4 e l (k + 1) = cnt4 e l k + 1 := by
  unfold cnt4
  rw [take_one h, List.countP_append]
  simp [he]
theorem cnt4_n {e : Nat → Int} {l : List (Nat → Int)} {k : Nat} (h : k < l.length) (he : eq4 e (fld l k) = false) : cnt4 e l (k + 1) = cnt4 e l k := by
  unfold cnt4
  rw [take_one h, List.countP_append]
  simp [he]
theorem cnt4_all {e : Nat → Int} {l : List (Nat → Int)} {n : Nat} (h : l.length = n) : cnt4 e l n = l.countP (eq4 e) := by
  unfold cnt4
  rw [List.take_of_length_le (by omega)]
/-- The sorted row holds e as often as the row. -/
theorem cnt4_sort (e : Nat → Int) (l : List (Nat → Int)) {n : Nat} (h : (sortR l).length = n) : cnt4 e (sortR l) n = l.countP (eq4 e) := by
  rw [cnt4_all h]
  exact (sortR_perm l).countP_eq _
theorem sortR_adj {l : List (Nat → Int)} {i : Nat} (h : i + 1 < (sortR l).length) : ¬ ltP (fld (sortR l) (i + 1)) (fld (sortR l) i) := by
  have h1 := sortR_pw l
  unfold Pw at h1
  rw [List.pairwise_iff_getElem] at h1
  have h2 := h1 i (i + 1) (by omega) h (by omega)
  rw [fld_get h, fld_get (show i < (sortR l).length by omega)]
  exact h2
section
variable {ok : Nat → Bool} {r : Nat → Int} {now : Int} {ps : List (Nat → Int)} {k : Nat} {e : Nat → Int}
theorem cntL_y (h : ok k = true) (he : eq4 e (entAt r now ps k) = true) : (entL ok r now ps (k + 1)).countP (eq4 e) = (entL ok r now ps k).countP (eq4 e) + 1 := by
  rw [entL_y h, List.countP_append]
  simp [he]
theorem cntL_n (h : ok k = true) (he : eq4 e (entAt r now ps k) = false) : (entL ok r now ps (k + 1)).countP (eq4 e) = (entL ok r now ps k).countP (eq4 e) := by
  rw [entL_y h, List.countP_append]
  simp [he]
theorem cntL_no (h : ok k = false) : (entL ok r now ps (k + 1)).countP (eq4 e) = (entL ok r now ps k).countP (eq4 e) := by
  rw [entL_n h]
theorem cntL_le (ok : Nat → Bool) (r : Nat → Int) (now : Int) (ps : List (Nat → Int)) (k : Nat) (e : Nat → Int) : (entL ok r now ps k).countP (eq4 e) ≤ k :=
  Nat.le_trans List.countP_le_length (entL_len ok r now ps k)
end
end Go.Proofs.Ytccabkmmlddenaa
