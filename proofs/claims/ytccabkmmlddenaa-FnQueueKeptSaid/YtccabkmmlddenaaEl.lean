/-
  The entries of a list of parties, plain. No conditions.
-/
import Derived.Test.YtccabkmmlddenaaSt
import Derived.Test.YtccabkmmlddenaaFa
namespace Go.Proofs.Ytccabkmmlddenaa
open Go.RowKit

def entAt (r : Nat → Int) (now : Int) (ps : List (Nat → Int)) (i : Nat) : Nat → Int := fun j => [lvlV r (fld ps i) now, fld ps i 6, fld ps i 0, fld ps i 3].getD j 0
/-- The entries of the first k parties that wait in the cabin (ok says which). -/
def entL (ok : Nat → Bool) (r : Nat → Int) (now : Int) (ps : List (Nat → Int)) (k : Nat) : List (Nat → Int) := ((List.range k).filter ok).map (entAt r now ps)
/-- The entries of m parties from number k on. -/
def entS (ok : Nat → Bool) (r : Nat → Int) (now : Int) (ps : List (Nat → Int)) (k m : Nat) : List (Nat → Int) := ((List.range' k m).filter ok).map (entAt r now ps)
/-- ok tells the parties that wait in the cabin. -/
def OkF (ok : Nat → Bool) (n : Nat) (es : List (Nat → Int)) (r : Nat → Int) (now : Int) (ps : List (Nat → Int)) (cab : Int) : Prop := ∀ i, ok i = true ↔ (entP n es r (fld ps i) now ∧ fld ps i 1 = cab)
theorem okF_ex (n : Nat) (es : List (Nat → Int)) (r : Nat → Int) (now : Int) (ps : List (Nat → Int)) (cab : Int) : ∃ ok, OkF ok n es r now ps cab := by
  classical
  exact ⟨fun i => decide (entP n es r (fld ps i) now ∧ fld ps i 1 = cab), fun i => by simp⟩
section
variable {ok : Nat → Bool} {r : Nat → Int} {now : Int} {ps : List (Nat → Int)} {k m : Nat}
theorem entL_y (h : ok k = true) : entL ok r now ps (k + 1) = entL ok r now ps k ++ [entAt r now ps k] := by
  unfold entL
  rw [List.range_succ, List.filter_append, List.map_append]
  simp [h]
theorem entL_n (h : ok k = false) : entL ok r now ps (k + 1) = entL ok r now ps k := by
  unfold entL
  rw [List.range_succ, List.filter_append, List.map_append]
  simp [h]
theorem entL_len (ok : Nat → Bool) (r : Nat → Int) (now : Int) (ps : List (Nat → Int)) (k : Nat) : (entL ok r now ps k).length ≤ k := by
  unfold entL
  rw [List.length_map]
  have h := List.length_filter_le ok (List.range k)
  rw [List.length_range] at h
  exact h
theorem entS_y (h : ok k = true) : entS ok r now ps k (m + 1) = entAt r now ps k :: entS ok r now ps (k + 1) m := by
  unfold entS
  rw [List.range'_succ, List.filter_cons, if_pos h, List.map_cons]
theorem entS_n (h : ok k = false) : entS ok r now ps k (m + 1) = entS ok r now ps (k + 1) m := by
  unfold entS
  rw [List.range'_succ, List.filter_cons, if_neg (by rw [h]; decide)]
theorem entS_all : entS ok r now ps 0 m = entL ok r now ps m := by
  unfold entS entL
  rw [List.range_eq_range']
theorem entS_len (ok : Nat → Bool) (r : Nat → Int) (now : Int) (ps : List (Nat → Int)) (k m : Nat) : (entS ok r now ps k m).length ≤ m := by
  unfold entS
  rw [List.length_map]
  have h := List.length_filter_le ok (List.range' k m)
  rw [List.length_range'] at h
  exact h
end
theorem insF_len (e : Nat → Int) : ∀ l, (insF e l).length = l.length + 1
  | [] => rfl
  | x :: l => by
    unfold insF
    split
    · show (insF e l).length + 1 = l.length + 1 + 1
      rw [insF_len e l]
    · rfl
theorem sortR_len : ∀ l, (sortR l).length = l.length
  | [] => rfl
  | e :: l => by
    show (insF e (sortR l)).length = l.length + 1
    rw [insF_len, sortR_len l]
end Go.Proofs.Ytccabkmmlddenaa
