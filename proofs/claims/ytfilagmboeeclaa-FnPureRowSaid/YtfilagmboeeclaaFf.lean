/-
  Contracts of FirstFit of the program and of the reference. No conditions beyond those stated.
-/
import Derived.Test.YtfilagmboeeclaaQa
import Derived.Test.YtfilagmboeeclaaIs
namespace Go.Proofs.Ytfilagmboeeclaa
open Go.RowKit

/-- x is among the integers. -/
def hasN (ss : List (Nat → Int)) (m : Nat) (x : Int) : Bool := (List.range m).any fun i => fld ss i 0 == x
theorem hasN_of {ss : List (Nat → Int)} {m k : Nat} {x : Int} (hk : k < m) (h : (fld ss k 0 == x) = true) : hasN ss m x = true := by
  unfold hasN
  rw [List.any_eq_true]
  exact ⟨k, List.mem_range.2 hk, h⟩
theorem hasN_no {ss : List (Nat → Int)} {m : Nat} {x : Int} (h : ∀ i, i < m → (fld ss i 0 == x) = false) : hasN ss m x = false := by
  unfold hasN
  rw [List.any_eq_false]
  intro i hi
  rw [h i (List.mem_range.1 hi)]
  simp

/-- The element fits: its size is at most free, and its Id is not to be skipped. -/
def fits (free : Int) (ss : List (Nat → Int)) (m : Nat) (e : Nat → Int) : Bool := decide (e 3 ≤ free) && !hasN ss m (e 2)

end Go.Proofs.Ytfilagmboeeclaa
