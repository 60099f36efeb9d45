/-
  Contracts of the functions on rules. No conditions beyond those stated.
-/
import Derived.Test.YtfilagmboeeclaaIs
namespace Go.Proofs.Ytfilagmboeeclaa
open Go.RowKit

/-- The numbers of the rules are right: Tiers, Room, Size, Period, Window, Rest, Tries, Crew. -/
def RInts (r : Nat → Int) : Prop := (1 ≤ r 1 ∧ r 1 ≤ 5) ∧ (1 ≤ r 2 ∧ r 2 ≤ 10) ∧ (1 ≤ r 3 ∧ r 3 ≤ 6) ∧ (1 ≤ r 4 ∧ r 4 ≤ 12) ∧ (1 ≤ r 5 ∧ r 5 ≤ 8) ∧ (0 ≤ r 6 ∧ r 6 ≤ 8) ∧ (1 ≤ r 7 ∧ r 7 ≤ 4) ∧ (1 ≤ r 8 ∧ r 8 ≤ 3)
def ROk (n : Nat) (es : List (Nat → Int)) (r : Nat → Int) : Prop := ((1 : Int) ≤ n ∧ (n : Int) ≤ 4) ∧ RInts r ∧ ∀ i, i < n → 1 ≤ fld es i 0 ∧ fld es i 0 ≤ 60
theorem ROk.bd {n : Nat} {es : List (Nat → Int)} {r : Nat → Int} (h : ROk n es r) : ((1 : Int) ≤ n ∧ (n : Int) ≤ 4) ∧ RInts r := ⟨h.1, h.2.1⟩

end Go.Proofs.Ytfilagmboeeclaa
