/-
  Contracts of the functions on one party. No conditions beyond those stated.
-/
import Derived.Test.YtfilagmboeeclaaRu
namespace Go.Proofs.Ytfilagmboeeclaa
open Go.RowKit

/-- The numbers of a party are right under the rules' numbers r, n cabins, at now. -/
def PInts (n : Nat) (r p : Nat → Int) (now : Int) : Prop :=
  (0 ≤ now ∧ now ≤ 1000000) ∧ (1 ≤ p 0 ∧ p 0 ≤ 999) ∧ (0 ≤ p 1 ∧ p 1 ≤ n - 1) ∧ (-1 ≤ p 2 ∧ p 2 ≤ n - 1) ∧ ¬ p 2 = p 1 ∧ (1 ≤ p 3 ∧ p 3 ≤ r 3) ∧ (0 ≤ p 4 ∧ p 4 ≤ r 1 - 1) ∧ (0 ≤ p 5 ∧ p 5 ≤ now) ∧ (1 ≤ p 6 ∧ p 6 ≤ 1000000) ∧ (0 ≤ p 9 ∧ p 9 ≤ r 7 - 1) ∧
  ((p 7 = 1 ∧ 0 ≤ p 8 ∧ p 8 ≤ now + r 6) ∨ (p 7 = 2 ∧ 1 ≤ p 8 ∧ p 8 ≤ now + r 5))
def POk (n : Nat) (es : List (Nat → Int)) (r p : Nat → Int) (now : Int) : Prop := ROk n es r ∧ PInts n r p now
theorem ROk.ints {n : Nat} {es : List (Nat → Int)} {r : Nat → Int} (h : ROk n es r) : (1 : Int) ≤ n ∧ (n : Int) ≤ 4 ∧ 1 ≤ r 1 ∧ r 1 ≤ 5 ∧ 1 ≤ r 2 ∧ r 2 ≤ 10 ∧ 1 ≤ r 3 ∧ r 3 ≤ 6 ∧ 1 ≤ r 4 ∧ r 4 ≤ 12 ∧ 1 ≤ r 5 ∧ r 5 ≤ 8 ∧ 0 ≤ r 6 ∧ r 6 ≤ 8 ∧ 1 ≤ r 7 ∧ r 7 ≤ 4 ∧ 1 ≤ r 8 ∧ r 8 ≤ 3 := by
  obtain ⟨k1, k2⟩ := h.bd
  unfold RInts at k2
  omega

set_option maxHeartbeats 400000 in
theorem isIndex_any (x n : Int) (w : World) (h1 : -1000 ≤ n) (h2 : n ≤ 9223372036854775807) :
    Calls Try.prog 27 #[.int .i64 x, .int .i64 n] w (TF (0 ≤ x ∧ x ≤ n - 1) w) := by
  go_enter Try.func27, Try.ntmps27
  go_wp2_with (go_at_call 28; refine (within_any _ _ _ _).mono ?_; rintro e w2 (⟨rfl, ⟨h1, h2⟩, rfl⟩ | ⟨rfl, h1, rfl⟩))
  all_goals go_ret
  · exact .inl ⟨rfl, ⟨by omega, by omega⟩, rfl⟩
  · exact .inr ⟨rfl, by omega, rfl⟩

end Go.Proofs.Ytfilagmboeeclaa
