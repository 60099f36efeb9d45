/-
  Contracts of TodoPut of the program and of the reference. No conditions beyond those stated.
-/
import Derived.Test.YtfilagmboeeclaaCo
import Derived.Test.YtfilagmboeeclaaFf
namespace Go.Proofs.Ytfilagmboeeclaa
open Go.RowKit

theorem own_ge {base : Nat} {w : World} {e : TypeId} {K n : Nat} {v : Value} {xs : List Value} (h : w.ownsRow base e K v n xs) : ∀ k, v.ownBlock = some k → base ≤ k := by
  intro k hk
  rcases h.2 with ⟨rfl, _⟩ | ⟨g, cap, cur, rfl, hg, _⟩
  · simp [Value.ownBlock] at hk
  · have : g = k := by simpa [Value.ownBlock] using hk
    omega
def one (x : Int) : Nat → Int := fun _ => x
theorem rd_one (w : World) (t : TypeId) (x : Int) : Rd (w.alloc (.cells #[.int .i64 x] t)) 1 (some ⟨w.heap.size, 0, none⟩) 1 [one x] :=
  ⟨rfl, .inr ⟨w.heap.size, 0, rfl, by simp, fun i hi j hj => by
    obtain rfl : i = 0 := by omega
    obtain rfl : j = 0 := by omega
    simp [fld, one]⟩⟩
/-- TodoPut: x behind the list, unless it is there. -/
def todo (es : List (Nat → Int)) (n : Nat) (x : Int) : List (Nat → Int) := if hasN es n x = true then es else es ++ [one x]

end Go.Proofs.Ytfilagmboeeclaa
