/-
  When two rows of entries hold the same fields. No conditions.
-/
import Derived.Test.YtkdafomnoeaboaaSl
namespace Go.Proofs.Ytkdafomnoeaboaa
open Go.RowKit

def SamE (es es2 : List (Nat → Int)) : Prop := es.length = es2.length ∧ ∀ i, i < es.length → fld es i 0 = fld es2 i 0 ∧ fld es i 1 = fld es2 i 1 ∧ fld es i 2 = fld es2 i 2 ∧ fld es i 3 = fld es2 i 3
theorem SamE.of_eq {es es2 : List (Nat → Int)} (h : es = es2) : SamE es es2 := by
  subst h
  exact ⟨rfl, fun _ _ => ⟨rfl, rfl, rfl, rfl⟩⟩
end Go.Proofs.Ytkdafomnoeaboaa
