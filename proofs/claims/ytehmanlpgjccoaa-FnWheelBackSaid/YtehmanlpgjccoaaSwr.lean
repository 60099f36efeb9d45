/-
  What SameWheel comes to. No conditions.
-/
import Derived.Test.YtehmanlpgjccoaaPo
import Derived.Test.YtehmanlpgjccoaaSe
namespace Go.Proofs.Ytehmanlpgjccoaa
open Go.RowKit

def SameR (N : Nat) (S : Nat → Sp) (N2 : Nat) (S2 : Nat → Sp) : Prop := WOK N S ∧ WOK N2 S2 ∧ SamL (pinsL N S) (pinsL N2 S2)
theorem SameR.sam {N N2 : Nat} {S S' S2 S2' : Nat → Sp} (h1 : Sam N S S') (h2 : Sam N2 S2 S2') (h : SameR N S N2 S2) : SameR N S' N2 S2' :=
  ⟨h.1.sam h1, h.2.1.sam h2, by rw [← pinsL_sam h1, ← pinsL_sam h2]; exact h.2.2⟩
end Go.Proofs.Ytehmanlpgjccoaa
