/-
  The pins of a list of parties. No conditions.
-/
import Derived.Test.YtlkladabefpnfaaPo
namespace Go.Proofs.Ytlkladabefpnfaa
open Go.RowKit

def pinAt (es : List (Nat → Int)) (i : Nat) : Nat → Int := fun j => [fld es i 8, fld es i 0].getD j 0
def pinT (es : List (Nat → Int)) (cab : Int) (i : Nat) : Bool := (fld es i 7 == 2) && (fld es i 1 == cab)
def pinF (es : List (Nat → Int)) (cab : Int) : Nat → List (Nat → Int)
  | 0 => []
  | k + 1 => if pinT es cab k then pinF es cab k ++ [pinAt es k] else pinF es cab k
theorem pinF_y {es : List (Nat → Int)} {cab : Int} {k : Nat} (h : pinT es cab k = true) : pinF es cab (k + 1) = pinF es cab k ++ [pinAt es k] := by
  show (if pinT es cab k then _ else _) = _
  rw [if_pos h]
theorem pinF_n {es : List (Nat → Int)} {cab : Int} {k : Nat} (h : pinT es cab k = false) : pinF es cab (k + 1) = pinF es cab k := by
  show (if pinT es cab k then _ else _) = _
  rw [if_neg (by rw [h]; decide)]
theorem pinF_len (es : List (Nat → Int)) (cab : Int) : ∀ k, (pinF es cab k).length ≤ k
  | 0 => Nat.le_refl _
  | k + 1 => by
    have h := pinF_len es cab k
    rcases Bool.eq_false_or_eq_true (pinT es cab k) with t | t
    · rw [pinF_y t]
      simp
      omega
    · rw [pinF_n t]
      omega
theorem sortL_snoc (xs : List (Nat → Int)) (p : Nat → Int) : ∀ k, k ≤ xs.length → sortL (xs ++ [p]) k = sortL xs k
  | 0, _ => rfl
  | k + 1, h => by
    have e : fld (xs ++ [p]) k = fld xs k := by
      funext j
      unfold fld
      rw [List.getD_eq_getElem?_getD, List.getD_eq_getElem?_getD, List.getElem?_append_left (by omega)]
    show insL (sortL (xs ++ [p]) k) (plcP (sortL (xs ++ [p]) k) (fld (xs ++ [p]) k) k) (fld (xs ++ [p]) k) = _
    rw [e, sortL_snoc xs p k (by omega)]
    rfl
/-- The sorted row grows by one pin put at its place. -/
theorem sortL_put (xs : List (Nat → Int)) (p : Nat → Int) : sortL (xs ++ [p]) (xs.length + 1) = insL (sortL xs xs.length) (plcP (sortL xs xs.length) p xs.length) p := by
  have e : fld (xs ++ [p]) xs.length = p := by
    funext j
    unfold fld
    rw [List.getD_eq_getElem?_getD, List.getElem?_append_right (Nat.le_refl _), Nat.sub_self]
    rfl
  show insL (sortL (xs ++ [p]) xs.length) (plcP (sortL (xs ++ [p]) xs.length) (fld (xs ++ [p]) xs.length) xs.length) (fld (xs ++ [p]) xs.length) = _
  rw [e, sortL_snoc xs p _ (Nat.le_refl _)]
end Go.Proofs.Ytlkladabefpnfaa
