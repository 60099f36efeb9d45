/-
  What PinsDue comes to, and the contracts of PinsOf told over a list of a given name. No conditions.
-/
import Derived.Test.YtehmanlpgjccoaaPoi
import Derived.Test.YtehmanlpgjccoaaPos
namespace Go.Proofs.Ytehmanlpgjccoaa
open Go.RowKit

/-- Of the first k pins those that are due at t. -/
def dueL (L : List (Nat → Int)) (t : Int) : Nat → List (Nat → Int)
  | 0 => []
  | k + 1 => if fld L k 0 ≤ t then dueL L t k ++ [fld L k] else dueL L t k
theorem dueL_len {L : List (Nat → Int)} {t : Int} : ∀ k, (dueL L t k).length ≤ k
  | 0 => Nat.le_refl _
  | k + 1 => by
    have := dueL_len (L := L) (t := t) k
    unfold dueL
    split
    · rw [List.length_append]; simp; omega
    · omega
theorem rd_one3 (W : World) (g : Nat) (t : TypeId) (p : Nat → Int) (hg : g = W.heap.size) : Rd (W.alloc (.cells #[.int .i64 (p 0), .int .i64 (p 1)] t)) 2 (some ⟨g, 0, none⟩) 1 [p] := by
  subst hg
  exact rd_one2 W t p
theorem dueL_yes {L : List (Nat → Int)} {t : Int} {k : Nat} (h : fld L k 0 ≤ t) : dueL L t (k + 1) = dueL L t k ++ [fld L k] := if_pos h
theorem dueL_no {L : List (Nat → Int)} {t : Int} {k : Nat} (h : ¬ fld L k 0 ≤ t) : dueL L t (k + 1) = dueL L t k := if_neg h

section
variable (A : Option Addr) (N c : Nat) (S : Nat → Sp) (n : Nat) (T : List (Nat → Int)) (w : World)
theorem iPinsOf_t (hN : N ≤ 4194304) (hT : tot S N ≤ 4194304) (h : RdW w A N S) (hL : pinsL N S = T) (hn : T.length = n) :
    Calls Try.prog 12 #[.agg #[.slice A N c]] w fun y w' => ∃ A' c', y = .returned (.slice A' n c') ∧ Own w.heap.size w' 2 A' n T ∧ (n ≤ c' ∧ c' ≤ 9223372036854775807) ∧ Below w.heap.size w w' :=
  (iPinsOf_any A N c S w hN hT h).mono fun _ _ ⟨A', n', c', h1, h2, h3, h4⟩ => by
    rw [hL] at h2
    obtain rfl : n' = n := by rw [← h2.1, hn]
    exact ⟨A', c', h1, h2, h3, h4⟩
theorem sPinsOf_t (hN : N ≤ 4194304) (hT : tot S N ≤ 4194304) (h : RdW w A N S) (hL : pinsL N S = T) (hn : T.length = n) :
    Calls Try.prog 13 #[.agg #[.slice A N c]] w fun y w' => ∃ A' c', y = .returned (.slice A' n c') ∧ Own w.heap.size w' 2 A' n T ∧ (n ≤ c' ∧ c' ≤ 9223372036854775807) ∧ Below w.heap.size w w' :=
  (sPinsOf_any A N c S w hN hT h).mono fun _ _ ⟨A', n', c', h1, h2, h3, h4⟩ => by
    rw [hL] at h2
    obtain rfl : n' = n := by rw [← h2.1, hn]
    exact ⟨A', c', h1, h2, h3, h4⟩
end
end Go.Proofs.Ytehmanlpgjccoaa
