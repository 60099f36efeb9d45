/-
  What an insertion sort of a part of a row keeps. No conditions.
-/
import Derived.Test.YtccabkmmlddenaaSt
import Derived.Test.YtccabkmmlddenaaBase
namespace Go.Proofs.Ytccabkmmlddenaa
open Go.RowKit

/-- The elements from a to b stand in order. -/
def SrtR (es : List (Nat → Int)) (a b : Nat) : Prop := ∀ q, a ≤ q → q + 1 < b → ¬ ltP (fld es (q + 1)) (fld es q)
/-- The elements from a to i stand in order but for element j, which may belong further ahead. -/
def MidR (es : List (Nat → Int)) (a i j : Nat) : Prop := (∀ q, a ≤ q → q + 1 < i + 1 → q + 1 ≠ j → ¬ ltP (fld es (q + 1)) (fld es q)) ∧ (a < j → j < i → ¬ ltP (fld es (j + 1)) (fld es (j - 1)))
def OutR (es' es : List (Nat → Int)) (a b : Nat) : Prop := ∀ q, q < a ∨ b ≤ q → fld es' q = fld es q
theorem OutR.refl (es : List (Nat → Int)) (a b : Nat) : OutR es es a b := fun _ _ => rfl
theorem OutR.trans {e1 e2 e3 : List (Nat → Int)} {a b : Nat} (h : OutR e1 e2 a b) (h2 : OutR e2 e3 a b) : OutR e1 e3 a b := fun q hq => (h q hq).trans (h2 q hq)
theorem OutR.swp {es : List (Nat → Int)} {a b j : Nat} (h1 : a < j) (h2 : j < b) : OutR (swp es j) es a b := fun q hq => swp_other (by omega) (by omega)
theorem MidR.start {es : List (Nat → Int)} {a i : Nat} (h : SrtR es a i) : MidR es a i i := ⟨fun q h0 h1 h2 => h q h0 (by omega), fun _ h => absurd h (by omega)⟩
theorem MidR.stop {es : List (Nat → Int)} {a i j : Nat} (h : MidR es a i j) (h2 : j ≤ a ∨ ¬ ltP (fld es j) (fld es (j - 1))) : SrtR es a (i + 1) := fun q h0 hq => by
  by_cases h3 : q + 1 = j
  · rcases h2 with h2 | h2
    · omega
    · rw [← h3] at h2
      exact h2
  · exact h.1 q h0 hq h3
theorem MidR.step {es : List (Nat → Int)} {a i j : Nat} (h : MidR es a i j) (h0 : a < j) (hj : j ≤ i) (hi : i < es.length) (hl : ltP (fld es j) (fld es (j - 1))) : MidR (swp es j) a i (j - 1) := by
  have hjl : j < es.length := by omega
  refine ⟨fun q hqa hq hne => ?_, fun h1 h2 => ?_⟩
  · by_cases h3 : q + 1 = j
    · rw [h3, swp_at (by omega) hjl, show q = j - 1 by omega, swp_pred hjl]
      exact ltP_asymm hl
    · by_cases h4 : q = j
      · rw [h4, swp_at (by omega) hjl, swp_other (by omega) (by omega)]
        exact h.2 h0 (by omega)
      · rw [swp_other (k := q + 1) h3 hne, swp_other (k := q) h4 (by omega)]
        exact h.1 q hqa hq h3
  · rw [show j - 1 + 1 = j by omega, swp_at (by omega) hjl, swp_other (k := j - 1 - 1) (by omega) (by omega)]
    have h5 := h.1 (j - 1 - 1) (by omega) (by omega) (by omega)
    rw [show j - 1 - 1 + 1 = j - 1 by omega] at h5
    exact h5
def InsD (B K n a b : Nat) (A : Option Addr) (es : List (Nat → Int)) (w : World) (y : Ending) (w' : World) : Prop := y = .returned (.tuple #[]) ∧ ∃ es', Own B w' K A n es' ∧ Stb es' es ∧ SrtR es' a b ∧ OutR es' es a b ∧ Below B w w'
theorem SrtR.all {es : List (Nat → Int)} {n : Nat} (h : SrtR es 0 n) (hl : es.length = n) : Pw es := Pw.of_srt (fun q hq => h q (Nat.zero_le _) (by omega))
def SrD (B K n : Nat) (A : Option Addr) (es : List (Nat → Int)) (w : World) (y : Ending) (w' : World) : Prop := y = .returned (.tuple #[]) ∧ Own B w' K A n (sortR es) ∧ Below B w w'
end Go.Proofs.Ytccabkmmlddenaa
