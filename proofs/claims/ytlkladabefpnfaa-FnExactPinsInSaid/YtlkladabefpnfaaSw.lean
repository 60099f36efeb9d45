/-
  Two ranges of a row are exchanged element by element, plain. No conditions.
-/
import Derived.Test.YtlkladabefpnfaaRot
namespace Go.Proofs.Ytlkladabefpnfaa
open Go.RowKit

def swx (es : List (Nat → Int)) (m j : Nat) : List (Nat → Int) := (es.set m (fld es j)).set j (fld es m)
theorem swx_len (es : List (Nat → Int)) (m j : Nat) : (swx es m j).length = es.length := by simp [swx]
theorem swx_j {es : List (Nat → Int)} {m j : Nat} (h : j < es.length) : fld (swx es m j) j = fld es m := by
  unfold swx
  rw [fld_set_same (by simpa using h)]
theorem swx_m {es : List (Nat → Int)} {m j : Nat} (h : m < es.length) (hne : m ≠ j) : fld (swx es m j) m = fld es j := by
  unfold swx
  rw [fld_set_other hne, fld_set_same h]
theorem swx_other {es : List (Nat → Int)} {m j k : Nat} (h1 : k ≠ m) (h2 : k ≠ j) : fld (swx es m j) k = fld es k := by
  unfold swx
  rw [fld_set_other h2, fld_set_other h1]
/-- k elements from a on and k from b on are exchanged. -/
def SwR (es' es : List (Nat → Int)) (a b k : Nat) : Prop := es'.length = es.length ∧ (∀ q, q < k → fld es' (a + q) = fld es (b + q)) ∧ (∀ q, q < k → fld es' (b + q) = fld es (a + q)) ∧ ∀ q, (q < a ∨ a + k ≤ q) → (q < b ∨ b + k ≤ q) → fld es' q = fld es q
theorem SwR.zero (es : List (Nat → Int)) (a b : Nat) : SwR es es a b 0 := ⟨rfl, fun _ h => absurd h (by omega), fun _ h => absurd h (by omega), fun _ _ _ => rfl⟩
theorem SwR.step {es' es : List (Nat → Int)} {a b k : Nat} (h : SwR es' es a b k) (hab : a + k < b) (hb : b + k < es.length) : SwR (swx es' (a + k) (b + k)) es a b (k + 1) := by
  obtain ⟨hl, h1, h2, h3⟩ := h
  refine ⟨by rw [swx_len, hl], fun q hq => ?_, fun q hq => ?_, fun q ha hb' => ?_⟩
  · by_cases e : q = k
    · subst e
      rw [swx_m (by omega) (by omega), h3 (b + q) (by omega) (by omega)]
    · rw [swx_other (by omega) (by omega), h1 q (by omega)]
  · by_cases e : q = k
    · subst e
      rw [swx_j (by omega), h3 (a + q) (by omega) (by omega)]
    · rw [swx_other (by omega) (by omega), h2 q (by omega)]
  · rw [swx_other (by omega) (by omega), h3 q (by omega) (by omega)]
end Go.Proofs.Ytlkladabefpnfaa
