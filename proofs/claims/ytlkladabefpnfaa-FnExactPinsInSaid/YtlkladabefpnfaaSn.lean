/-
  Blocks of a row, each sorted, are merged two by two, plain. No conditions.
-/
import Derived.Test.YtlkladabefpnfaaSm
namespace Go.Proofs.Ytlkladabefpnfaa
open Go.RowKit

/-- The first n elements are sorted, block by block of s. -/
def BkS (es : List (Nat → Int)) (s n : Nat) : Prop := ∀ q, q + 1 < n → (q + 1) % s ≠ 0 → ¬ ltP (fld es (q + 1)) (fld es q)
/-- Blocks of 2 * s ahead of a, of s behind it. -/
def BkM (es : List (Nat → Int)) (s a n : Nat) : Prop := a % (2 * s) = 0 ∧ (∀ q, q + 1 < n → q + 1 < a → (q + 1) % (2 * s) ≠ 0 → ¬ ltP (fld es (q + 1)) (fld es q)) ∧ ∀ q, a ≤ q → q + 1 < n → (q + 1) % s ≠ 0 → ¬ ltP (fld es (q + 1)) (fld es q)
theorem mod_half {a s : Nat} (h : a % (2 * s) = 0) : a % s = 0 := by
  obtain ⟨k, rfl⟩ := Nat.dvd_of_mod_eq_zero h
  rw [Nat.mul_comm 2 s, Nat.mul_assoc]
  exact Nat.mul_mod_right _ _
theorem mod_in {a s q : Nat} (h : a % s = 0) (h1 : a < q) (h2 : q < a + s) : q % s ≠ 0 := by
  obtain ⟨k, rfl⟩ := Nat.dvd_of_mod_eq_zero h
  obtain ⟨d, rfl⟩ : ∃ d, q = s * k + d := ⟨q - s * k, by omega⟩
  rw [Nat.mul_add_mod, Nat.mod_eq_of_lt (by omega)]
  omega
theorem mod_next {a s : Nat} (h : a % s = 0) : (a + s) % s = 0 := by
  rw [Nat.add_mod_right]
  exact h
theorem BkM.start {es : List (Nat → Int)} {s n : Nat} (h : BkS es s n) : BkM es s 0 n := ⟨Nat.zero_mod _, fun _ _ h => absurd h (by omega), fun q _ h1 h2 => h q h1 h2⟩
theorem BkM.fst {es : List (Nat → Int)} {s a n : Nat} (h : BkM es s a n) (hn : a + s ≤ n) : SrtR es a (a + s) := fun q h1 h2 => h.2.2 q h1 (by omega) (mod_in (mod_half h.1) (by omega) h2)
theorem BkM.snd {es : List (Nat → Int)} {s a n c : Nat} (h : BkM es s a n) (hc : c ≤ n) (hc2 : c ≤ a + 2 * s) : SrtR es (a + s) c := fun q h1 h2 => h.2.2 q (by omega) (by omega) (mod_in (mod_next (mod_half h.1)) (by omega) (by omega))
theorem BkM.step {es es' : List (Nat → Int)} {s a n : Nat} (h : BkM es s a n) (hm : MrgD es' es a (a + 2 * s)) : BkM es' s (a + 2 * s) n := by
  obtain ⟨_, _, hs, ho⟩ := hm
  refine ⟨mod_next h.1, fun q h1 h2 h3 => ?_, fun q h1 h2 h3 => ?_⟩
  · by_cases c1 : q + 1 < a
    · rw [ho q (by omega), ho (q + 1) (by omega)]
      exact h.2.1 q h1 c1 h3
    by_cases c2 : q + 1 = a
    · rw [c2] at h3
      exact absurd h.1 h3
    exact hs q (by omega) h2
  · rw [ho q (by omega), ho (q + 1) (by omega)]
    exact h.2.2 q (by omega) h2 h3
theorem BkM.last {es es' : List (Nat → Int)} {s a n : Nat} (h : BkM es s a n) (hm : MrgD es' es a n) : BkS es' (2 * s) n := fun q h1 h2 => by
  obtain ⟨_, _, hs, ho⟩ := hm
  by_cases c1 : q + 1 < a
  · rw [ho q (by omega), ho (q + 1) (by omega)]
    exact h.2.1 q h1 c1 h2
  by_cases c2 : q + 1 = a
  · rw [c2] at h2
    exact absurd h.1 h2
  exact hs q (by omega) h1
theorem BkM.none {es : List (Nat → Int)} {s a n : Nat} (h : BkM es s a n) (hn : n ≤ a + s) : BkS es (2 * s) n := fun q h1 h2 => by
  by_cases c1 : q + 1 < a
  · exact h.2.1 q h1 c1 h2
  by_cases c2 : q + 1 = a
  · rw [c2] at h2
    exact absurd h.1 h2
  exact h.2.2 q (by omega) h1 (mod_in (mod_half h.1) (by omega) (by omega))
theorem BkS.done {es : List (Nat → Int)} {s n : Nat} (h : BkS es s n) (hs : n ≤ s) : SrtR es 0 n := fun q _ h2 => h q h2 (by rw [Nat.mod_eq_of_lt (by omega)]; omega)
/-- The blocks of twenty ahead of a are sorted. -/
def Bk20 (es : List (Nat → Int)) (a : Nat) : Prop := a % 20 = 0 ∧ ∀ q, q + 1 < a → (q + 1) % 20 ≠ 0 → ¬ ltP (fld es (q + 1)) (fld es q)
theorem Bk20.start (es : List (Nat → Int)) : Bk20 es 0 := ⟨rfl, fun _ h => absurd h (by omega)⟩
theorem Bk20.step {es es' : List (Nat → Int)} {a b : Nat} (h : Bk20 es a) (hs : SrtR es' a b) (ho : OutR es' es a b) : ∀ q, q + 1 < b → (q + 1) % 20 ≠ 0 → ¬ ltP (fld es' (q + 1)) (fld es' q) := fun q h1 h2 => by
  by_cases c1 : q + 1 < a
  · rw [ho q (by omega), ho (q + 1) (by omega)]
    exact h.2 q c1 h2
  by_cases c2 : q + 1 = a
  · have := h.1
    omega
  exact hs q (by omega) h1
end Go.Proofs.Ytlkladabefpnfaa
