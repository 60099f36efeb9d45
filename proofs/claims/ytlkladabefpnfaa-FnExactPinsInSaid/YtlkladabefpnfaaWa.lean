/-
  All pins of a wheel, spoke by spoke: the contract of the reference's l9All; what a good wheel is.
-/
import Derived.Test.YtlkladabefpnfaaWp
namespace Go.Proofs.Ytlkladabefpnfaa
open Go.RowKit

/-- The pins of the first k spokes, one behind the other. -/
def allS (S : Nat → Sp) : Nat → List (Nat → Int)
  | 0 => []
  | k + 1 => allS S k ++ (S k).es
theorem allS_len {S : Nat → Sp} : ∀ {N : Nat}, (∀ i, i < N → (S i).es.length = (S i).n) → (allS S N).length = tot S N
  | 0, _ => rfl
  | N + 1, h => by
    simp only [allS, tot, List.length_append]
    rw [allS_len fun i hi => h i (by omega), h N (by omega)]
theorem fld_append_left {es es2 : List (Nat → Int)} {i : Nat} (h : i < es.length) : fld (es ++ es2) i = fld es i := by
  funext j
  unfold fld
  rw [List.getD_eq_getElem?_getD, List.getD_eq_getElem?_getD, List.getElem?_append_left h]
theorem fld_append_right {es es2 : List (Nat → Int)} {i : Nat} : fld (es ++ es2) (es.length + i) = fld es2 i := by
  funext j
  unfold fld
  rw [List.getD_eq_getElem?_getD, List.getD_eq_getElem?_getD, List.getElem?_append_right (by omega), Nat.add_sub_cancel_left]
theorem allS_get {S : Nat → Sp} : ∀ {N k i : Nat}, (∀ i, i < N → (S i).es.length = (S i).n) → k < N → i < (S k).n → fld (allS S N) (tot S k + i) = fld (S k).es i
  | 0, k, i, _, hk, _ => absurd hk (by omega)
  | N + 1, k, i, h, hk, hi => by
    have hl : (allS S N).length = tot S N := allS_len fun i hi => h i (by omega)
    simp only [allS]
    by_cases hkn : k < N
    · have := tot_one (S := S) hkn
      rw [fld_append_left (by omega)]
      exact allS_get (fun i hi => h i (by omega)) hkn hi
    · obtain rfl : k = N := by omega
      rw [← hl]
      exact fld_append_right
theorem tot_find {S : Nat → Sp} : ∀ {N j : Nat}, j < tot S N → ∃ k i, k < N ∧ i < (S k).n ∧ j = tot S k + i
  | 0, j, h => absurd h (by simp [tot])
  | N + 1, j, h => by
    by_cases hj : j < tot S N
    · obtain ⟨k, i, h1, h2, h3⟩ := tot_find hj
      exact ⟨k, i, by omega, h2, h3⟩
    · simp only [tot] at h
      exact ⟨N, j - tot S N, by omega, by omega, by omega⟩
theorem RdW.lens {w : World} {A : Option Addr} {N : Nat} {S : Nat → Sp} (h : RdW w A N S) : ∀ i, i < N → (S i).es.length = (S i).n := fun i hi => (h.rd i hi).1
theorem allS_sam {N : Nat} {S S' : Nat → Sp} (h : Sam N S S') : ∀ {k : Nat}, k ≤ N → allS S k = allS S' k
  | 0, _ => rfl
  | k + 1, hk => by
    simp only [allS]
    rw [allS_sam h (k := k) (by omega), (h k (by omega)).2]

/-- Pin i of spoke k stands where it belongs, behind the one ahead of it. -/
def stepW (S : Nat → Sp) (k i : Nat) : Prop := fld (S k).es i 0 % 9 = k ∧ (0 < i → ltP (fld (S k).es (i - 1)) (fld (S k).es i))
def stepL (L : List (Nat → Int)) (i : Nat) : Prop := pinR (fld L i) ∧ ∀ j, j < i → fld L j 1 ≠ fld L i 1
def WOK (N : Nat) (S : Nat → Sp) : Prop := N = 9 ∧ tot S N ≤ 10 ∧ (∀ i, i < tot S N → stepL (allS S N) i) ∧ ∀ k, k < N → ∀ i, i < (S k).n → stepW S k i
theorem WOK.sam {N : Nat} {S S' : Nat → Sp} (h : Sam N S S') (hw : WOK N S) : WOK N S' := by
  obtain ⟨h1, h2, h3, h4⟩ := hw
  have ht := h.tot (Nat.le_refl N)
  have ha := allS_sam h (Nat.le_refl N)
  refine ⟨h1, by omega, by rw [← ht, ← ha]; exact h3, fun k hk i hi => ?_⟩
  have h5 := h4 k hk i (by rw [(h k hk).1]; exact hi)
  unfold stepW at h5 ⊢
  rw [(h k hk).2] at h5
  exact h5

end Go.Proofs.Ytlkladabefpnfaa
