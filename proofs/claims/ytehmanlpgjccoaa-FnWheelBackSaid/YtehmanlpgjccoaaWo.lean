/-
  What WheelOf comes to, and the contract of the program's WheelOf. No conditions beyond those stated.
-/
import Derived.Test.YtehmanlpgjccoaaWpr
import Derived.Test.YtehmanlpgjccoaaW5
namespace Go.Proofs.Ytehmanlpgjccoaa
open Go.RowKit
open Classical in
/-- One pin put into a wheel of these spokes: the new spokes, if it goes. -/
noncomputable def stepP (C : Nat → List (Nat → Int)) (p : Nat → Int) : Option (Nat → List (Nat → Int)) :=
  if WOK 9 (fun i => ⟨none, (C i).length, 0, C i⟩) ∧ 1 ≤ p 0 ∧ WOK 9 (insW (fun i => ⟨none, (C i).length, 0, C i⟩) p) then some (fun m => (insW (fun i => ⟨none, (C i).length, 0, C i⟩) p m).es) else none
/-- The first k pins put in. -/
noncomputable def foldP (es : List (Nat → Int)) : Nat → Option (Nat → List (Nat → Int))
  | 0 => some (fun _ => [])
  | k + 1 => (foldP es k).bind fun C => stepP C (fld es k)
theorem foldP_none {es : List (Nat → Int)} {k : Nat} (h : foldP es k = none) : ∀ m, k ≤ m → foldP es m = none
  | 0, hm => by
    obtain rfl : k = 0 := by omega
    exact h
  | m + 1, hm => by
    by_cases hk : k = m + 1
    · rw [← hk]; exact h
    · simp only [foldP]
      rw [foldP_none h m (by omega)]
      rfl
theorem stepP_putR {C : Nat → List (Nat → Int)} {p : Nat → Int} {S : Nat → Sp} (hl : ∀ i, i < 9 → (S i).es.length = (S i).n) (hC : ∀ i, i < 9 → (S i).es = C i) :
    (∃ C', stepP C p = some C' ∧ PutR 9 S p C' true) ∨ (stepP C p = none ∧ PutR 9 S p C false) := by
  have hs : Sam 9 (fun i => ⟨none, (C i).length, 0, C i⟩) S := fun i hi => ⟨by show (C i).length = _; rw [← hC i hi, hl i hi], (hC i hi).symm⟩
  by_cases h : WOK 9 (fun i => ⟨none, (C i).length, 0, C i⟩) ∧ 1 ≤ p 0 ∧ WOK 9 (insW (fun i => ⟨none, (C i).length, 0, C i⟩) p)
  · refine .inl ⟨_, if_pos h, PutR.sam hs (.inl ⟨rfl, h, fun m hm => rfl⟩)⟩
  · exact .inr ⟨if_neg h, PutR.sam hs (.inr ⟨rfl, h, fun m hm => rfl⟩)⟩
def WofR (es : List (Nat → Int)) (n N : Nat) (E : Nat → List (Nat → Int)) (b : Bool) : Prop :=
  (b = true ∧ N = 9 ∧ ∃ C, foldP es n = some C ∧ ∀ m, m < 9 → E m = C m) ∨ (b = false ∧ N = 0 ∧ foldP es n = none)
theorem wofR_ex (es : List (Nat → Int)) (n : Nat) : ∃ N E b, WofR es n N E b := by
  rcases h : foldP es n with _ | C
  · exact ⟨0, fun _ => [], false, .inr ⟨rfl, rfl, h⟩⟩
  · exact ⟨9, C, true, .inl ⟨rfl, rfl, C, h, fun _ _ => rfl⟩⟩
theorem WofR.no {es : List (Nat → Int)} {n N k : Nat} {E : Nat → List (Nat → Int)} {b : Bool} (h : WofR es n N E b) (hk : k ≤ n) (h0 : foldP es k = none) : b = false ∧ N = 0 := by
  have h1 := foldP_none h0 n hk
  rcases h with ⟨_, _, C, h2, _⟩ | ⟨h2, h3, _⟩
  · rw [h1] at h2; cases h2
  · exact ⟨h2, h3⟩
theorem WofR.yes {es : List (Nat → Int)} {n N : Nat} {C E : Nat → List (Nat → Int)} {b : Bool} (h : WofR es n N E b) (h0 : foldP es n = some C) : b = true ∧ N = 9 ∧ ∀ m, m < 9 → E m = C m := by
  rcases h with ⟨h1, h2, C', h3, h4⟩ | ⟨_, _, h3⟩
  · rw [h0] at h3
    injection h3 with h3
    subst h3
    exact ⟨h1, h2, h4⟩
  · rw [h0] at h3; cases h3
/-- Behind a put that went the wheel holds ten pins at most. -/
theorem put_ten {S S' : Nat → Sp} {p : Nat → Int} {E : Nat → List (Nat → Int)} (h : PutR 9 S p E true) (hl : ∀ i, i < 9 → (S i).es.length = (S i).n) (hl' : ∀ i, i < 9 → (S' i).es.length = (S' i).n) (he : ∀ i, i < 9 → (S' i).es = E i) : tot S' 9 ≤ 10 := by
  rcases h with ⟨_, ⟨_, _, h3⟩, h4⟩ | ⟨h0, _⟩
  · have hs : Sam 9 S' (insW S p) := fun i hi => ⟨by rw [← hl' i hi, ← insW_len (p := p) hl i hi, he i hi, h4 i hi], by rw [he i hi, h4 i hi]⟩
    rw [hs.tot (Nat.le_refl _)]
    exact h3.2.1
  · cases h0
theorem tot_zero {S : Nat → Sp} : ∀ {N : Nat}, (∀ i, i < N → (S i).n = 0) → tot S N = 0
  | 0, _ => rfl
  | N + 1, h => by simp only [tot]; rw [tot_zero (fun i hi => h i (by omega)), h N (by omega)]
theorem ownW_zero (lo hi : Nat) (w : World) (S : Nat → Sp) (h : hi ≤ w.heap.size) : OwnW lo hi w none 0 S :=
  ⟨⟨.inl rfl, fun i hi => absurd hi (by omega), fun i hi => absurd hi (by omega)⟩, h, .inl rfl, fun h0 => absurd rfl h0, fun i hi => absurd hi (by omega), fun i hi => absurd hi (by omega), fun i j hi => absurd hi (by omega), fun i hi => absurd hi (by omega)⟩
end Go.Proofs.Ytehmanlpgjccoaa
