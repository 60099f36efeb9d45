/-
  What WheelCut comes to: a plain relation between a wheel, a pin and the spokes that come back. No conditions.
-/
import Derived.Test.YtehmanlpgjccoaaWx
namespace Go.Proofs.Ytehmanlpgjccoaa
open Go.RowKit

def CutR (N : Nat) (S : Nat → Sp) (p : Nat → Int) (E : Nat → List (Nat → Int)) (b : Bool) : Prop :=
  (∃ k i : Nat, b = true ∧ WOK N S ∧ 1 ≤ p 0 ∧ k = (p 0 % 9).toNat ∧ k < N ∧ i < (S k).n ∧ isP (S k).es p i = true ∧ (∀ j, j < i → isP (S k).es p j = false) ∧ ∀ m, m < N → E m = if m = k then cutL (S k).es i else (S m).es)
  ∨ (b = false ∧ ¬ (WOK N S ∧ 1 ≤ p 0 ∧ ∃ i, i < (S (p 0 % 9).toNat).n ∧ isP (S (p 0 % 9).toNat).es p i = true) ∧ ∀ m, m < N → E m = (S m).es)
theorem cutR_ex (N : Nat) (S : Nat → Sp) (p : Nat → Int) : ∃ E b, CutR N S p E b := by
  by_cases h : WOK N S ∧ 1 ≤ p 0 ∧ ∃ i, i < (S (p 0 % 9).toNat).n ∧ isP (S (p 0 % 9).toNat).es p i = true
  · obtain ⟨h1, h2, i0, h3, h4⟩ := h
    rcases hx : ixOf (isP (S (p 0 % 9).toNat).es p) (S (p 0 % 9).toNat).n with _ | i
    · have := ixOf_none hx i0 h3
      rw [this] at h4
      cases h4
    · obtain ⟨h5, h6, h7⟩ := ixOf_some hx
      have h9 := h1.1
      exact ⟨_, true, .inl ⟨(p 0 % 9).toNat, i, rfl, h1, h2, rfl, by omega, h5, h6, h7, fun m _ => rfl⟩⟩
  · exact ⟨_, false, .inr ⟨rfl, h, fun m _ => rfl⟩⟩
theorem CutR.no {N : Nat} {S : Nat → Sp} {p : Nat → Int} {E : Nat → List (Nat → Int)} {b : Bool} (h : CutR N S p E b) (hn : ¬ (WOK N S ∧ 1 ≤ p 0 ∧ ∃ i, i < (S (p 0 % 9).toNat).n ∧ isP (S (p 0 % 9).toNat).es p i = true)) : b = false ∧ ∀ m, m < N → E m = (S m).es := by
  rcases h with ⟨k, i, _, h1, h2, rfl, _, h3, h4, _⟩ | ⟨h1, _, h2⟩
  · exact absurd ⟨h1, h2, i, h3, h4⟩ hn
  · exact ⟨h1, h2⟩
theorem CutR.yes {N i : Nat} {S : Nat → Sp} {p : Nat → Int} {E : Nat → List (Nat → Int)} {b : Bool} (h : CutR N S p E b) (hw : WOK N S) (hp : 1 ≤ p 0) (hi : i < (S (p 0 % 9).toNat).n) (hy : isP (S (p 0 % 9).toNat).es p i = true) (hb : ∀ j, j < i → isP (S (p 0 % 9).toNat).es p j = false) :
    b = true ∧ ∀ m, m < N → E m = if m = (p 0 % 9).toNat then cutL (S (p 0 % 9).toNat).es i else (S m).es := by
  rcases h with ⟨k, i2, h0, h1, h2, rfl, _, h3, h4, h5, h6⟩ | ⟨_, h1, _⟩
  · have e : i2 = i := by
      rcases Nat.lt_trichotomy i2 i with h | h | h
      · rw [hb i2 h] at h4; cases h4
      · exact h
      · rw [h5 i h] at hy; cases hy
    subst e
    exact ⟨h0, h6⟩
  · exact absurd ⟨hw, hp, i, hi, hy⟩ h1
theorem CutR.sam {N : Nat} {S S' : Nat → Sp} {p : Nat → Int} {E : Nat → List (Nat → Int)} {b : Bool} (hs : Sam N S S') (h : CutR N S p E b) : CutR N S' p E b := by
  rcases h with ⟨k, i, h0, h1, h2, h3, hk, h4, h5, h6, h7⟩ | ⟨h0, h1, h2⟩
  · refine .inl ⟨k, i, h0, h1.sam hs, h2, h3, hk, by rw [← (hs k hk).1]; exact h4, by rw [← (hs k hk).2]; exact h5, by rw [← (hs k hk).2]; exact h6, fun m hm => ?_⟩
    rw [h7 m hm, (hs k hk).2, (hs m hm).2]
  · refine .inr ⟨h0, fun ⟨g1, g2, i, g3, g4⟩ => h1 ⟨g1.sam hs.symm, g2, i, ?_⟩, fun m hm => by rw [h2 m hm, (hs m hm).2]⟩
    have hN := g1.1
    have hk : (p 0 % 9).toNat < N := by omega
    rw [(hs _ hk).1, (hs _ hk).2]
    exact ⟨g3, g4⟩
/-- How many pins a list of spokes holds. -/
def totE (E : Nat → List (Nat → Int)) : Nat → Nat
  | 0 => 0
  | k + 1 => totE E k + (E k).length
theorem tot_eqE {S : Nat → Sp} {E : Nat → List (Nat → Int)} : ∀ {N : Nat}, (∀ i, i < N → (S i).es.length = (S i).n) → (∀ i, i < N → (S i).es = E i) → tot S N = totE E N
  | 0, _, _ => rfl
  | N + 1, h, he => by
    simp only [tot, totE]
    rw [tot_eqE (N := N) (fun i hi => h i (by omega)) (fun i hi => he i (by omega)), ← h N (by omega), he N (by omega)]
theorem totE_le {E : Nat → List (Nat → Int)} {S : Nat → Sp} : ∀ {N : Nat}, (∀ i, i < N → (E i).length ≤ (S i).n) → totE E N ≤ tot S N
  | 0, _ => Nat.le_refl _
  | N + 1, h => by
    simp only [tot, totE]
    have := totE_le (N := N) (fun i hi => h i (by omega))
    have := h N (by omega)
    omega
theorem CutR.tot {N : Nat} {S : Nat → Sp} {p : Nat → Int} {E : Nat → List (Nat → Int)} {b : Bool} (hl : ∀ i, i < N → (S i).es.length = (S i).n) (h : CutR N S p E b) : totE E N ≤ tot S N + 1 := by
  refine Nat.le_succ_of_le (totE_le fun m hm => ?_)
  rcases h with ⟨k, i, h0, h1, h2, h3, hk, h4, h5, h6, h7⟩ | ⟨h0, h1, h2⟩
  · rw [h7 m hm]
    by_cases hmk : m = k
    · subst hmk
      rw [if_pos rfl, cutL_len (hl m hm) h4]
      omega
    · rw [if_neg hmk, hl m hm]
      exact Nat.le_refl _
  · rw [h2 m hm, hl m hm]
    exact Nat.le_refl _
/-- In a good wheel all pins are good: so a pin that is not good is not there. -/
theorem not_in {N i : Nat} {S : Nat → Sp} {p : Nat → Int} (hl : ∀ i, i < N → (S i).es.length = (S i).n) (hw : WOK N S) (hp : ¬ pinR p) (hk : (p 0 % 9).toNat < N) (hi : i < (S (p 0 % 9).toNat).n) (hy : isP (S (p 0 % 9).toNat).es p i = true) : False := by
  have htk := tot_one (S := S) hk
  have h1 := (hw.2.2.1 (tot S (p 0 % 9).toNat + i) (by omega)).1
  rw [allS_get hl hk hi] at h1
  simp only [isP, decide_eq_true_eq] at hy
  unfold pinR at h1 hp
  rw [hy.1, hy.2] at h1
  exact hp h1
theorem sam_es {w w' : World} {A A' : Option Addr} {N : Nat} {S S' : Nat → Sp} (h : RdW w A N S) (h' : RdW w' A' N S') (he : ∀ i, i < N → (S i).es = (S' i).es) : Sam N S S' := fun i hi => ⟨by rw [← h.lens i hi, ← h'.lens i hi, he i hi], he i hi⟩
end Go.Proofs.Ytehmanlpgjccoaa
