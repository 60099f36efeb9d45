/-
  What WheelPut comes to: a plain relation between a wheel, a pin and the spokes that come back. No conditions.
-/
import Derived.Test.YtehmanlpgjccoaaWp9
import Derived.Test.YtehmanlpgjccoaaWc
namespace Go.Proofs.Ytehmanlpgjccoaa
open Go.RowKit

/-- The wheel with the pin put in where it belongs. -/
def insW (S : Nat → Sp) (p : Nat → Int) : Nat → Sp := updS S (p 0 % 9).toNat ⟨none, (S (p 0 % 9).toNat).n + 1, 0, insL (S (p 0 % 9).toNat).es (plcP (S (p 0 % 9).toNat).es p (S (p 0 % 9).toNat).n) p⟩
def PutR (N : Nat) (S : Nat → Sp) (p : Nat → Int) (E : Nat → List (Nat → Int)) (b : Bool) : Prop :=
  (b = true ∧ (WOK N S ∧ 1 ≤ p 0 ∧ WOK N (insW S p)) ∧ ∀ m, m < N → E m = (insW S p m).es) ∨ (b = false ∧ ¬ (WOK N S ∧ 1 ≤ p 0 ∧ WOK N (insW S p)) ∧ ∀ m, m < N → E m = (S m).es)
theorem putR_ex (N : Nat) (S : Nat → Sp) (p : Nat → Int) : ∃ E b, PutR N S p E b := by
  by_cases h : WOK N S ∧ 1 ≤ p 0 ∧ WOK N (insW S p)
  · exact ⟨_, true, .inl ⟨rfl, h, fun _ _ => rfl⟩⟩
  · exact ⟨_, false, .inr ⟨rfl, h, fun _ _ => rfl⟩⟩
theorem PutR.no {N : Nat} {S : Nat → Sp} {p : Nat → Int} {E : Nat → List (Nat → Int)} {b : Bool} (h : PutR N S p E b) (hn : ¬ (WOK N S ∧ 1 ≤ p 0 ∧ WOK N (insW S p))) : b = false ∧ ∀ m, m < N → E m = (S m).es := by
  rcases h with ⟨_, h1, _⟩ | ⟨h1, _, h2⟩
  · exact absurd h1 hn
  · exact ⟨h1, h2⟩
theorem PutR.yes {N : Nat} {S : Nat → Sp} {p : Nat → Int} {E : Nat → List (Nat → Int)} {b : Bool} (h : PutR N S p E b) (hw : WOK N S) (hp : 1 ≤ p 0) (h2 : WOK N (insW S p)) : b = true ∧ ∀ m, m < N → E m = (insW S p m).es := by
  rcases h with ⟨h1, _, h3⟩ | ⟨_, h1, _⟩
  · exact ⟨h1, h3⟩
  · exact absurd ⟨hw, hp, h2⟩ h1
theorem insW_sam {N : Nat} {S S' : Nat → Sp} {p : Nat → Int} (h : Sam N S S') : Sam N (insW S p) (insW S' p) := fun i hi => by
  unfold insW updS
  by_cases hk : i = (p 0 % 9).toNat
  · rw [if_pos hk, if_pos hk]
    subst hk
    exact ⟨by show (S _).n + 1 = (S' _).n + 1; rw [(h _ hi).1], by show insL _ _ _ = insL _ _ _; rw [(h _ hi).1, (h _ hi).2]⟩
  · rw [if_neg hk, if_neg hk]
    exact h i hi
theorem PutR.sam {N : Nat} {S S' : Nat → Sp} {p : Nat → Int} {E : Nat → List (Nat → Int)} {b : Bool} (hs : Sam N S S') (h : PutR N S p E b) : PutR N S' p E b := by
  rcases h with ⟨h0, ⟨h1, h2, h3⟩, h4⟩ | ⟨h0, h1, h2⟩
  · exact .inl ⟨h0, ⟨h1.sam hs, h2, h3.sam (insW_sam hs)⟩, fun m hm => by rw [h4 m hm, (insW_sam (p := p) hs m hm).2]⟩
  · exact .inr ⟨h0, fun ⟨g1, g2, g3⟩ => h1 ⟨g1.sam hs.symm, g2, g3.sam (insW_sam hs.symm)⟩, fun m hm => by rw [h2 m hm, (hs m hm).2]⟩
theorem insW_len {N : Nat} {S : Nat → Sp} {p : Nat → Int} (hl : ∀ i, i < N → (S i).es.length = (S i).n) : ∀ i, i < N → (insW S p i).es.length = (insW S p i).n := fun i hi => by
  unfold insW updS
  by_cases hk : i = (p 0 % 9).toNat
  · rw [if_pos hk]
    subst hk
    exact insL_len (hl _ hi) plcP_le
  · rw [if_neg hk]
    exact hl i hi
theorem insW_tot {S : Nat → Sp} {p : Nat → Int} : ∀ {N : Nat}, tot (insW S p) N = tot S N + (if (p 0 % 9).toNat < N then 1 else 0)
  | 0 => by simp [tot]
  | N + 1 => by
    simp only [tot]
    rw [insW_tot (N := N)]
    unfold insW updS
    by_cases hk : N = (p 0 % 9).toNat
    · rw [if_pos hk, ← hk, if_neg (by omega), if_pos (by omega)]
      show _ + ((S N).n + 1) = _
      omega
    · rw [if_neg hk]
      by_cases h2 : (p 0 % 9).toNat < N
      · rw [if_pos h2, if_pos (by omega)]
        omega
      · rw [if_neg h2, if_neg (by omega)]
        omega
theorem PutR.tot {N : Nat} {S : Nat → Sp} {p : Nat → Int} {E : Nat → List (Nat → Int)} {b : Bool} (hl : ∀ i, i < N → (S i).es.length = (S i).n) (h : PutR N S p E b) : totE E N ≤ tot S N + 1 := by
  rcases h with ⟨h0, _, h4⟩ | ⟨h0, h1, h2⟩
  · have h5 := totE_le (E := E) (S := insW S p) (N := N) fun i hi => by rw [h4 i hi, insW_len hl i hi]; exact Nat.le_refl _
    rw [insW_tot] at h5
    split at h5 <;> omega
  · have h5 := totE_le (E := E) (S := S) (N := N) fun i hi => by rw [h2 i hi, hl i hi]; exact Nat.le_refl _
    omega
theorem fld_ins {es : List (Nat → Int)} {p : Nat → Int} {k n : Nat} (hl : es.length = n) (hk : k ≤ n) : fld (insL es k p) k = p := by
  funext j
  unfold fld insL
  rw [List.getD_eq_getElem?_getD, List.getElem?_append_right (by rw [List.length_take]; omega), List.length_take, Nat.min_eq_left (by omega), Nat.sub_self]
  rfl
/-- A pin that is not good makes the wheel bad. -/
theorem ins_bad {N : Nat} {S : Nat → Sp} {p : Nat → Int} (hl : ∀ i, i < N → (S i).es.length = (S i).n) (hk : (p 0 % 9).toNat < N) (hp : ¬ pinR p) : ¬ WOK N (insW S p) := fun hw => by
  have hn : (insW S p (p 0 % 9).toNat).n = (S (p 0 % 9).toNat).n + 1 := by simp [insW, updS]
  have he : (insW S p (p 0 % 9).toNat).es = insL (S (p 0 % 9).toNat).es (plcP (S (p 0 % 9).toNat).es p (S (p 0 % 9).toNat).n) p := by simp [insW, updS]
  have htk := tot_one (S := insW S p) hk
  have hpl := plcP_le (es := (S (p 0 % 9).toNat).es) (p := p) (n := (S (p 0 % 9).toNat).n)
  have h1 := (hw.2.2.1 (tot (insW S p) (p 0 % 9).toNat + plcP (S (p 0 % 9).toNat).es p (S (p 0 % 9).toNat).n) (by omega)).1
  rw [allS_get (insW_len hl) hk (by omega), he, fld_ins (hl _ hk) hpl] at h1
  exact hp h1
/-- A wheel whose spoke has been changed so holds what it should. -/
theorem upd_sam {N n c : Nat} {S S1 : Nat → Sp} {p : Nat → Int} {A : Option Addr} (hs : Sam N S S1) (hk : (p 0 % 9).toNat < N) (hn : n = (S1 (p 0 % 9).toNat).n + 1) : Sam N (updS S1 (p 0 % 9).toNat ⟨A, n, c, insL (S1 (p 0 % 9).toNat).es (plcP (S1 (p 0 % 9).toNat).es p (S1 (p 0 % 9).toNat).n) p⟩) (insW S p) := fun i hi => by
  unfold insW updS
  by_cases h1 : i = (p 0 % 9).toNat
  · rw [if_pos h1, if_pos h1]
    exact ⟨by show n = (S _).n + 1; rw [(hs _ hk).1, hn], by show insL _ _ _ = insL _ _ _; rw [(hs _ hk).1, (hs _ hk).2]⟩
  · rw [if_neg h1, if_neg h1]
    exact ⟨(hs i hi).1.symm, (hs i hi).2.symm⟩
end Go.Proofs.Ytehmanlpgjccoaa
