/-
  The order of two fields (a time or level, then a number or turn), and what an insertion sort by it keeps. No conditions.
-/
import Derived.Test.YtfilagmboeeclaaSl
namespace Go.Proofs.Ytfilagmboeeclaa
open Go.RowKit

def cmpI (a b : Int) : Int := if a < b then -1 else if b < a then 1 else 0
def cmpP (a b : Nat → Int) : Int := if cmpI (a 0) (b 0) = 0 then cmpI (a 1) (b 1) else cmpI (a 0) (b 0)
/-- The order of pins: by time, then by number. -/
def ltP (a b : Nat → Int) : Prop := a 0 < b 0 ∨ (a 0 = b 0 ∧ a 1 < b 1)
instance (a b : Nat → Int) : Decidable (ltP a b) := by unfold ltP; infer_instance
theorem cmpI_cases (a b : Int) : (a < b ∧ cmpI a b = -1) ∨ (a = b ∧ cmpI a b = 0) ∨ (b < a ∧ cmpI a b = 1) := by
  unfold cmpI
  split
  · exact .inl ⟨by assumption, rfl⟩
  · split
    · exact .inr (.inr ⟨by assumption, rfl⟩)
    · exact .inr (.inl ⟨by omega, rfl⟩)
theorem cmpP_neg {a b : Nat → Int} : cmpP a b < 0 ↔ ltP a b := by
  unfold cmpP ltP
  rcases cmpI_cases (a 0) (b 0) with ⟨h, e⟩ | ⟨h, e⟩ | ⟨h, e⟩ <;> rcases cmpI_cases (a 1) (b 1) with ⟨h2, e2⟩ | ⟨h2, e2⟩ | ⟨h2, e2⟩ <;> rw [e] <;> simp [e2] <;> omega
theorem cmpP_pos {a b : Nat → Int} : 0 < cmpP a b ↔ ltP b a := by
  unfold cmpP ltP
  rcases cmpI_cases (a 0) (b 0) with ⟨h, e⟩ | ⟨h, e⟩ | ⟨h, e⟩ <;> rcases cmpI_cases (a 1) (b 1) with ⟨h2, e2⟩ | ⟨h2, e2⟩ | ⟨h2, e2⟩ <;> rw [e] <;> simp [e2] <;> omega

/-- Elements j and j - 1 change places. -/
def swp (es : List (Nat → Int)) (j : Nat) : List (Nat → Int) := (es.set j (fld es (j - 1))).set (j - 1) (fld es j)
theorem swp_len (es : List (Nat → Int)) (j : Nat) : (swp es j).length = es.length := by simp [swp]
theorem fld_get {es : List (Nat → Int)} {i : Nat} (h : i < es.length) : fld es i = es[i] := by
  funext j
  simp [fld, List.getD_eq_getElem?_getD, List.getElem?_eq_getElem h]
theorem swp_perm {es : List (Nat → Int)} {j : Nat} (h0 : 0 < j) (h : j < es.length) : (swp es j).Perm es := by
  have h1 := @List.set_set_perm _ es j (j - 1) h (by omega)
  unfold swp
  rw [fld_get h, fld_get (show j - 1 < es.length by omega)]
  exact h1
theorem fld_set_same {es : List (Nat → Int)} {i : Nat} {x : Nat → Int} (h : i < es.length) : fld (es.set i x) i = x := by
  funext j
  simp [fld, List.getD_eq_getElem?_getD, h]
theorem fld_set_other {es : List (Nat → Int)} {i k : Nat} {x : Nat → Int} (h : k ≠ i) : fld (es.set i x) k = fld es k := by
  funext j
  simp [fld, List.getD_eq_getElem?_getD, Ne.symm h]
theorem swp_at {es : List (Nat → Int)} {j : Nat} (h0 : 0 < j) (h : j < es.length) : fld (swp es j) j = fld es (j - 1) := by
  unfold swp
  rw [fld_set_other (by omega), fld_set_same h]
theorem swp_pred {es : List (Nat → Int)} {j : Nat} (h : j < es.length) : fld (swp es j) (j - 1) = fld es j := by
  unfold swp
  rw [fld_set_same (by simp; omega)]
theorem swp_other {es : List (Nat → Int)} {j k : Nat} (h1 : k ≠ j) (h2 : k ≠ j - 1) : fld (swp es j) k = fld es k := by
  unfold swp
  rw [fld_set_other h2, fld_set_other h1]
theorem ltP_asymm {a b : Nat → Int} (h : ltP a b) : ¬ ltP b a := fun h2 => by unfold ltP at h h2; omega
theorem ltP_trans_not {a b c : Nat → Int} (h1 : ¬ ltP b a) (h2 : ¬ ltP c b) : ¬ ltP c a := fun h => by unfold ltP at h h1 h2; omega

/-- The first i elements stand in order. -/
def Srt (es : List (Nat → Int)) (i : Nat) : Prop := ∀ q, q + 1 < i → ¬ ltP (fld es (q + 1)) (fld es q)
/-- The first i + 1 elements stand in order but for element j, which may belong further ahead. -/
def Mid (es : List (Nat → Int)) (i j : Nat) : Prop := (∀ q, q + 1 < i + 1 → q + 1 ≠ j → ¬ ltP (fld es (q + 1)) (fld es q)) ∧ (0 < j → j < i → ¬ ltP (fld es (j + 1)) (fld es (j - 1)))
theorem Mid.start {es : List (Nat → Int)} {i : Nat} (h : Srt es i) : Mid es i i := ⟨fun q h1 h2 => h q (by omega), fun _ h => absurd h (by omega)⟩
theorem Mid.stop {es : List (Nat → Int)} {i j : Nat} (h : Mid es i j) (h2 : j = 0 ∨ ¬ ltP (fld es j) (fld es (j - 1))) : Srt es (i + 1) := fun q hq => by
  by_cases h3 : q + 1 = j
  · rcases h2 with h2 | h2
    · omega
    · rw [← h3] at h2
      exact h2
  · exact h.1 q hq h3
theorem Mid.step {es : List (Nat → Int)} {i j : Nat} (h : Mid es i j) (h0 : 0 < j) (hj : j ≤ i) (hi : i < es.length) (hl : ltP (fld es j) (fld es (j - 1))) : Mid (swp es j) i (j - 1) := by
  have hjl : j < es.length := by omega
  refine ⟨fun q hq hne => ?_, fun h1 h2 => ?_⟩
  · by_cases h3 : q + 1 = j
    · rw [h3, swp_at h0 hjl, show q = j - 1 by omega, swp_pred hjl]
      exact ltP_asymm hl
    · by_cases h4 : q = j
      · rw [h4, swp_at h0 hjl, swp_other (by omega) (by omega)]
        exact h.2 h0 (by omega)
      · rw [swp_other (k := q + 1) h3 hne, swp_other (k := q) h4 (by omega)]
        exact h.1 q hq h3
  · rw [show j - 1 + 1 = j by omega, swp_at h0 hjl, swp_other (k := j - 1 - 1) (by omega) (by omega)]
    have h5 := h.1 (j - 1 - 1) (by omega) (by omega)
    rw [show j - 1 - 1 + 1 = j - 1 by omega] at h5
    exact h5
theorem Srt.pair {es : List (Nat → Int)} (h : Srt es es.length) : ∀ a b, a < b → b < es.length → ¬ ltP (fld es b) (fld es a)
  | a, 0, hab, _ => absurd hab (by omega)
  | a, b + 1, hab, hb => by
    rcases Nat.lt_or_ge a b with h1 | h1
    · exact ltP_trans_not (Srt.pair h a b h1 (by omega)) (h b hb)
    · obtain rfl : a = b := by omega
      exact h a hb
/-- Two lists in order, of the same pins, no two of which have one number, are one. -/
theorem srt_uniq {e1 e2 : List (Nat → Int)} (h1 : Srt e1 e1.length) (h2 : Srt e2 e2.length) (hp : e1.Perm e2) (hn : (e1.map fun e => e 1).Nodup) : e1 = e2 := by
  have hne : ∀ a b : Nat → Int, a ∈ e1 → b ∈ e1 → a 1 = b 1 → a = b := fun a b ha hb hab => by
    obtain ⟨i, hi, rfl⟩ := List.mem_iff_getElem.1 ha
    obtain ⟨j, hj, rfl⟩ := List.mem_iff_getElem.1 hb
    unfold List.Nodup at hn
    rw [List.pairwise_iff_getElem] at hn
    rcases Nat.lt_trichotomy i j with h | h | h
    · have := hn i j (by simpa using hi) (by simpa using hj) h
      simp at this
      exact absurd hab this
    · subst h; rfl
    · have := hn j i (by simpa using hj) (by simpa using hi) h
      simp at this
      exact absurd hab.symm this
  have pw : ∀ e : List (Nat → Int), Srt e e.length → e.Pairwise (fun a b => ¬ ltP b a) := fun e h => by
    rw [List.pairwise_iff_getElem]
    intro i j hi hj hij
    have := Srt.pair h i j hij hj
    rw [fld_get hi, fld_get hj] at this
    exact this
  refine List.Perm.eq_of_pairwise (le := fun a b => ¬ ltP b a) (fun a b ha hb hab hba => ?_) (pw e1 h1) (pw e2 h2) hp
  exact hne a b ha (hp.mem_iff.2 hb) (by unfold ltP at hab hba; omega)
end Go.Proofs.Ytfilagmboeeclaa
