/-
  What PinsOf comes to: the pins of a wheel in order. No conditions.
-/
import Derived.Test.YtlkladabefpnfaaWp9
import Derived.Test.YtlkladabefpnfaaSo
namespace Go.Proofs.Ytlkladabefpnfaa
open Go.RowKit

/-- The first k pins of the list, put in one by one where they belong. -/
def sortL (es : List (Nat → Int)) : Nat → List (Nat → Int)
  | 0 => []
  | k + 1 => insL (sortL es k) (plcP (sortL es k) (fld es k) k) (fld es k)
theorem sortL_len (es : List (Nat → Int)) : ∀ k, (sortL es k).length = k
  | 0 => rfl
  | k + 1 => insL_len (sortL_len es k) plcP_le
theorem insL_perm (es : List (Nat → Int)) (k : Nat) (p : Nat → Int) : (insL es k p).Perm (p :: es) := by
  unfold insL
  refine List.perm_middle.trans ?_
  rw [List.take_append_drop]
theorem sortL_perm {es : List (Nat → Int)} : ∀ {k : Nat}, k ≤ es.length → (sortL es k).Perm (es.take k)
  | 0, _ => by simp [sortL]
  | k + 1, h => by
    refine (insL_perm _ _ _).trans ?_
    rw [List.take_add_one, List.getElem?_eq_getElem (by omega), fld_get (show k < es.length by omega)]
    exact ((sortL_perm (by omega)).cons _).trans (List.perm_append_singleton _ _).symm
theorem fld_insL_lt {es : List (Nat → Int)} {p : Nat → Int} {k i : Nat} (h : i < k) (hk : k ≤ es.length) : fld (insL es k p) i = fld es i := by
  funext j
  unfold fld insL
  rw [List.getD_eq_getElem?_getD, List.getD_eq_getElem?_getD, List.getElem?_append_left (by rw [List.length_take]; omega), List.getElem?_take_of_lt h]
theorem fld_insL_at {es : List (Nat → Int)} {p : Nat → Int} {k : Nat} (hk : k ≤ es.length) : fld (insL es k p) k = p := by
  funext j
  unfold fld insL
  rw [List.getD_eq_getElem?_getD, List.getElem?_append_right (by rw [List.length_take]; omega), List.length_take, Nat.min_eq_left (by omega), Nat.sub_self]
  rfl
theorem fld_insL_gt {es : List (Nat → Int)} {p : Nat → Int} {k i : Nat} (h : k ≤ i) (hk : k ≤ es.length) : fld (insL es k p) (i + 1) = fld es i := by
  funext j
  unfold fld insL
  rw [List.getD_eq_getElem?_getD, List.getD_eq_getElem?_getD, List.getElem?_append_right (by rw [List.length_take]; omega), List.length_take, Nat.min_eq_left (by omega), show i + 1 - k = (i - k) + 1 by omega, List.getElem?_cons_succ, List.getElem?_drop, show k + (i - k) = i by omega]
theorem plcP_lt {es : List (Nat → Int)} {p : Nat → Int} {n i : Nat} (h : i < plcP es p n) : ltP (fld es i) p := by
  unfold plcP at h
  split at h
  · rename_i hx
    have := ixOf_none hx i h
    simpa using this
  · rename_i k hk
    have := (ixOf_some hk).2.2 i h
    simpa using this
theorem plcP_at {es : List (Nat → Int)} {p : Nat → Int} {n : Nat} (h : plcP es p n < n) : ¬ ltP (fld es (plcP es p n)) p := by
  rcases hx : ixOf (fun i => !decide (ltP (fld es i) p)) n with _ | k
  · simp [plcP, hx] at h
  · have e : plcP es p n = k := by simp [plcP, hx]
    rw [e]
    have := (ixOf_some hx).2.1
    simpa using this
theorem ins_srt {es : List (Nat → Int)} {p : Nat → Int} {n : Nat} (hl : es.length = n) (h : Srt es n) : Srt (insL es (plcP es p n) p) (n + 1) := by
  have hp : plcP es p n ≤ n := plcP_le
  intro q hq
  rcases Nat.lt_trichotomy (q + 1) (plcP es p n) with h1 | h1 | h1
  · rw [fld_insL_lt h1 (by omega), fld_insL_lt (by omega) (by omega)]
    exact h q (by omega)
  · have h2 : ltP (fld es q) p := plcP_lt (n := n) (by omega)
    rw [h1, fld_insL_at (by omega), fld_insL_lt (by omega) (by omega)]
    exact ltP_asymm h2
  · rcases Nat.lt_or_ge (plcP es p n) q with h3 | h3
    · rw [fld_insL_gt (by omega) (by omega)]
      obtain ⟨r, rfl⟩ : ∃ r, q = r + 1 := ⟨q - 1, by omega⟩
      rw [fld_insL_gt (by omega) (by omega)]
      exact h r (by omega)
    · have h4 : q = plcP es p n := by omega
      rw [fld_insL_gt (by omega) (by omega)]
      have h5 : fld (insL es (plcP es p n) p) q = p := by rw [h4, fld_insL_at (by omega)]
      rw [h5, h4]
      exact plcP_at (by omega)
theorem sortL_srt (es : List (Nat → Int)) : ∀ k, Srt (sortL es k) k
  | 0 => fun q hq => absurd hq (by omega)
  | k + 1 => ins_srt (sortL_len es k) (sortL_srt es k)
open Classical in
/-- The pins of a wheel in order; none if it is not well. -/
noncomputable def pinsL (N : Nat) (S : Nat → Sp) : List (Nat → Int) := if WOK N S then sortL (allS S N) (tot S N) else []
theorem pinsL_yes {N : Nat} {S : Nat → Sp} (h : WOK N S) : pinsL N S = sortL (allS S N) (tot S N) := if_pos h
theorem pinsL_no {N : Nat} {S : Nat → Sp} (h : ¬ WOK N S) : pinsL N S = [] := if_neg h
theorem pinsL_len {N : Nat} {S : Nat → Sp} : (pinsL N S).length ≤ 10 := by
  by_cases h : WOK N S
  · rw [pinsL_yes h, sortL_len]
    exact h.2.1
  · rw [pinsL_no h]
    simp
theorem pinsL_sam {N : Nat} {S S' : Nat → Sp} (h : Sam N S S') : pinsL N S = pinsL N S' := by
  by_cases hw : WOK N S
  · rw [pinsL_yes hw, pinsL_yes (hw.sam h), allS_sam h (Nat.le_refl _), h.tot (Nat.le_refl _)]
  · rw [pinsL_no hw, pinsL_no (fun h2 => hw (h2.sam h.symm))]
theorem wok_nodup {N : Nat} {S : Nat → Sp} (hl : ∀ i, i < N → (S i).es.length = (S i).n) (h : WOK N S) : ((allS S N).map fun e => e 1).Nodup := by
  unfold List.Nodup
  rw [List.pairwise_iff_getElem]
  intro i j hi hj hij
  rw [List.length_map] at hi hj
  have hlen := allS_len hl
  have h1 := (h.2.2.1 j (by omega)).2 i hij
  rw [fld_get hi, fld_get hj] at h1
  simpa using h1
/-- Any list in order of the wheel's pins is the one. -/
theorem pinsL_of {N : Nat} {S : Nat → Sp} {es : List (Nat → Int)} (hl : ∀ i, i < N → (S i).es.length = (S i).n) (h : WOK N S) (hp : es.Perm (allS S N)) (hs : Srt es es.length) : es = pinsL N S := by
  rw [pinsL_yes h]
  have hlen := allS_len hl
  have h1 : (sortL (allS S N) (tot S N)).Perm (allS S N) := by
    have h2 := sortL_perm (es := allS S N) (k := tot S N) (by omega)
    rwa [List.take_of_length_le (by omega)] at h2
  refine srt_uniq hs (by rw [sortL_len]; exact sortL_srt _ _) (hp.trans h1.symm) ?_
  exact ((hp.map (fun e => e 1)).nodup_iff).2 (wok_nodup hl h)
theorem own_of_row_cap {base : Nat} {w : World} {e : TypeId} {K n : Nat} {v : Value} {es : List (Nat → Int)} (hl : es.length = n) (h : w.ownsRow base e K v n (flat K es)) :
    ∃ A c, v = .slice A n c ∧ n ≤ c ∧ c ≤ 9223372036854775807 ∧ Own base w K A n es := by
  obtain ⟨A, c, rfl, ho⟩ := own_of_row hl h
  obtain ⟨A', c', he, h1, h2⟩ := slice_of_row h
  injection he with _ _ he
  subst he
  exact ⟨A, c, rfl, h1, h2, ho⟩
end Go.Proofs.Ytlkladabefpnfaa
