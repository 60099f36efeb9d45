/-
  Which lists of pins make a wheel: not a matter of their order. No conditions.
-/
import Derived.Test.YtndgaandcmiinaaWo
import Derived.Test.YtndgaandcmiinaaSwr
namespace Go.Proofs.Ytndgaandcmiinaa
open Go.RowKit

/-- A list of good pins of different numbers, ten at most. -/
def GoodL (es : List (Nat → Int)) : Prop := (∀ e, e ∈ es → pinR e) ∧ (es.map fun e => e 1).Nodup ∧ es.length ≤ 10
theorem GoodL.perm {es fs : List (Nat → Int)} (hp : es.Perm fs) (h : GoodL es) : GoodL fs :=
  ⟨fun e he => h.1 e (hp.mem_iff.2 he), ((hp.map (fun e => e 1)).nodup_iff).1 h.2.1, by rw [← hp.length_eq]; exact h.2.2⟩
theorem GoodL.step {es : List (Nat → Int)} (h : GoodL es) : ∀ i, i < es.length → stepL es i := fun i hi => by
  refine ⟨?_, fun j hj he => ?_⟩
  · rw [fld_get hi]
    exact h.1 _ (List.getElem_mem hi)
  · have h2 := h.2.1
    unfold List.Nodup at h2
    rw [List.pairwise_iff_getElem] at h2
    have h3 := h2 j i (by rw [List.length_map]; omega) (by rw [List.length_map]; omega) hj
    rw [fld_get hi, fld_get (show j < es.length by omega)] at he
    exact h3 (by simpa using he)
theorem GoodL.of_wok {N : Nat} {S : Nat → Sp} (hl : ∀ i, i < N → (S i).es.length = (S i).n) (h : WOK N S) : GoodL (allS S N) := by
  have hlen := allS_len hl
  refine ⟨fun e he => ?_, wok_nodup hl h, by rw [hlen]; exact h.2.1⟩
  obtain ⟨i, hi, rfl⟩ := List.getElem_of_mem he
  have := (h.2.2.1 i (by omega)).1
  rwa [fld_get hi] at this
def whl (C : Nat → List (Nat → Int)) : Nat → Sp := fun i => ⟨none, (C i).length, 0, C i⟩
theorem whl_len (C : Nat → List (Nat → Int)) (N : Nat) : ∀ i, i < N → (whl C i).es.length = (whl C i).n := fun _ _ => rfl
theorem allS_insW {S : Nat → Sp} {p : Nat → Int} : ∀ {N : Nat}, (¬ (p 0 % 9).toNat < N → allS (insW S p) N = allS S N) ∧ ((p 0 % 9).toNat < N → (allS (insW S p) N).Perm (p :: allS S N))
  | 0 => ⟨fun _ => rfl, fun h => absurd h (by omega)⟩
  | N + 1 => by
    obtain ⟨h1, h2⟩ := allS_insW (S := S) (p := p) (N := N)
    refine ⟨fun h => ?_, fun h => ?_⟩
    · simp only [allS]
      rw [h1 (by omega)]
      have : insW S p N = S N := by unfold insW updS; rw [if_neg (by omega)]
      rw [this]
    · simp only [allS]
      by_cases hk : N = (p 0 % 9).toNat
      · rw [h1 (by omega)]
        have : (insW S p N).es = insL (S N).es (plcP (S N).es p (S N).n) p := by
          unfold insW updS
          rw [if_pos hk, ← hk]
        rw [this]
        exact ((insL_perm _ _ _).append_left _).trans List.perm_middle
      · have : insW S p N = S N := by unfold insW updS; rw [if_neg hk]
        rw [this]
        exact (h2 (by omega)).append_right _
/-- A good pin goes into a good wheel that has room and lacks its number. -/
theorem wok_ins {S : Nat → Sp} {p : Nat → Int} (hl : ∀ i, i < 9 → (S i).es.length = (S i).n) (h : WOK 9 S) (hg : GoodL (p :: allS S 9)) : WOK 9 (insW S p) := by
  have hp : pinR p := hg.1 p (List.mem_cons_self)
  have hp1 := hp.1
  have hk : (p 0 % 9).toNat < 9 := by omega
  have hperm := (allS_insW (S := S) (p := p) (N := 9)).2 hk
  have hlI := insW_len (p := p) hl
  have hlenI := allS_len hlI
  have hG : GoodL (allS (insW S p) 9) := hg.perm hperm.symm
  refine ⟨rfl, by rw [← hlenI]; exact hG.2.2, fun i hi => hG.step i (by omega), fun k hk9 i hi => ?_⟩
  by_cases hkk : k = (p 0 % 9).toNat
  · have hn : (insW S p k).n = (S k).n + 1 := by unfold insW updS; rw [if_pos hkk, ← hkk]
    have he : (insW S p k).es = insL (S k).es (plcP (S k).es p (S k).n) p := by unfold insW updS; rw [if_pos hkk, ← hkk]
    have hle := hl k hk9
    have hpl := plcP_le (es := (S k).es) (p := p) (n := (S k).n)
    have hsr : Srt (S k).es (S k).n := fun q hq => by
      have h3 := (h.2.2.2 k hk9 (q + 1) hq).2 (by omega)
      exact ltP_asymm h3
    have hs2 := ins_srt (p := p) hle hsr
    unfold stepW
    rw [he]
    rw [hn] at hi
    constructor
    · rcases Nat.lt_trichotomy i (plcP (S k).es p (S k).n) with h1 | h1 | h1
      · rw [fld_insL_lt h1 (by omega)]
        exact (h.2.2.2 k hk9 i (by omega)).1
      · rw [h1, fld_insL_at (by omega)]
        omega
      · obtain ⟨r, rfl⟩ : ∃ r, i = r + 1 := ⟨i - 1, by omega⟩
        rw [fld_insL_gt (by omega) (by omega)]
        exact (h.2.2.2 k hk9 r (by omega)).1
    · intro hi0
      obtain ⟨r, rfl⟩ : ∃ r, i = r + 1 := ⟨i - 1, by omega⟩
      have h1 := hs2 r (by omega)
      have htk := tot_one (S := insW S p) hk9
      have h2 := (hG.step (tot (insW S p) k + (r + 1)) (by omega)).2 (tot (insW S p) k + r) (by omega)
      rw [allS_get hlI hk9 (by omega), allS_get hlI hk9 (by omega), he] at h2
      show ltP (fld _ (r + 1 - 1)) (fld _ (r + 1))
      rw [Nat.add_sub_cancel]
      generalize insL (S k).es (plcP (S k).es p (S k).n) p = L at h1 h2
      unfold ltP at h1 ⊢
      omega
  · have e : insW S p k = S k := by unfold insW updS; rw [if_neg hkk]
    have h3 := h.2.2.2 k hk9 i (by rw [← e]; exact hi)
    unfold stepW at h3 ⊢
    rw [e]
    exact h3
theorem stepP_some {C C' : Nat → List (Nat → Int)} {p : Nat → Int} (h : stepP C p = some C') : WOK 9 (whl C') ∧ (allS (whl C') 9).Perm (p :: allS (whl C) 9) := by
  unfold stepP at h
  split at h
  · rename_i hc
    injection h with h
    subst h
    obtain ⟨h1, h2, h3⟩ := hc
    show WOK 9 (whl fun m => (insW (whl C) p m).es) ∧ (allS (whl fun m => (insW (whl C) p m).es) 9).Perm (p :: allS (whl C) 9)
    have hk : (p 0 % 9).toNat < 9 := by omega
    have hl := insW_len (p := p) (whl_len C 9)
    have hs : Sam 9 (insW (whl C) p) (whl fun m => (insW (whl C) p m).es) := fun i hi => ⟨(hl i hi).symm, rfl⟩
    exact ⟨h3.sam hs, by rw [← allS_sam hs (Nat.le_refl _)]; exact (allS_insW (S := whl C) (p := p) (N := 9)).2 hk⟩
  · cases h
theorem stepP_good {C : Nat → List (Nat → Int)} {p : Nat → Int} (h : WOK 9 (whl C)) (hg : GoodL (p :: allS (whl C) 9)) : ∃ C', stepP C p = some C' := by
  have hp : pinR p := hg.1 p (List.mem_cons_self)
  exact ⟨_, if_pos ⟨h, hp.1.1, wok_ins (whl_len C 9) h hg⟩⟩
theorem take_succ {es : List (Nat → Int)} {k : Nat} (h : k < es.length) : es.take (k + 1) = es.take k ++ [fld es k] := by
  rw [List.take_add_one, List.getElem?_eq_getElem h]
  show _ ++ [es[k]] = _
  rw [fld_get h]
theorem wok_none : WOK 9 (whl fun _ => []) := by
  have ht : tot (whl fun _ => []) 9 = 0 := tot_zero fun _ _ => rfl
  exact ⟨rfl, by omega, fun i hi => absurd hi (by omega), fun k _ i hi => absurd hi (Nat.not_lt_zero i)⟩
theorem foldP_spec {es : List (Nat → Int)} : ∀ {k : Nat}, k ≤ es.length → (∀ C, foldP es k = some C → WOK 9 (whl C) ∧ (allS (whl C) 9).Perm (es.take k)) ∧ (GoodL (es.take k) → ∃ C, foldP es k = some C)
  | 0, _ => by
    refine ⟨fun C h => ?_, fun _ => ⟨_, rfl⟩⟩
    injection h with h
    subst h
    exact ⟨wok_none, by rw [List.take_zero]; exact List.Perm.refl _⟩
  | k + 1, hk => by
    obtain ⟨h1, h2⟩ := foldP_spec (es := es) (k := k) (by omega)
    have hpm : (es.take (k + 1)).Perm (fld es k :: es.take k) := by
      rw [take_succ hk]
      exact List.perm_append_singleton _ _
    refine ⟨fun C h => ?_, fun hg => ?_⟩
    · simp only [foldP] at h
      rcases hx : foldP es k with _ | D
      · rw [hx] at h; cases h
      · rw [hx] at h
        obtain ⟨h3, h4⟩ := stepP_some h
        exact ⟨h3, h4.trans (((h1 D hx).2.cons _).trans hpm.symm)⟩
    · have hg2 : GoodL (fld es k :: es.take k) := hg.perm hpm
      have hg3 : GoodL (es.take k) := by
        refine ⟨fun e he => hg2.1 e (List.mem_cons_of_mem _ he), ?_, ?_⟩
        · have := hg2.2.1
          simp only [List.map_cons] at this
          exact (List.nodup_cons.1 this).2
        · have := hg2.2.2
          simp only [List.length_cons] at this
          omega
      obtain ⟨D, hD⟩ := h2 hg3
      obtain ⟨h3, h4⟩ := h1 D hD
      obtain ⟨C', hC⟩ := stepP_good (p := fld es k) h3 (hg2.perm (h4.cons _).symm)
      exact ⟨C', by simp only [foldP]; rw [hD]; exact hC⟩
theorem foldP_good {es : List (Nat → Int)} {n : Nat} (hn : es.length = n) : (∃ C, foldP es n = some C) ↔ GoodL es := by
  have h := foldP_spec (es := es) (k := n) (by omega)
  have e : es.take n = es := List.take_of_length_le (by omega)
  rw [e] at h
  exact ⟨fun ⟨C, hC⟩ => (GoodL.of_wok (whl_len C 9) (h.1 C hC).1).perm (h.1 C hC).2, h.2⟩
/-- Wheels of lists that hold the same pins: both go or none; and they are the same. -/
theorem wofR_perm {es fs : List (Nat → Int)} {n N N' : Nat} {E E' : Nat → List (Nat → Int)} {b b' : Bool} (he : es.length = n) (hf : fs.length = n) (hp : es.Perm fs) (h : WofR es n N E b) (h' : WofR fs n N' E' b') :
    b' = b ∧ N' = N ∧ ((b = true ∧ N = 9) ∨ (b = false ∧ N = 0)) ∧ (b = true → ∀ S S', (∀ i, i < 9 → (S i).es.length = (S i).n) → (∀ i, i < 9 → (S' i).es.length = (S' i).n) → (∀ i, i < 9 → (S i).es = E i) → (∀ i, i < 9 → (S' i).es = E' i) → SameR 9 S 9 S' ∧ (pinsL 9 S).length = n) := by
  have hgg : GoodL es ↔ GoodL fs := ⟨GoodL.perm hp, GoodL.perm hp.symm⟩
  rcases h with ⟨rfl, rfl, C, hC, hE⟩ | ⟨rfl, rfl, hC⟩
  · have hg : GoodL es := (foldP_good he).1 ⟨C, hC⟩
    obtain ⟨D, hD⟩ := (foldP_good hf).2 (hgg.1 hg)
    rcases h' with ⟨rfl, rfl, C', hC', hE'⟩ | ⟨_, _, hC'⟩
    · refine ⟨rfl, rfl, .inl ⟨rfl, rfl⟩, fun _ S S' hl hl' hs hs' => ?_⟩
      obtain ⟨w1, p1⟩ := (foldP_spec (es := es) (k := n) (by omega)).1 C hC
      obtain ⟨w2, p2⟩ := (foldP_spec (es := fs) (k := n) (by omega)).1 C' hC'
      rw [List.take_of_length_le (by omega)] at p1 p2
      have s1 : Sam 9 (whl C) S := fun i hi => ⟨by rw [← hl i hi, hs i hi, hE i hi]; rfl, by rw [hs i hi, hE i hi]; rfl⟩
      have s2 : Sam 9 (whl C') S' := fun i hi => ⟨by rw [← hl' i hi, hs' i hi, hE' i hi]; rfl, by rw [hs' i hi, hE' i hi]; rfl⟩
      have v1 := w1.sam s1
      have v2 := w2.sam s2
      rw [allS_sam s1 (Nat.le_refl _)] at p1
      rw [allS_sam s2 (Nat.le_refl _)] at p2
      have hlen : tot S 9 = n := by rw [← allS_len hl, p1.length_eq, he]
      have q1 : (pinsL 9 S).Perm (allS S 9) := by
        rw [pinsL_yes v1]
        have h2 := sortL_perm (es := allS S 9) (k := tot S 9) (by rw [allS_len hl]; exact Nat.le_refl _)
        rwa [List.take_of_length_le (by rw [allS_len hl]; exact Nat.le_refl _)] at h2
      have hpl : (pinsL 9 S).length = n := by rw [pinsL_yes v1, sortL_len, hlen]
      have heq : pinsL 9 S = pinsL 9 S' := by
        refine pinsL_of hl' v2 (q1.trans (p1.trans (hp.trans p2.symm))) ?_
        rw [pinsL_yes v1, sortL_len]
        exact sortL_srt _ _
      exact ⟨⟨v1, v2, SamL.of_eq heq⟩, hpl⟩
    · rw [hD] at hC'; cases hC'
  · rcases h' with ⟨_, _, C', hC', _⟩ | ⟨rfl, rfl, hC'⟩
    · obtain ⟨D, hD⟩ := (foldP_good he).2 (hgg.2 ((foldP_good hf).1 ⟨C', hC'⟩))
      rw [hD] at hC; cases hC
    · exact ⟨rfl, rfl, .inr ⟨rfl, rfl⟩, fun h => by cases h⟩
end Go.Proofs.Ytndgaandcmiinaa
