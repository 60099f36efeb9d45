/-
  Two sorted blocks of a row are merged by turning a middle part, plain. No conditions.
-/
import Derived.Test.YtjlmcppkafjniaaGreatSw
import Derived.Test.YtjlmcppkafjniaaGreatCe
namespace Go.Proofs.YtjlmcppkafjniaaGreat
open Go.RowKit

/-- The first block is the greater: the second one is exchanged with the first one's head. -/
theorem rot_gt {cur' cur : List (Nat → Int)} {p m i j : Nat} (hp : p + i = m) (hij : j < i) (hl : m + j ≤ cur.length) (h : SwR cur' cur p m j) : rotL cur' (p + j) m (m + j) = rotL cur p m (m + j) := by
  obtain ⟨hlen, h1, h2, h3⟩ := h
  refine ext_fld (by rw [rotL_len (by omega) (by omega) (by omega), rotL_len (by omega) (by omega) (by omega), hlen]) (fun t _ => ?_)
  by_cases c1 : t < p
  · rw [rotL_lo (by omega) (by omega) (by omega) (by omega), rotL_lo (by omega) (by omega) (by omega) c1, h3 t (by omega) (by omega)]
  by_cases c2 : t < p + j
  · obtain ⟨s, rfl⟩ : ∃ s, t = p + s := ⟨t - p, by omega⟩
    rw [rotL_lo (by omega) (by omega) (by omega) c2, rotL_fst (by omega) (by omega) (by omega) (by omega), h1 s (by omega)]
  by_cases c3 : t < p + j + j
  · obtain ⟨s, rfl⟩ : ∃ s, t = p + j + s := ⟨t - (p + j), by omega⟩
    have hr := rotL_snd (es := cur) (a := p) (m := m) (b := m + j) (i := s) (by omega) (by omega) (by omega) (by omega)
    rw [show p + (m + j - m) + s = p + j + s by omega] at hr
    rw [rotL_fst (by omega) (by omega) (by omega) (by omega), hr, h2 s (by omega)]
  by_cases c4 : t < m + j
  · obtain ⟨s, rfl⟩ : ∃ s, t = p + j + j + s := ⟨t - (p + j + j), by omega⟩
    have hr := rotL_snd (es := cur) (a := p) (m := m) (b := m + j) (i := j + s) (by omega) (by omega) (by omega) (by omega)
    have hq := rotL_snd (es := cur') (a := p + j) (m := m) (b := m + j) (i := s) (by omega) (by omega) (by omega) (by omega)
    rw [show p + (m + j - m) + (j + s) = p + j + j + s by omega] at hr
    rw [show p + j + (m + j - m) + s = p + j + j + s by omega] at hq
    rw [hr, hq, show p + (j + s) = p + j + s by omega, h3 (p + j + s) (by omega) (by omega)]
  · rw [rotL_hi (by omega) (by omega) (by omega) (by omega), rotL_hi (by omega) (by omega) (by omega) (by omega), h3 t (by omega) (by omega)]
/-- The second block is the greater: the first one is exchanged with the second one's tail. -/
theorem rot_lt {cur' cur : List (Nat → Int)} {p m i j : Nat} (hp : p + i = m) (hij : i < j) (hl : m + j ≤ cur.length) (h : SwR cur' cur p (m + (j - i)) i) : rotL cur' p m (m + (j - i)) = rotL cur p m (m + j) := by
  obtain ⟨hlen, h1, h2, h3⟩ := h
  refine ext_fld (by rw [rotL_len (by omega) (by omega) (by omega), rotL_len (by omega) (by omega) (by omega), hlen]) (fun t _ => ?_)
  by_cases c1 : t < p
  · rw [rotL_lo (by omega) (by omega) (by omega) c1, rotL_lo (by omega) (by omega) (by omega) c1, h3 t (by omega) (by omega)]
  by_cases c2 : t < p + (j - i)
  · obtain ⟨s, rfl⟩ : ∃ s, t = p + s := ⟨t - p, by omega⟩
    rw [rotL_fst (by omega) (by omega) (by omega) (by omega), rotL_fst (by omega) (by omega) (by omega) (by omega), h3 (m + s) (by omega) (by omega)]
  by_cases c3 : t < p + j
  · obtain ⟨s, rfl⟩ : ∃ s, t = p + (j - i) + s := ⟨t - (p + (j - i)), by omega⟩
    have hq := rotL_snd (es := cur') (a := p) (m := m) (b := m + (j - i)) (i := s) (by omega) (by omega) (by omega) (by omega)
    rw [show p + (m + (j - i) - m) + s = p + (j - i) + s by omega] at hq
    have hr := rotL_fst (es := cur) (a := p) (m := m) (b := m + j) (i := j - i + s) (by omega) (by omega) (by omega) (by omega)
    rw [show p + (j - i + s) = p + (j - i) + s by omega] at hr
    rw [hq, hr, h1 s (by omega), show m + (j - i) + s = m + (j - i + s) by omega]
  by_cases c4 : t < m + j
  · obtain ⟨s, rfl⟩ : ∃ s, t = m + (j - i) + s := ⟨t - (m + (j - i)), by omega⟩
    have hr := rotL_snd (es := cur) (a := p) (m := m) (b := m + j) (i := s) (by omega) (by omega) (by omega) (by omega)
    rw [show p + (m + j - m) + s = m + (j - i) + s by omega] at hr
    rw [rotL_hi (by omega) (by omega) (by omega) (by omega), hr, h2 s (by omega)]
  · rw [rotL_hi (by omega) (by omega) (by omega) (by omega), rotL_hi (by omega) (by omega) (by omega) (by omega), h3 t (by omega) (by omega)]
/-- Blocks of one size: one exchange. -/
theorem rot_eq {cur' cur : List (Nat → Int)} {p m i : Nat} (hp : p + i = m) (hl : m + i ≤ cur.length) (h : SwR cur' cur p m i) : cur' = rotL cur p m (m + i) := by
  obtain ⟨hlen, h1, h2, h3⟩ := h
  refine ext_fld (by rw [rotL_len (by omega) (by omega) (by omega), hlen]) (fun t _ => ?_)
  by_cases c1 : t < p
  · rw [rotL_lo (by omega) (by omega) (by omega) c1, h3 t (by omega) (by omega)]
  by_cases c2 : t < m
  · obtain ⟨s, rfl⟩ : ∃ s, t = p + s := ⟨t - p, by omega⟩
    rw [rotL_fst (by omega) (by omega) (by omega) (by omega), h1 s (by omega)]
  by_cases c3 : t < m + i
  · obtain ⟨s, rfl⟩ : ∃ s, t = m + s := ⟨t - m, by omega⟩
    have hr := rotL_snd (es := cur) (a := p) (m := m) (b := m + i) (i := s) (by omega) (by omega) (by omega) (by omega)
    rw [show p + (m + i - m) + s = m + s by omega] at hr
    rw [hr, h2 s (by omega)]
  · rw [rotL_hi (by omega) (by omega) (by omega) (by omega), h3 t (by omega) (by omega)]
end Go.Proofs.YtjlmcppkafjniaaGreat

namespace Go.Proofs.YtjlmcppkafjniaaGreat
open Go.RowKit

theorem SrtR.pair {es : List (Nat → Int)} {a b : Nat} (h : SrtR es a b) : ∀ d i, a ≤ i → i + d < b → ¬ ltP (fld es (i + d)) (fld es i)
  | 0, i, _, _ => by
    show ¬ ltP (fld es i) (fld es i)
    unfold ltP
    omega
  | d + 1, i, ha, hb => by
    have h1 := SrtR.pair h d i ha (by omega)
    have h2 := h (i + d) (by omega) (by omega)
    exact ltP_trans_not h1 h2
theorem SrtR.le {es : List (Nat → Int)} {a b i j : Nat} (h : SrtR es a b) (ha : a ≤ i) (hij : i ≤ j) (hb : j < b) : ¬ ltP (fld es j) (fld es i) := by
  obtain ⟨d, rfl⟩ : ∃ d, j = i + d := ⟨j - i, by omega⟩
  exact h.pair d i ha hb
theorem SrtR.sub {es : List (Nat → Int)} {a b a' b' : Nat} (h : SrtR es a b) (ha : a ≤ a') (hb : b' ≤ b) : SrtR es a' b' := fun q h1 h2 => h q (by omega) (by omega)
theorem SrtR.out {es es' : List (Nat → Int)} {a b a' b' : Nat} (h : SrtR es a b) (ho : OutR es' es a' b') (hd : b ≤ a' ∨ b' ≤ a) : SrtR es' a b := fun q h1 h2 => by
  rw [ho q (by omega), ho (q + 1) (by omega)]
  exact h q h1 h2
theorem OutR.wide {es es' : List (Nat → Int)} {a b a' b' : Nat} (h : OutR es' es a' b') (ha : a ≤ a') (hb : b' ≤ b) : OutR es' es a b := fun q hq => h q (by omega)
/-- Every element of a turned row. -/
theorem rotL_at {es : List (Nat → Int)} {a m b t : Nat} (h1 : a ≤ m) (h2 : m ≤ b) (h3 : b ≤ es.length) : fld (rotL es a m b) t = fld es (if t < a then t else if t < a + (b - m) then m + (t - a) else if t < b then t - (b - m) else t) := by
  by_cases c1 : t < a
  · rw [if_pos c1, rotL_lo h1 h2 h3 c1]
  rw [if_neg c1]
  by_cases c2 : t < a + (b - m)
  · have h := rotL_fst (es := es) (i := t - a) h1 h2 h3 (by omega)
    rw [show a + (t - a) = t by omega] at h
    rw [if_pos c2, h]
  rw [if_neg c2]
  by_cases c3 : t < b
  · have h := rotL_snd (es := es) (i := t - a - (b - m)) h1 h2 h3 (by omega)
    rw [show a + (b - m) + (t - a - (b - m)) = t by omega] at h
    rw [if_pos c3, h, show a + (t - a - (b - m)) = t - (b - m) by omega]
  rw [if_neg c3, rotL_hi h1 h2 h3 (by omega)]
theorem rotL_1 {es : List (Nat → Int)} {a m b t : Nat} (h1 : a ≤ m) (h2 : m ≤ b) (h3 : b ≤ es.length) (c : t < a) : fld (rotL es a m b) t = fld es t := by
  rw [rotL_at h1 h2 h3, if_pos c]
theorem rotL_2 {es : List (Nat → Int)} {a m b t : Nat} (h1 : a ≤ m) (h2 : m ≤ b) (h3 : b ≤ es.length) (c : a ≤ t) (c2 : t < a + (b - m)) : fld (rotL es a m b) t = fld es (m + (t - a)) := by
  rw [rotL_at h1 h2 h3, if_neg (by omega), if_pos c2]
theorem rotL_3 {es : List (Nat → Int)} {a m b t : Nat} (h1 : a ≤ m) (h2 : m ≤ b) (h3 : b ≤ es.length) (c : a + (b - m) ≤ t) (c2 : t < b) : fld (rotL es a m b) t = fld es (t - (b - m)) := by
  rw [rotL_at h1 h2 h3, if_neg (by omega), if_neg (by omega), if_pos c2]
theorem rotL_4 {es : List (Nat → Int)} {a m b t : Nat} (h1 : a ≤ m) (h2 : m ≤ b) (h3 : b ≤ es.length) (c : b ≤ t) : fld (rotL es a m b) t = fld es t := by
  rw [rotL_at h1 h2 h3, if_neg (by omega), if_neg (by omega), if_neg (by omega)]
theorem rotL_nil {es : List (Nat → Int)} {a m : Nat} (h1 : a ≤ m) (h3 : m ≤ es.length) : rotL es a m m = es := by
  refine ext_fld (rotL_len h1 (Nat.le_refl _) h3) (fun t _ => ?_)
  rw [rotL_at h1 (Nat.le_refl _) h3]
  congr 1
  split
  · rfl
  · split
    · omega
    · split <;> omega
theorem rotL_nil2 {es : List (Nat → Int)} {m b : Nat} (h1 : m ≤ b) (h3 : b ≤ es.length) : rotL es m m b = es := by
  refine ext_fld (rotL_len (Nat.le_refl _) h1 h3) (fun t _ => ?_)
  rw [rotL_at (Nat.le_refl _) h1 h3]
  congr 1
  split
  · rfl
  · split
    · omega
    · split <;> omega
theorem rotL_out {es : List (Nat → Int)} {a m b : Nat} (h1 : a ≤ m) (h2 : m ≤ b) (h3 : b ≤ es.length) : OutR (rotL es a m b) es a b := fun q hq => by
  rw [rotL_at h1 h2 h3]
  congr 1
  rcases hq with hq | hq
  · rw [if_pos hq]
  · rw [if_neg (by omega), if_neg (by omega), if_neg (by omega)]
/-- One element is carried on by one place. -/
theorem rotL_up {es : List (Nat → Int)} {a k : Nat} (hk : a + 1 ≤ k) (h : k < es.length) : swp (rotL es a (a + 1) k) k = rotL es a (a + 1) (k + 1) := by
  have hl := rotL_len (es := es) (a := a) (m := a + 1) (b := k) (by omega) hk (by omega)
  have h1 : a ≤ a + 1 := by omega
  have h3 : k ≤ es.length := by omega
  have h4 : a + 1 ≤ k + 1 := by omega
  have h5 : k + 1 ≤ es.length := by omega
  refine ext_fld (by rw [swp_len, hl, rotL_len h1 h4 h5]) (fun t _ => ?_)
  by_cases e1 : t = k
  · subst e1
    rw [swp_at (by omega) (by omega), rotL_3 (t := t - 1) h1 hk h3 (by omega) (by omega), rotL_3 (t := t) h1 h4 h5 (by omega) (by omega)]
    congr 1
    omega
  by_cases e2 : t = k - 1
  · subst e2
    rw [swp_pred (by omega), rotL_4 (t := k) h1 hk h3 (by omega), rotL_2 (t := k - 1) h1 h4 h5 (by omega) (by omega)]
    congr 1
    omega
  rw [swp_other e1 e2]
  by_cases c1 : t < a
  · rw [rotL_1 h1 hk h3 c1, rotL_1 h1 h4 h5 c1]
  by_cases c2 : t < k - 1
  · rw [rotL_2 h1 hk h3 (by omega) (by omega), rotL_2 h1 h4 h5 (by omega) (by omega)]
  rw [rotL_4 h1 hk h3 (by omega), rotL_4 h1 h4 h5 (by omega)]
/-- One element is carried back by one place. -/
theorem rotL_down {es : List (Nat → Int)} {m k : Nat} (hk0 : 0 < k) (hk : k ≤ m) (h : m < es.length) : swp (rotL es k m (m + 1)) k = rotL es (k - 1) m (m + 1) := by
  have hl := rotL_len (es := es) (a := k) (m := m) (b := m + 1) hk (by omega) (by omega)
  have h1 : m ≤ m + 1 := by omega
  have h3 : m + 1 ≤ es.length := by omega
  have h4 : k - 1 ≤ m := by omega
  refine ext_fld (by rw [swp_len, hl, rotL_len h4 h1 h3]) (fun t _ => ?_)
  by_cases e1 : t = k
  · subst e1
    rw [swp_at (by omega) (by omega), rotL_1 (t := t - 1) hk h1 h3 (by omega), rotL_3 (t := t) h4 h1 h3 (by omega) (by omega)]
    congr 1
    omega
  by_cases e2 : t = k - 1
  · subst e2
    rw [swp_pred (by omega), rotL_2 (t := k) hk h1 h3 (by omega) (by omega), rotL_2 (t := k - 1) h4 h1 h3 (by omega) (by omega)]
    congr 1
    omega
  rw [swp_other e1 e2]
  by_cases c1 : t < k - 1
  · rw [rotL_1 hk h1 h3 (by omega), rotL_1 h4 h1 h3 c1]
  by_cases c2 : t < m + 1
  · rw [rotL_3 hk h1 h3 (by omega) c2, rotL_3 h4 h1 h3 (by omega) c2]
  rw [rotL_4 hk h1 h3 (by omega), rotL_4 h4 h1 h3 (by omega)]
/-- What a merge of two sorted blocks leaves. -/
def MrgD (es' es : List (Nat → Int)) (a b : Nat) : Prop := es'.length = es.length ∧ Stb es' es ∧ SrtR es' a b ∧ OutR es' es a b
/-- A block of one element, ahead of a sorted block. -/
theorem mrg_one {es : List (Nat → Int)} {a b i : Nat} (hs : SrtR es (a + 1) b) (hb : b ≤ es.length) (hi : a + 1 ≤ i) (hib : i ≤ b) (h1 : i = a + 1 ∨ ltP (fld es (i - 1)) (fld es a)) (h2 : i = b ∨ ¬ ltP (fld es i) (fld es a)) : MrgD (rotL es a (a + 1) i) es a b := by
  have g1 : a ≤ a + 1 := by omega
  have g3 : i ≤ es.length := by omega
  refine ⟨rotL_len g1 hi g3, rotL_stb g1 hi g3 (fun p q p1 p2 q1 q2 => ?_), fun q h3 h4 => ?_, (rotL_out g1 hi g3).wide (Nat.le_refl _) hib⟩
  · obtain rfl : p = a := by omega
    have h := hs.le (i := q) (j := i - 1) q1 (by omega) (by omega)
    have h5 := h1.resolve_left (by omega)
    unfold ltP at h h5 ⊢
    omega
  · by_cases c1 : q + 1 < i - 1
    · rw [rotL_2 (t := q + 1) g1 hi g3 (by omega) (by omega), rotL_2 (t := q) g1 hi g3 (by omega) (by omega), show a + 1 + (q + 1 - a) = a + 1 + (q - a) + 1 by omega]
      exact hs _ (by omega) (by omega)
    by_cases c2 : q + 1 = i - 1
    · rw [rotL_3 (t := q + 1) g1 hi g3 (by omega) (by omega), rotL_2 (t := q) g1 hi g3 (by omega) (by omega), show q + 1 - (i - (a + 1)) = a by omega, show a + 1 + (q - a) = i - 1 by omega]
      exact ltP_asymm (h1.resolve_left (by omega))
    by_cases c3 : q + 1 = i
    · rw [rotL_4 (t := q + 1) g1 hi g3 (by omega), rotL_3 (t := q) g1 hi g3 (by omega) (by omega), show q - (i - (a + 1)) = a by omega, c3]
      exact h2.resolve_left (by omega)
    · rw [rotL_4 (t := q + 1) g1 hi g3 (by omega), rotL_4 (t := q) g1 hi g3 (by omega)]
      exact hs _ (by omega) (by omega)
/-- A block of one element, behind a sorted block. -/
theorem mrg_last {es : List (Nat → Int)} {a m i : Nat} (hs : SrtR es a m) (hb : m < es.length) (hi : a ≤ i) (hib : i ≤ m) (h1 : i = a ∨ ¬ ltP (fld es m) (fld es (i - 1))) (h2 : i = m ∨ ltP (fld es m) (fld es i)) : MrgD (rotL es i m (m + 1)) es a (m + 1) := by
  have g1 : m ≤ m + 1 := by omega
  have g3 : m + 1 ≤ es.length := by omega
  refine ⟨rotL_len hib g1 g3, rotL_stb hib g1 g3 (fun p q p1 p2 q1 q2 => ?_), fun q h3 h4 => ?_, (rotL_out hib g1 g3).wide hi (Nat.le_refl _)⟩
  · obtain rfl : q = m := by omega
    have h := hs.le (i := i) (j := p) hi p1 p2
    have h5 := h2.resolve_left (by omega)
    unfold ltP at h h5 ⊢
    omega
  · by_cases c1 : q + 1 < i
    · rw [rotL_1 (t := q + 1) hib g1 g3 (by omega), rotL_1 (t := q) hib g1 g3 (by omega)]
      exact hs _ h3 (by omega)
    by_cases c2 : q + 1 = i
    · rw [rotL_2 (t := q + 1) hib g1 g3 (by omega) (by omega), rotL_1 (t := q) hib g1 g3 (by omega), show m + (q + 1 - i) = m by omega, show q = i - 1 by omega]
      exact h1.resolve_left (by omega)
    by_cases c3 : q = i
    · rw [rotL_3 (t := q + 1) hib g1 g3 (by omega) (by omega), rotL_2 (t := q) hib g1 g3 (by omega) (by omega), show q + 1 - (m + 1 - m) = i by omega, show m + (q - i) = m by omega]
      exact ltP_asymm (h2.resolve_left (by omega))
    · rw [rotL_3 (t := q + 1) hib g1 g3 (by omega) (by omega), rotL_3 (t := q) hib g1 g3 (by omega) (by omega), show q + 1 - (m + 1 - m) = q - (m + 1 - m) + 1 by omega]
      exact hs _ (by omega) (by omega)
/-- The elements of a part of a row that was sorted in that part stand in that part. -/
theorem stb_blk {es' es : List (Nat → Int)} {a b : Nat} (hab : a ≤ b) (hb : b ≤ es.length) (hl : es'.length = es.length) (hs : Stb es' es) (ho : OutR es' es a b) : Stb (blk es' a b) (blk es a b) := fun u v => by
  have h := hs u v
  rw [split_blk (es := es') (a := a) (m := b) (b := b) hab (Nat.le_refl _) (by omega), split_blk (es := es) (a := a) (m := b) (b := b) hab (Nat.le_refl _) hb] at h
  have e1 : es'.take a = es.take a := ext_fld (by simp [hl]) (fun i hi => by
    rw [List.length_take] at hi
    rw [fld_takeF (by omega), fld_takeF (by omega)]
    exact ho i (by omega))
  have e2 : es'.drop b = es.drop b := ext_fld (by simp [hl]) (fun i hi => by
    rw [fld_dropF, fld_dropF]
    exact ho _ (by omega))
  have e3 : blk es' b b = [] := by unfold blk; simp
  have e4 : blk es b b = [] := by unfold blk; simp
  rw [e1, e2, e3, e4] at h
  simp only [List.filter_append, List.nil_append] at h
  exact List.append_cancel_right (List.append_cancel_left h)
theorem stb_at {es' es : List (Nat → Int)} {a b i : Nat} (hab : a ≤ b) (hb : b ≤ es.length) (hl : es'.length = es.length) (hs : Stb es' es) (ho : OutR es' es a b) (h1 : a ≤ i) (h2 : i < b) : ∃ j, a ≤ j ∧ j < b ∧ fld es j = fld es' i := by
  have h := stb_blk hab hb hl hs ho
  have hm : fld es' i ∈ blk es' a b := by
    have e : fld (blk es' a b) (i - a) = fld es' i := by rw [blk_fld (by omega), show a + (i - a) = i by omega]
    rw [← e, fld_get (by rw [blk_len (by omega)]; omega)]
    exact List.getElem_mem _
  exact blk_mem hb (h.mem hm)
/-- A row whose two halves part all that is less from all that is more. -/
def ParD (es' es : List (Nat → Int)) (a s d e b : Nat) : Prop := es'.length = es.length ∧ Stb es' es ∧ OutR es' es a b ∧ SrtR es' a s ∧ SrtR es' s d ∧ SrtR es' d e ∧ SrtR es' e b ∧ ∀ q t, a ≤ q → q < d → d ≤ t → t < b → ¬ ltP (fld es' t) (fld es' q)
theorem mrg_mid {es : List (Nat → Int)} {a m b s e d : Nat} (h1 : SrtR es a m) (h2 : SrtR es m b) (hb : b ≤ es.length) (has : a ≤ s) (hsm : s ≤ m) (hme : m ≤ e) (heb : e ≤ b) (hd : d = s + (e - m)) (hA : s = a ∨ e = b ∨ ¬ ltP (fld es e) (fld es (s - 1))) (hB : s = m ∨ e = m ∨ ltP (fld es (e - 1)) (fld es s)) : ParD (rotL es s m e) es a s d e b := by
  have hx : ∀ p q, s ≤ p → p < m → m ≤ q → q < e → ltP (fld es q) (fld es p) := fun p q p1 p2 q1 q2 => by
    have g1 := h1.le (i := s) (j := p) has p1 p2
    have g2 := h2.le (i := q) (j := e - 1) q1 (by omega) (by omega)
    have g3 := (hB.resolve_left (by omega)).resolve_left (by omega)
    unfold ltP at g1 g2 g3 ⊢
    omega
  have hle : e ≤ es.length := by omega
  refine ⟨rotL_len hsm hme hle, rotL_stb hsm hme hle hx, (rotL_out hsm hme hle).wide has heb, fun q q1 q2 => ?_, fun q q1 q2 => ?_, fun q q1 q2 => ?_, fun q q1 q2 => ?_, fun q t q1 q2 t1 t2 => ?_⟩
  · rw [rotL_1 (t := q + 1) hsm hme hle (by omega), rotL_1 (t := q) hsm hme hle (by omega)]
    exact h1 q q1 (by omega)
  · rw [rotL_2 (t := q + 1) hsm hme hle (by omega) (by omega), rotL_2 (t := q) hsm hme hle (by omega) (by omega), show m + (q + 1 - s) = m + (q - s) + 1 by omega]
    exact h2 _ (by omega) (by omega)
  · rw [rotL_3 (t := q + 1) hsm hme hle (by omega) (by omega), rotL_3 (t := q) hsm hme hle (by omega) (by omega), show q + 1 - (e - m) = q - (e - m) + 1 by omega]
    exact h1 _ (by omega) (by omega)
  · rw [rotL_4 (t := q + 1) hsm hme hle (by omega), rotL_4 (t := q) hsm hme hle (by omega)]
    exact h2 _ (by omega) (by omega)
  · by_cases c1 : q < s
    · rw [rotL_1 (t := q) hsm hme hle c1]
      by_cases c2 : t < e
      · rw [rotL_3 (t := t) hsm hme hle (by omega) c2]
        exact h1.le q1 (by omega) (by omega)
      · rw [rotL_4 (t := t) hsm hme hle (by omega)]
        have g1 := h1.le (i := q) (j := s - 1) q1 (by omega) (by omega)
        have g2 := h2.le (i := e) (j := t) hme (by omega) t2
        have g3 := (hA.resolve_left (by omega)).resolve_left (by omega)
        unfold ltP at g1 g2 g3 ⊢
        omega
    · rw [rotL_2 (t := q) hsm hme hle (by omega) (by omega)]
      by_cases c2 : t < e
      · rw [rotL_3 (t := t) hsm hme hle (by omega) c2]
        exact ltP_asymm (hx _ _ (by omega) (by omega) (by omega) (by omega))
      · rw [rotL_4 (t := t) hsm hme hle (by omega)]
        exact h2.le (by omega) (by omega) t2
/-- Both halves are sorted: the whole is. -/
theorem ParD.done {es3 es4 es5 es : List (Nat → Int)} {a s d e b : Nat} (h : ParD es3 es a s d e b) (had : a ≤ d) (hdb : d ≤ b) (hb : b ≤ es.length) (h4 : MrgD es4 es3 a d) (h5 : MrgD es5 es4 d b) : MrgD es5 es a b := by
  obtain ⟨l3, p3, o3, _, _, _, _, hx⟩ := h
  obtain ⟨l4, p4, s4, o4⟩ := h4
  obtain ⟨l5, p5, s5, o5⟩ := h5
  refine ⟨l5.trans (l4.trans l3), p5.trans (p4.trans p3), fun q q1 q2 => ?_, (o5.wide had (Nat.le_refl _)).trans ((o4.wide (Nat.le_refl _) hdb).trans o3)⟩
  by_cases c1 : q + 1 < d
  · rw [o5 q (by omega), o5 (q + 1) (by omega)]
    exact s4 q q1 c1
  by_cases c2 : d ≤ q
  · exact s5 q c2 q2
  rw [o5 q (by omega)]
  obtain ⟨i, i1, i2, ei⟩ := stb_at (i := q) had (by omega) l4 p4 o4 q1 (by omega)
  obtain ⟨j, j1, j2, ej⟩ := stb_at (i := q + 1) hdb (by omega) l5 p5 o5 (by omega) q2
  rw [← ei, ← ej, o4 j (by omega)]
  exact hx i j i1 i2 j1 j2
/-- What symMergeCmpFunc leaves. -/
def SymD (B K n a b : Nat) (A : Option Addr) (es : List (Nat → Int)) (w : World) (y : Ending) (w' : World) : Prop := y = .returned (.tuple #[]) ∧ ∃ es', Own B w' K A n es' ∧ MrgD es' es a b ∧ Below B w w'
theorem swx_up (es : List (Nat → Int)) (k : Nat) : swx es k (k + 1) = swp es (k + 1) := by
  unfold swx swp
  rw [show k + 1 - 1 = k by omega]
  exact List.set_comm _ _ (by omega)
theorem MrgD.refl {es : List (Nat → Int)} {a b : Nat} (h : SrtR es a b) : MrgD es es a b := ⟨rfl, Stb.refl _, h, OutR.refl _ _ _⟩
end Go.Proofs.YtjlmcppkafjniaaGreat
