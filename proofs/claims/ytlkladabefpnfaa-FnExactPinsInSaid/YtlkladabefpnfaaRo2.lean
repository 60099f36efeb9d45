/-
  The steps of rotateCmpFunc, plain. No conditions.
-/
import Derived.Test.YtlkladabefpnfaaSw
namespace Go.Proofs.Ytlkladabefpnfaa
open Go.RowKit

/-- The first block is the greater: the second one is exchanged with the first one's head. -/
theorem rot_gt {cur' cur : List (Nat → Int)} {p m i j : Nat} (hp : p + i = m) (hij : j < i) (hl : m + j ≤ cur.length) (h : SwR cur' cur p m j) : rotL cur' (p + j) m (m + j) = rotL cur p m (m + j) := by
  obtain ⟨hlen, h1, h2, h3⟩ := h
  refine ext_fld (by rw [rotL_len (by omega) (by omega) (by omega), rotL_len (by omega) (by omega) (by omega), hlen]) (fun t _ => ?_)
  by_cases c1 : t < p
  · rw [rotL_lo (by omega) (by omega) (by omega) (by omega), rotL_lo (by omega) (by omega) (by omega) c1, h3 t (by omega) (by omega)]
  by_cases c2 : t < p + j
  · obtain ⟨s, rfl⟩ : ∃ s, t = p + s := ⟨t - p, by omega⟩
    rw [rotL_lo (by omega) (by omega) (by omega) c2, rotL_fst (by omega) (by omega) (by omega) (by omega), h1 s (by omega)]
  by_cases c3 : t < p + j + j
  · obtain ⟨s, rfl⟩ : ∃ s, t = p + j + s := ⟨t - (p + j), by omega⟩
    have hr := rotL_snd (es := cur) (a := p) (m := m) (b := m + j) (i := s) (by omega) (by omega) (by omega) (by omega)
    rw [show p + (m + j - m) + s = p + j + s by omega] at hr
    rw [rotL_fst (by omega) (by omega) (by omega) (by omega), hr, h2 s (by omega)]
  by_cases c4 : t < m + j
  · obtain ⟨s, rfl⟩ : ∃ s, t = p + j + j + s := ⟨t - (p + j + j), by omega⟩
    have hr := rotL_snd (es := cur) (a := p) (m := m) (b := m + j) (i := j + s) (by omega) (by omega) (by omega) (by omega)
    have hq := rotL_snd (es := cur') (a := p + j) (m := m) (b := m + j) (i := s) (by omega) (by omega) (by omega) (by omega)
    rw [show p + (m + j - m) + (j + s) = p + j + j + s by omega] at hr
    rw [show p + j + (m + j - m) + s = p + j + j + s by omega] at hq
    rw [hr, hq, show p + (j + s) = p + j + s by omega, h3 (p + j + s) (by omega) (by omega)]
  · rw [rotL_hi (by omega) (by omega) (by omega) (by omega), rotL_hi (by omega) (by omega) (by omega) (by omega), h3 t (by omega) (by omega)]
/-- The second block is the greater: the first one is exchanged with the second one's tail. -/
theorem rot_lt {cur' cur : List (Nat → Int)} {p m i j : Nat} (hp : p + i = m) (hij : i < j) (hl : m + j ≤ cur.length) (h : SwR cur' cur p (m + (j - i)) i) : rotL cur' p m (m + (j - i)) = rotL cur p m (m + j) := by
  obtain ⟨hlen, h1, h2, h3⟩ := h
  refine ext_fld (by rw [rotL_len (by omega) (by omega) (by omega), rotL_len (by omega) (by omega) (by omega), hlen]) (fun t _ => ?_)
  by_cases c1 : t < p
  · rw [rotL_lo (by omega) (by omega) (by omega) c1, rotL_lo (by omega) (by omega) (by omega) c1, h3 t (by omega) (by omega)]
  by_cases c2 : t < p + (j - i)
  · obtain ⟨s, rfl⟩ : ∃ s, t = p + s := ⟨t - p, by omega⟩
    rw [rotL_fst (by omega) (by omega) (by omega) (by omega), rotL_fst (by omega) (by omega) (by omega) (by omega), h3 (m + s) (by omega) (by omega)]
  by_cases c3 : t < p + j
  · obtain ⟨s, rfl⟩ : ∃ s, t = p + (j - i) + s := ⟨t - (p + (j - i)), by omega⟩
    have hq := rotL_snd (es := cur') (a := p) (m := m) (b := m + (j - i)) (i := s) (by omega) (by omega) (by omega) (by omega)
    rw [show p + (m + (j - i) - m) + s = p + (j - i) + s by omega] at hq
    have hr := rotL_fst (es := cur) (a := p) (m := m) (b := m + j) (i := j - i + s) (by omega) (by omega) (by omega) (by omega)
    rw [show p + (j - i + s) = p + (j - i) + s by omega] at hr
    rw [hq, hr, h1 s (by omega), show m + (j - i) + s = m + (j - i + s) by omega]
  by_cases c4 : t < m + j
  · obtain ⟨s, rfl⟩ : ∃ s, t = m + (j - i) + s := ⟨t - (m + (j - i)), by omega⟩
    have hr := rotL_snd (es := cur) (a := p) (m := m) (b := m + j) (i := s) (by omega) (by omega) (by omega) (by omega)
    rw [show p + (m + j - m) + s = m + (j - i) + s by omega] at hr
    rw [rotL_hi (by omega) (by omega) (by omega) (by omega), hr, h2 s (by omega)]
  · rw [rotL_hi (by omega) (by omega) (by omega) (by omega), rotL_hi (by omega) (by omega) (by omega) (by omega), h3 t (by omega) (by omega)]
/-- Blocks of one size: one exchange. -/
theorem rot_eq {cur' cur : List (Nat → Int)} {p m i : Nat} (hp : p + i = m) (hl : m + i ≤ cur.length) (h : SwR cur' cur p m i) : cur' = rotL cur p m (m + i) := by
  obtain ⟨hlen, h1, h2, h3⟩ := h
  refine ext_fld (by rw [rotL_len (by omega) (by omega) (by omega), hlen]) (fun t _ => ?_)
  by_cases c1 : t < p
  · rw [rotL_lo (by omega) (by omega) (by omega) c1, h3 t (by omega) (by omega)]
  by_cases c2 : t < m
  · obtain ⟨s, rfl⟩ : ∃ s, t = p + s := ⟨t - p, by omega⟩
    rw [rotL_fst (by omega) (by omega) (by omega) (by omega), h1 s (by omega)]
  by_cases c3 : t < m + i
  · obtain ⟨s, rfl⟩ : ∃ s, t = m + s := ⟨t - m, by omega⟩
    have hr := rotL_snd (es := cur) (a := p) (m := m) (b := m + i) (i := s) (by omega) (by omega) (by omega) (by omega)
    rw [show p + (m + i - m) + s = m + s by omega] at hr
    rw [hr, h2 s (by omega)]
  · rw [rotL_hi (by omega) (by omega) (by omega) (by omega), h3 t (by omega) (by omega)]
end Go.Proofs.Ytlkladabefpnfaa
