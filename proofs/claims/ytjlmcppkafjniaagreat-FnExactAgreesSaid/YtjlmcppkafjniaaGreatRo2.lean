/-
  The steps of rotateCmpFunc, plain. No conditions.
-/
import Derived.Test.YtjlmcppkafjniaaGreatSt
namespace Go.Proofs.YtjlmcppkafjniaaGreat
open Go.RowKit

/-- The elements from a to b. -/
def blk (es : List (Nat → Int)) (a b : Nat) : List (Nat → Int) := (es.drop a).take (b - a)
theorem blk_len {es : List (Nat → Int)} {a b : Nat} (hb : b ≤ es.length) : (blk es a b).length = b - a := by
  unfold blk
  rw [List.length_take, List.length_drop]
  omega
theorem blk_fld {es : List (Nat → Int)} {a b i : Nat} (h : i < b - a) : fld (blk es a b) i = fld es (a + i) := by
  unfold blk
  rw [fld_takeF h, fld_dropF]
theorem blk_mem {es : List (Nat → Int)} {a b : Nat} {x : Nat → Int} (hb : b ≤ es.length) (h : x ∈ blk es a b) : ∃ i, a ≤ i ∧ i < b ∧ fld es i = x := by
  obtain ⟨i, hi, rfl⟩ := List.mem_iff_getElem.1 h
  rw [blk_len hb] at hi
  refine ⟨a + i, by omega, by omega, ?_⟩
  rw [← fld_get (by rw [blk_len hb]; exact hi), blk_fld hi]
/-- The blocks from a to m and from m to b change places. -/
def rotL (es : List (Nat → Int)) (a m b : Nat) : List (Nat → Int) := es.take a ++ (blk es m b ++ (blk es a m ++ es.drop b))
theorem split_blk {es : List (Nat → Int)} {a m b : Nat} (h1 : a ≤ m) (h2 : m ≤ b) (h3 : b ≤ es.length) : es = es.take a ++ (blk es a m ++ (blk es m b ++ es.drop b)) := by
  refine ext_fld (by simp only [List.length_append, List.length_take, List.length_drop, blk_len h3, blk_len (Nat.le_trans h2 h3)]; omega) (fun i hi => ?_)
  have ht : (es.take a).length = a := by rw [List.length_take]; omega
  by_cases c1 : i < a
  · rw [fld_app_lt (by omega), fld_takeF c1]
  rw [fld_app_ge (by omega), ht]
  have hl1 := blk_len (es := es) (a := a) (b := m) (by omega)
  by_cases c2 : i < m
  · rw [fld_app_lt (by omega), blk_fld (by omega), show a + (i - a) = i by omega]
  rw [fld_app_ge (by omega), hl1]
  have hl2 := blk_len (es := es) (a := m) (b := b) h3
  by_cases c3 : i < b
  · rw [fld_app_lt (by omega), blk_fld (by omega), show m + (i - a - (m - a)) = i by omega]
  rw [fld_app_ge (by omega), hl2, fld_dropF, show b + (i - a - (m - a) - (b - m)) = i by omega]
theorem rotL_len {es : List (Nat → Int)} {a m b : Nat} (h1 : a ≤ m) (h2 : m ≤ b) (h3 : b ≤ es.length) : (rotL es a m b).length = es.length := by
  unfold rotL
  simp only [List.length_append, List.length_take, List.length_drop, blk_len h3, blk_len (Nat.le_trans h2 h3)]
  omega
theorem filter_blocks {p : (Nat → Int) → Bool} {P X Y S : List (Nat → Int)} (h : ∀ x, x ∈ X → ∀ y, y ∈ Y → ¬ (p x = true ∧ p y = true)) : (P ++ (Y ++ (X ++ S))).filter p = (P ++ (X ++ (Y ++ S))).filter p := by
  simp only [List.filter_append]
  by_cases hx : X.filter p = []
  · rw [hx]
    simp
  · have hy : Y.filter p = [] := by
      obtain ⟨x, hx⟩ := List.exists_mem_of_ne_nil _ hx
      rw [List.mem_filter] at hx
      rw [List.filter_eq_nil_iff]
      intro y hy hp
      exact h x hx.1 y hy ⟨hx.2, hp⟩
    rw [hy]
    simp
/-- All of the second block belong ahead of all of the first: stable. -/
theorem rotL_stb {es : List (Nat → Int)} {a m b : Nat} (h1 : a ≤ m) (h2 : m ≤ b) (h3 : b ≤ es.length) (h : ∀ i j, a ≤ i → i < m → m ≤ j → j < b → ltP (fld es j) (fld es i)) : Stb (rotL es a m b) es := fun u v => by
  unfold rotL
  rw [filter_blocks (p := keyB u v) (X := blk es a m) (Y := blk es m b) (fun x hx y hy => ?_), ← split_blk h1 h2 h3]
  obtain ⟨i, i1, i2, rfl⟩ := blk_mem (by omega) hx
  obtain ⟨j, j1, j2, rfl⟩ := blk_mem h3 hy
  have hl := h i j i1 i2 j1 j2
  rintro ⟨e1, e2⟩
  rw [keyB_iff] at e1 e2
  unfold ltP at hl
  omega
/-- The elements of a row whose blocks have changed places. -/
theorem rotL_lo {es : List (Nat → Int)} {a m b i : Nat} (h1 : a ≤ m) (h2 : m ≤ b) (h3 : b ≤ es.length) (hi : i < a) : fld (rotL es a m b) i = fld es i := by
  unfold rotL
  rw [fld_app_lt (by rw [List.length_take]; omega), fld_takeF hi]
theorem rotL_fst {es : List (Nat → Int)} {a m b i : Nat} (h1 : a ≤ m) (h2 : m ≤ b) (h3 : b ≤ es.length) (hi : i < b - m) : fld (rotL es a m b) (a + i) = fld es (m + i) := by
  unfold rotL
  have ht : (es.take a).length = a := by rw [List.length_take]; omega
  rw [fld_app_ge (by omega), ht, fld_app_lt (by rw [blk_len h3]; omega), show a + i - a = i by omega, blk_fld hi]
theorem rotL_snd {es : List (Nat → Int)} {a m b i : Nat} (h1 : a ≤ m) (h2 : m ≤ b) (h3 : b ≤ es.length) (hi : i < m - a) : fld (rotL es a m b) (a + (b - m) + i) = fld es (a + i) := by
  unfold rotL
  have ht : (es.take a).length = a := by rw [List.length_take]; omega
  rw [fld_app_ge (by omega), ht, fld_app_ge (by rw [blk_len h3]; omega), blk_len h3, fld_app_lt (by rw [blk_len (by omega)]; omega), show a + (b - m) + i - a - (b - m) = i by omega, blk_fld hi]
theorem rotL_hi {es : List (Nat → Int)} {a m b i : Nat} (h1 : a ≤ m) (h2 : m ≤ b) (h3 : b ≤ es.length) (hi : b ≤ i) : fld (rotL es a m b) i = fld es i := by
  unfold rotL
  have ht : (es.take a).length = a := by rw [List.length_take]; omega
  rw [fld_app_ge (by omega), ht, fld_app_ge (by rw [blk_len h3]; omega), blk_len h3, fld_app_ge (by rw [blk_len (by omega)]; omega), blk_len (by omega), fld_dropF, show b + (i - a - (b - m) - (m - a)) = i by omega]
end Go.Proofs.YtjlmcppkafjniaaGreat

namespace Go.Proofs.YtjlmcppkafjniaaGreat
open Go.RowKit

def swx (es : List (Nat → Int)) (m j : Nat) : List (Nat → Int) := (es.set m (fld es j)).set j (fld es m)
theorem swx_len (es : List (Nat → Int)) (m j : Nat) : (swx es m j).length = es.length := by simp [swx]
theorem swx_j {es : List (Nat → Int)} {m j : Nat} (h : j < es.length) : fld (swx es m j) j = fld es m := by
  unfold swx
  rw [fld_set_same (by simpa using h)]
theorem swx_m {es : List (Nat → Int)} {m j : Nat} (h : m < es.length) (hne : m ≠ j) : fld (swx es m j) m = fld es j := by
  unfold swx
  rw [fld_set_other hne, fld_set_same h]
theorem swx_other {es : List (Nat → Int)} {m j k : Nat} (h1 : k ≠ m) (h2 : k ≠ j) : fld (swx es m j) k = fld es k := by
  unfold swx
  rw [fld_set_other h2, fld_set_other h1]
/-- k elements from a on and k from b on are exchanged. -/
def SwR (es' es : List (Nat → Int)) (a b k : Nat) : Prop := es'.length = es.length ∧ (∀ q, q < k → fld es' (a + q) = fld es (b + q)) ∧ (∀ q, q < k → fld es' (b + q) = fld es (a + q)) ∧ ∀ q, (q < a ∨ a + k ≤ q) → (q < b ∨ b + k ≤ q) → fld es' q = fld es q
theorem SwR.zero (es : List (Nat → Int)) (a b : Nat) : SwR es es a b 0 := ⟨rfl, fun _ h => absurd h (by omega), fun _ h => absurd h (by omega), fun _ _ _ => rfl⟩
theorem SwR.step {es' es : List (Nat → Int)} {a b k : Nat} (h : SwR es' es a b k) (hab : a + k < b) (hb : b + k < es.length) : SwR (swx es' (a + k) (b + k)) es a b (k + 1) := by
  obtain ⟨hl, h1, h2, h3⟩ := h
  refine ⟨by rw [swx_len, hl], fun q hq => ?_, fun q hq => ?_, fun q ha hb' => ?_⟩
  · by_cases e : q = k
    · subst e
      rw [swx_m (by omega) (by omega), h3 (b + q) (by omega) (by omega)]
    · rw [swx_other (by omega) (by omega), h1 q (by omega)]
  · by_cases e : q = k
    · subst e
      rw [swx_j (by omega), h3 (a + q) (by omega) (by omega)]
    · rw [swx_other (by omega) (by omega), h2 q (by omega)]
  · rw [swx_other (by omega) (by omega), h3 q (by omega) (by omega)]
end Go.Proofs.YtjlmcppkafjniaaGreat

namespace Go.Proofs.YtjlmcppkafjniaaGreat
open Go.RowKit

/-- The first block is the greater: the second one is exchanged with the first one's head. -/
theorem rot_gt {cur' cur : List (Nat → Int)} {p m i j : Nat} (hp : p + i = m) (hij : j < i) (hl : m + j ≤ cur.length) (h : SwR cur' cur p m j) : rotL cur' (p + j) m (m + j) = rotL cur p m (m + j) := by
  obtain ⟨hlen, h1, h2, h3⟩ := h
  refine ext_fld (by rw [rotL_len (by omega) (by omega) (by omega), rotL_len (by omega) (by omega) (by omega), hlen]) (fun t _ => ?_)
  by_cases c1 : t < p
  · rw [rotL_lo (by omega) (by omega) (by omega) (by omega), rotL_lo (by omega) (by omega) (by omega) c1, h3 t (by omega) (by omega)]
  by_cases c2 : t < p + j
  · obtain ⟨s, rfl⟩ : ∃ s, t = p + s := ⟨t - p, by omega⟩
    rw [rotL_lo (by omega) (by omega) (by omega) c2, rotL_fst (by omega) (by omega) (by omega) (by omega), h1 s (by omega)]
  by_cases c3 : t < p + j + j
  · obtain ⟨s, rfl⟩ : ∃ s, t = p + j + s := ⟨t - (p + j), by omega⟩
    have hr := rotL_snd (es := cur) (a := p) (m := m) (b := m + j) (i := s) (by omega) (by omega) (by omega) (by omega)
    rw [show p + (m + j - m) + s = p + j + s by omega] at hr
    rw [rotL_fst (by omega) (by omega) (by omega) (by omega), hr, h2 s (by omega)]
  by_cases c4 : t < m + j
  · obtain ⟨s, rfl⟩ : ∃ s, t = p + j + j + s := ⟨t - (p + j + j), by omega⟩
    have hr := rotL_snd (es := cur) (a := p) (m := m) (b := m + j) (i := j + s) (by omega) (by omega) (by omega) (by omega)
    have hq := rotL_snd (es := cur') (a := p + j) (m := m) (b := m + j) (i := s) (by omega) (by omega) (by omega) (by omega)
    rw [show p + (m + j - m) + (j + s) = p + j + j + s by omega] at hr
    rw [show p + j + (m + j - m) + s = p + j + j + s by omega] at hq
    rw [hr, hq, show p + (j + s) = p + j + s by omega, h3 (p + j + s) (by omega) (by omega)]
  · rw [rotL_hi (by omega) (by omega) (by omega) (by omega), rotL_hi (by omega) (by omega) (by omega) (by omega), h3 t (by omega) (by omega)]
/-- The second block is the greater: the first one is exchanged with the second one's tail. -/
theorem rot_lt {cur' cur : List (Nat → Int)} {p m i j : Nat} (hp : p + i = m) (hij : i < j) (hl : m + j ≤ cur.length) (h : SwR cur' cur p (m + (j - i)) i) : rotL cur' p m (m + (j - i)) = rotL cur p m (m + j) := by
  obtain ⟨hlen, h1, h2, h3⟩ := h
  refine ext_fld (by rw [rotL_len (by omega) (by omega) (by omega), rotL_len (by omega) (by omega) (by omega), hlen]) (fun t _ => ?_)
  by_cases c1 : t < p
  · rw [rotL_lo (by omega) (by omega) (by omega) c1, rotL_lo (by omega) (by omega) (by omega) c1, h3 t (by omega) (by omega)]
  by_cases c2 : t < p + (j - i)
  · obtain ⟨s, rfl⟩ : ∃ s, t = p + s := ⟨t - p, by omega⟩
    rw [rotL_fst (by omega) (by omega) (by omega) (by omega), rotL_fst (by omega) (by omega) (by omega) (by omega), h3 (m + s) (by omega) (by omega)]
  by_cases c3 : t < p + j
  · obtain ⟨s, rfl⟩ : ∃ s, t = p + (j - i) + s := ⟨t - (p + (j - i)), by omega⟩
    have hq := rotL_snd (es := cur') (a := p) (m := m) (b := m + (j - i)) (i := s) (by omega) (by omega) (by omega) (by omega)
    rw [show p + (m + (j - i) - m) + s = p + (j - i) + s by omega] at hq
    have hr := rotL_fst (es := cur) (a := p) (m := m) (b := m + j) (i := j - i + s) (by omega) (by omega) (by omega) (by omega)
    rw [show p + (j - i + s) = p + (j - i) + s by omega] at hr
    rw [hq, hr, h1 s (by omega), show m + (j - i) + s = m + (j - i + s) by omega]
  by_cases c4 : t < m + j
  · obtain ⟨s, rfl⟩ : ∃ s, t = m + (j - i) + s := ⟨t - (m + (j - i)), by omega⟩
    have hr := rotL_snd (es := cur) (a := p) (m := m) (b := m + j) (i := s) (by omega) (by omega) (by omega) (by omega)
    rw [show p + (m + j - m) + s = m + (j - i) + s by omega] at hr
    rw [rotL_hi (by omega) (by omega) (by omega) (by omega), hr, h2 s (by omega)]
  · rw [rotL_hi (by omega) (by omega) (by omega) (by omega), rotL_hi (by omega) (by omega) (by omega) (by omega), h3 t (by omega) (by omega)]
/-- Blocks of one size: one exchange. -/
theorem rot_eq {cur' cur : List (Nat → Int)} {p m i : Nat} (hp : p + i = m) (hl : m + i ≤ cur.length) (h : SwR cur' cur p m i) : cur' = rotL cur p m (m + i) := by
  obtain ⟨hlen, h1, h2, h3⟩ := h
  refine ext_fld (by rw [rotL_len (by omega) (by omega) (by omega), hlen]) (fun t _ => ?_)
  by_cases c1 : t < p
  · rw [rotL_lo (by omega) (by omega) (by omega) c1, h3 t (by omega) (by omega)]
  by_cases c2 : t < m
  · obtain ⟨s, rfl⟩ : ∃ s, t = p + s := ⟨t - p, by omega⟩
    rw [rotL_fst (by omega) (by omega) (by omega) (by omega), h1 s (by omega)]
  by_cases c3 : t < m + i
  · obtain ⟨s, rfl⟩ : ∃ s, t = m + s := ⟨t - m, by omega⟩
    have hr := rotL_snd (es := cur) (a := p) (m := m) (b := m + i) (i := s) (by omega) (by omega) (by omega) (by omega)
    rw [show p + (m + i - m) + s = m + s by omega] at hr
    rw [hr, h2 s (by omega)]
  · rw [rotL_hi (by omega) (by omega) (by omega) (by omega), h3 t (by omega) (by omega)]
end Go.Proofs.YtjlmcppkafjniaaGreat
