/-
  Where slices lie, and what marking one of them does to the others.
-/
import Derived.Test.YtcicldcgibgnfaaFill
namespace Go.Proofs.Ytcicldcgibgnfaa
open Go.RowKit

/-- The slice lies in blocks from lo on, below hi (or is empty). -/
def InB (A : Option Addr) (n lo hi : Nat) : Prop := n = 0 ∨ ∃ a, A = some a ∧ lo ≤ a.block ∧ a.block < hi

section
variable {w w' : World} {B K n : Nat} {A : Option Addr} {es : List (Nat → Int)}
theorem Own.inB (h : Own B w K A n es) : InB A n B w.heap.size := h.2.imp id fun ⟨b, off, h1, h2, h3, _⟩ => ⟨⟨b, off, none⟩, h1, h3, h2⟩

/-- A slice in other blocks than the one that turned reads as it did. -/
theorem Rd.grown_ (h : Rd w K A n es) {row : Option Nat} (hg : w.grownBy w' row) (hne : ∀ a, n ≠ 0 → A = some a → some a.block ≠ row) : Rd w' K A n es := by
  refine ⟨h.1, ?_⟩
  rcases Nat.eq_zero_or_pos n with h0 | h0
  · exact .inl h0
  · obtain ⟨b, off, h1, h2, h5⟩ := h.2.resolve_left (by omega)
    have hb := hg.block b h2 (hne _ (by omega) h1)
    exact .inr ⟨b, off, h1, Nat.lt_of_lt_of_le h2 hg.size, fun i hi j hj => (World.cell?_of_block (w := w) (w' := w') (a := ⟨b, off + i * K + j, none⟩) hb).trans (h5 i hi j hj)⟩
theorem Own.grown_ (h : Own B w K A n es) {row : Option Nat} (hg : w.grownBy w' row) (hne : ∀ a, n ≠ 0 → A = some a → some a.block ≠ row) : Own B w' K A n es := by
  refine ⟨h.1, ?_⟩
  rcases Nat.eq_zero_or_pos n with h0 | h0
  · exact .inl h0
  · obtain ⟨b, off, h1, h2, h3, h4, h5⟩ := h.2.resolve_left (by omega)
    have hb := hg.block b h2 (hne _ (by omega) h1)
    exact .inr ⟨b, off, h1, Nat.lt_of_lt_of_le h2 hg.size, h3, fun o => (World.frozen?_of_block (w := w) (w' := w') (a := ⟨b, o, none⟩) hb).trans (h4 o), fun i hi j hj => (World.cell?_of_block (w := w) (w' := w') (a := ⟨b, off + i * K + j, none⟩) hb).trans (h5 i hi j hj)⟩
end

/-- Two slices in different stretches of blocks: marking one leaves the other. -/
theorem ne_of_InB {A A2 : Option Addr} {n n2 lo hi lo2 hi2 : Nat} (h : InB A n lo hi) (h2 : InB A2 n2 lo2 hi2) (hd : hi ≤ lo2 ∨ hi2 ≤ lo) : ∀ a, n ≠ 0 → A = some a → some a.block ≠ (if n2 = 0 then none else A2.map (·.block)) := by
  intro a hn ha
  obtain ⟨a', ha', h3, h4⟩ := h.resolve_left hn
  rw [ha] at ha'
  injection ha' with ha'
  subst ha'
  by_cases h0 : n2 = 0
  · rw [if_pos h0]
    simp
  · rw [if_neg h0]
    obtain ⟨b, hb, h5, h6⟩ := h2.resolve_left h0
    rw [hb]
    simp only [Option.map_some, ne_eq, Option.some.injEq]
    omega

/-- Marking leaves all that lies below the slice's stretch. -/
theorem Marked.below {B K n m lo hi : Nat} {A : Option Addr} {w w' : World} (h : Marked B K A n m w w') (hA : InB A n lo hi) {B0 : Nat} (hB : B0 ≤ lo) (hw : B0 ≤ w.heap.size) : Below B0 w w' := by
  obtain ⟨_, hg, _⟩ := h
  refine (Below.refl B0 w).grown hg hw ?_
  intro k hk
  by_cases h0 : n = 0
  · rw [if_pos h0] at hk
    cases hk
  · rw [if_neg h0] at hk
    obtain ⟨a, rfl, h3, h4⟩ := hA.resolve_left h0
    simp only [Option.map_some, Option.some.injEq] at hk
    omega
end Go.Proofs.Ytcicldcgibgnfaa
