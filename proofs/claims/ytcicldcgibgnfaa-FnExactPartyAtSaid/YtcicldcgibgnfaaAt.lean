/-
  The first element of which something holds; a list without it.
-/
import Derived.Test.YtcicldcgibgnfaaCu
namespace Go.Proofs.Ytcicldcgibgnfaa
open Go.RowKit

/-- Whether element i satisfies p, and none before it. -/
def FirstAt (p : Nat → Bool) (n : Nat) (r : Int) : Prop := (∃ k : Nat, k < n ∧ r = k ∧ p k = true ∧ ∀ i, i < k → p i = false) ∨ (r = -1 ∧ ∀ i, i < n → p i = false)
theorem FirstAt.uniq {p : Nat → Bool} {n : Nat} {r s : Int} (h : FirstAt p n r) (h' : FirstAt p n s) : r = s := by
  rcases h with ⟨k, hk, rfl, hp, hb⟩ | ⟨rfl, hb⟩ <;> rcases h' with ⟨k', hk', rfl, hp', hb'⟩ | ⟨rfl, hb'⟩
  · rcases Nat.lt_trichotomy k k' with h | h | h
    · rw [hb' k h] at hp; cases hp
    · rw [h]
    · rw [hb k' h] at hp'; cases hp'
  · rw [hb' k hk] at hp; cases hp
  · rw [hb k' hk'] at hp'; cases hp'
  · rfl
def IntP (P : Int → Prop) (w : World) (e : Ending) (w' : World) : Prop := ∃ r : Int, P r ∧ e = .returned (.int .i64 r) ∧ Below w.heap.size w w'

/-- The first index below n that satisfies p. -/
def ixOf (p : Nat → Bool) (n : Nat) : Option Nat := (List.range n).find? p
theorem ixOf_none {p : Nat → Bool} {n : Nat} (h : ixOf p n = none) : ∀ i, i < n → p i = false := fun i hi => by
  have := List.find?_eq_none.1 h i (List.mem_range.2 hi)
  simpa using this
theorem ixOf_some {p : Nat → Bool} {n k : Nat} (h : ixOf p n = some k) : k < n ∧ p k = true ∧ ∀ i, i < k → p i = false := by
  have h1 := List.find?_some h
  have h2 : k < n := List.mem_range.1 (List.mem_of_find?_eq_some h)
  refine ⟨h2, h1, fun i hi => ?_⟩
  unfold ixOf at h
  rw [List.find?_range_eq_some] at h
  have := h.2.2 i hi
  simpa using this
theorem ixOf_firstAt {p : Nat → Bool} {n : Nat} : FirstAt p n (match ixOf p n with | none => -1 | some k => (k : Int)) := by
  rcases h : ixOf p n with _ | k
  · exact .inr ⟨rfl, ixOf_none h⟩
  · obtain ⟨h1, h2, h3⟩ := ixOf_some h
    exact .inl ⟨k, h1, rfl, h2, h3⟩
/-- The list without its first element of which p holds. -/
def cutT (es : List (Nat → Int)) (p : Nat → Bool) (n : Nat) : List (Nat → Int) := match ixOf p n with | none => es | some k => cutL es k
def cutB (p : Nat → Bool) (n : Nat) : Bool := (ixOf p n).isSome

theorem wrap_add1 (k : Nat) (h : k ≤ 4611686018427387904) : IntKind.i64.wrap ((k : Int) + 1) = (k : Int) + 1 := by rw [IntKind.wrap_i64]; omega

theorem cutT_len {es : List (Nat → Int)} {n : Nat} {p : Nat → Bool} (h : es.length = n) : (cutT es p n).length ≤ n := by
  unfold cutT
  split
  · omega
  · rename_i k hk
    have := ixOf_some hk
    rw [cutL_len h this.1]
    omega
end Go.Proofs.Ytcicldcgibgnfaa
