/-
  Parts of slices that read: the first k elements, and those from k on.
-/
import Derived.Test.YtcicldcgibgnfaaSl
namespace Go.Proofs.Ytcicldcgibgnfaa
open Go.RowKit

theorem fld_take {es : List (Nat → Int)} {k i j : Nat} (hi : i < k) : fld (es.take k) i j = fld es i j := by
  unfold fld
  rw [List.getD_eq_getElem?_getD, List.getD_eq_getElem?_getD, List.getElem?_take, if_pos hi]
theorem fld_drop {es : List (Nat → Int)} {k i j : Nat} : fld (es.drop k) i j = fld es (k + i) j := by
  unfold fld
  rw [List.getD_eq_getElem?_getD, List.getD_eq_getElem?_getD, List.getElem?_drop]

section
variable {w : World} {K n k : Nat} {A : Option Addr} {es : List (Nat → Int)}
theorem Rd.take (h : Rd w K A n es) (hk : k ≤ n) : Rd w K A k (es.take k) := by
  refine ⟨by rw [List.length_take, h.1]; omega, ?_⟩
  rcases Nat.eq_zero_or_pos k with h0 | h0
  · exact .inl h0
  · obtain ⟨b, off, h1, h2, h5⟩ := h.2.resolve_left (by omega)
    exact .inr ⟨b, off, h1, h2, fun i hi j hj => by rw [fld_take hi]; exact h5 i (by omega) j hj⟩
theorem Rd.drop {b off : Nat} (h : Rd w K (some ⟨b, off, none⟩) n es) (hk : k ≤ n) : Rd w K (some ⟨b, off + k * K, none⟩) (n - k) (es.drop k) := by
  refine ⟨by rw [List.length_drop, h.1], ?_⟩
  rcases Nat.eq_zero_or_pos (n - k) with h0 | h0
  · exact .inl h0
  · obtain ⟨b', off', h1, h2, h5⟩ := h.2.resolve_left (by omega)
    injection h1 with h1
    injection h1 with h1 h3
    subst h1 h3
    refine .inr ⟨b, off + k * K, rfl, h2, fun i hi j hj => ?_⟩
    have h6 := h5 (k + i) (by omega) j hj
    rw [fld_drop, ← h6]
    congr 2
    rw [Nat.add_mul]
    omega
/-- No element is left: whatever the address. -/
theorem Rd.none_left {A' : Option Addr} (h : Rd w K A n es) (hk : n ≤ k) : Rd w K A' 0 (es.drop k) :=
  ⟨by rw [List.length_drop, h.1]; omega, .inl rfl⟩
end
end Go.Proofs.Ytcicldcgibgnfaa
