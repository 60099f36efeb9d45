/-
  Contracts of the functions that compare two pins and that test one. No conditions.
-/
import Derived.Test.YtlkladabefpnfaaW2
import Derived.Test.YtlkladabefpnfaaLt
namespace Go.Proofs.Ytlkladabefpnfaa
open Go.RowKit

def pinR (e : Nat → Int) : Prop := (1 ≤ e 0 ∧ e 0 ≤ 1000008) ∧ (1 ≤ e 1 ∧ e 1 ≤ 999)
set_option maxHeartbeats 1000000 in
theorem cmpInt_any (a b : Int) (w : World) :
    Calls Try.prog 33 #[.int .i64 a, .int .i64 b] w fun e w' => e = .returned (.int .i64 (cmpI a b)) ∧ w = w' := by
  rcases cmpI_cases a b with ⟨h, e⟩ | ⟨h, e⟩ | ⟨h, e⟩
  · rw [e]
    have h2 : ¬ b < a := by omega
    have h3 : ¬ a = b := by omega
    clear e
    go_enter Try.func33, Try.ntmps33
    go_wp2
    go_ret
    exact ⟨rfl, rfl⟩
  · rw [e]
    subst h
    have h2 : ¬ a < a := by omega
    clear e
    go_enter Try.func33, Try.ntmps33
    go_wp2
    go_ret
    exact ⟨rfl, rfl⟩
  · rw [e]
    have h2 : ¬ a < b := by omega
    have h3 : ¬ a = b := by omega
    clear e
    go_enter Try.func33, Try.ntmps33
    go_wp2
    go_ret
    exact ⟨rfl, rfl⟩

set_option maxHeartbeats 1000000 in
theorem comparePins_any (a b : Nat → Int) (w : World) :
    Calls Try.prog 25 #[.agg #[.int .i64 (a 0), .int .i64 (a 1)], .agg #[.int .i64 (b 0), .int .i64 (b 1)]] w fun e w' => e = .returned (.int .i64 (cmpP a b)) ∧ Below w.heap.size w w' := by
  by_cases h : cmpI (a 0) (b 0) = 0
  · rw [show cmpP a b = cmpI (a 1) (b 1) from if_pos h]
    go_enter Try.func25, Try.ntmps25
    go_wp2_with (go_at_call 33; refine (cmpInt_any _ _ _).mono ?_; rintro y w9 ⟨rfl, rfl⟩)
    go_ret
    exact ⟨rfl, by (repeat (first | with_reducible exact Below.refl _ _ | with_reducible refine Below.drew ?_ | with_reducible refine below_drewN ?_ _ | (with_reducible refine bel_alloc ?_ ?_ _; (first | omega | (simp; omega) | simp)) | (with_reducible refine bel_set ?_ ?_ _; (first | omega | (simp; omega) | simp)) | (with_reducible refine bel_tr (by assumption) ?_ ?_; (first | omega | (simp; omega) | simp))))⟩
  · rw [show cmpP a b = cmpI (a 0) (b 0) from if_neg h]
    go_enter Try.func25, Try.ntmps25
    go_wp2_with (go_at_call 33; refine (cmpInt_any _ _ _).mono ?_; rintro y w9 ⟨rfl, rfl⟩)
    go_ret
    exact ⟨rfl, by (repeat (first | with_reducible exact Below.refl _ _ | with_reducible refine Below.drew ?_ | with_reducible refine below_drewN ?_ _ | (with_reducible refine bel_alloc ?_ ?_ _; (first | omega | (simp; omega) | simp)) | (with_reducible refine bel_set ?_ ?_ _; (first | omega | (simp; omega) | simp)) | (with_reducible refine bel_tr (by assumption) ?_ ?_; (first | omega | (simp; omega) | simp))))⟩

set_option maxHeartbeats 1000000 in
theorem l9Less_any (a b : Nat → Int) (w : World) :
    Calls Try.prog 31 #[.agg #[.int .i64 (a 0), .int .i64 (a 1)], .agg #[.int .i64 (b 0), .int .i64 (b 1)]] w (TFB (ltP a b) w) := by
  by_cases h1 : a 0 < b 0
  · have HL : Hid (ltP a b) := .inl h1
    go_enter Try.func31, Try.ntmps31
    go_wp2
    go_ret
    exact .inl ⟨rfl, HL.out, by (repeat (first | with_reducible exact Below.refl _ _ | with_reducible refine Below.drew ?_ | with_reducible refine below_drewN ?_ _ | (with_reducible refine bel_alloc ?_ ?_ _; (first | omega | (simp; omega) | simp)) | (with_reducible refine bel_set ?_ ?_ _; (first | omega | (simp; omega) | simp)) | (with_reducible refine bel_tr (by assumption) ?_ ?_; (first | omega | (simp; omega) | simp))))⟩
  · by_cases h2 : a 0 = b 0
    · by_cases h3 : a 1 < b 1
      · have HL : Hid (ltP a b) := .inr ⟨h2, h3⟩
        go_enter Try.func31, Try.ntmps31
        go_wp2
        go_ret
        exact .inl ⟨by first | rfl | simp [h3], HL.out, by (repeat (first | with_reducible exact Below.refl _ _ | with_reducible refine Below.drew ?_ | with_reducible refine below_drewN ?_ _ | (with_reducible refine bel_alloc ?_ ?_ _; (first | omega | (simp; omega) | simp)) | (with_reducible refine bel_set ?_ ?_ _; (first | omega | (simp; omega) | simp)) | (with_reducible refine bel_tr (by assumption) ?_ ?_; (first | omega | (simp; omega) | simp))))⟩
      · have HL : Hid (¬ ltP a b) := fun h => by unfold ltP at h; omega
        go_enter Try.func31, Try.ntmps31
        go_wp2
        go_ret
        exact .inr ⟨by first | rfl | (simp; omega), HL.out, by (repeat (first | with_reducible exact Below.refl _ _ | with_reducible refine Below.drew ?_ | with_reducible refine below_drewN ?_ _ | (with_reducible refine bel_alloc ?_ ?_ _; (first | omega | (simp; omega) | simp)) | (with_reducible refine bel_set ?_ ?_ _; (first | omega | (simp; omega) | simp)) | (with_reducible refine bel_tr (by assumption) ?_ ?_; (first | omega | (simp; omega) | simp))))⟩
    · have HL : Hid (¬ ltP a b) := fun h => by unfold ltP at h; omega
      go_enter Try.func31, Try.ntmps31
      go_wp2
      go_ret
      exact .inr ⟨rfl, HL.out, by (repeat (first | with_reducible exact Below.refl _ _ | with_reducible refine Below.drew ?_ | with_reducible refine below_drewN ?_ _ | (with_reducible refine bel_alloc ?_ ?_ _; (first | omega | (simp; omega) | simp)) | (with_reducible refine bel_set ?_ ?_ _; (first | omega | (simp; omega) | simp)) | (with_reducible refine bel_tr (by assumption) ?_ ?_; (first | omega | (simp; omega) | simp))))⟩

end Go.Proofs.Ytlkladabefpnfaa
