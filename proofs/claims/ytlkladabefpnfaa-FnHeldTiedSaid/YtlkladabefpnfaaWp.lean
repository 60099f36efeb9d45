/-
  Contracts of the functions that compare two pins and that test one. No conditions.
-/
import Derived.Test.YtlkladabefpnfaaW2
namespace Go.Proofs.Ytlkladabefpnfaa
open Go.RowKit

def cmpI (a b : Int) : Int := if a < b then -1 else if b < a then 1 else 0
def cmpP (a b : Nat → Int) : Int := if cmpI (a 0) (b 0) = 0 then cmpI (a 1) (b 1) else cmpI (a 0) (b 0)
/-- The order of pins: by time, then by number. -/
def ltP (a b : Nat → Int) : Prop := a 0 < b 0 ∨ (a 0 = b 0 ∧ a 1 < b 1)
instance (a b : Nat → Int) : Decidable (ltP a b) := by unfold ltP; infer_instance
def pinR (e : Nat → Int) : Prop := (1 ≤ e 0 ∧ e 0 ≤ 1000008) ∧ (1 ≤ e 1 ∧ e 1 ≤ 999)
theorem cmpI_cases (a b : Int) : (a < b ∧ cmpI a b = -1) ∨ (a = b ∧ cmpI a b = 0) ∨ (b < a ∧ cmpI a b = 1) := by
  unfold cmpI
  split
  · exact .inl ⟨by assumption, rfl⟩
  · split
    · exact .inr (.inr ⟨by assumption, rfl⟩)
    · exact .inr (.inl ⟨by omega, rfl⟩)
theorem cmpP_neg {a b : Nat → Int} : cmpP a b < 0 ↔ ltP a b := by
  unfold cmpP ltP
  rcases cmpI_cases (a 0) (b 0) with ⟨h, e⟩ | ⟨h, e⟩ | ⟨h, e⟩ <;> rcases cmpI_cases (a 1) (b 1) with ⟨h2, e2⟩ | ⟨h2, e2⟩ | ⟨h2, e2⟩ <;> rw [e] <;> simp [e2] <;> omega
theorem cmpP_pos {a b : Nat → Int} : 0 < cmpP a b ↔ ltP b a := by
  unfold cmpP ltP
  rcases cmpI_cases (a 0) (b 0) with ⟨h, e⟩ | ⟨h, e⟩ | ⟨h, e⟩ <;> rcases cmpI_cases (a 1) (b 1) with ⟨h2, e2⟩ | ⟨h2, e2⟩ | ⟨h2, e2⟩ <;> rw [e] <;> simp [e2] <;> omega

set_option maxHeartbeats 1000000 in
theorem cmpInt_any (a b : Int) (w : World) :
    Calls Try.prog 33 #[.int .i64 a, .int .i64 b] w fun e w' => e = .returned (.int .i64 (cmpI a b)) ∧ w = w' := by
  rcases cmpI_cases a b with ⟨h, e⟩ | ⟨h, e⟩ | ⟨h, e⟩
  · rw [e]
    have h2 : ¬ b < a := by omega
    have h3 : ¬ a = b := by omega
    clear e
    go_enter Try.func33, Try.ntmps33
    go_wp2
    go_ret
    exact ⟨rfl, rfl⟩
  · rw [e]
    subst h
    have h2 : ¬ a < a := by omega
    clear e
    go_enter Try.func33, Try.ntmps33
    go_wp2
    go_ret
    exact ⟨rfl, rfl⟩
  · rw [e]
    have h2 : ¬ a < b := by omega
    have h3 : ¬ a = b := by omega
    clear e
    go_enter Try.func33, Try.ntmps33
    go_wp2
    go_ret
    exact ⟨rfl, rfl⟩

set_option maxHeartbeats 1000000 in
theorem comparePins_any (a b : Nat → Int) (w : World) :
    Calls Try.prog 25 #[.agg #[.int .i64 (a 0), .int .i64 (a 1)], .agg #[.int .i64 (b 0), .int .i64 (b 1)]] w fun e w' => e = .returned (.int .i64 (cmpP a b)) ∧ Below w.heap.size w w' := by
  by_cases h : cmpI (a 0) (b 0) = 0
  · rw [show cmpP a b = cmpI (a 1) (b 1) from if_pos h]
    go_enter Try.func25, Try.ntmps25
    go_wp2_with (go_at_call 33; refine (cmpInt_any _ _ _).mono ?_; rintro y w9 ⟨rfl, rfl⟩)
    go_ret
    exact ⟨rfl, by (repeat (first | with_reducible exact Below.refl _ _ | with_reducible refine Below.drew ?_ | with_reducible refine below_drewN ?_ _ | (with_reducible refine bel_alloc ?_ ?_ _; (first | omega | (simp; omega) | simp)) | (with_reducible refine bel_set ?_ ?_ _; (first | omega | (simp; omega) | simp)) | (with_reducible refine bel_tr (by assumption) ?_ ?_; (first | omega | (simp; omega) | simp))))⟩
  · rw [show cmpP a b = cmpI (a 0) (b 0) from if_neg h]
    go_enter Try.func25, Try.ntmps25
    go_wp2_with (go_at_call 33; refine (cmpInt_any _ _ _).mono ?_; rintro y w9 ⟨rfl, rfl⟩)
    go_ret
    exact ⟨rfl, by (repeat (first | with_reducible exact Below.refl _ _ | with_reducible refine Below.drew ?_ | with_reducible refine below_drewN ?_ _ | (with_reducible refine bel_alloc ?_ ?_ _; (first | omega | (simp; omega) | simp)) | (with_reducible refine bel_set ?_ ?_ _; (first | omega | (simp; omega) | simp)) | (with_reducible refine bel_tr (by assumption) ?_ ?_; (first | omega | (simp; omega) | simp))))⟩

set_option maxHeartbeats 1000000 in
theorem l9Less_any (a b : Nat → Int) (w : World) :
    Calls Try.prog 31 #[.agg #[.int .i64 (a 0), .int .i64 (a 1)], .agg #[.int .i64 (b 0), .int .i64 (b 1)]] w (TFB (ltP a b) w) := by
  by_cases h1 : a 0 < b 0
  · have HL : Hid (ltP a b) := .inl h1
    go_enter Try.func31, Try.ntmps31
    go_wp2
    go_ret
    exact .inl ⟨rfl, HL.out, by (repeat (first | with_reducible exact Below.refl _ _ | with_reducible refine Below.drew ?_ | with_reducible refine below_drewN ?_ _ | (with_reducible refine bel_alloc ?_ ?_ _; (first | omega | (simp; omega) | simp)) | (with_reducible refine bel_set ?_ ?_ _; (first | omega | (simp; omega) | simp)) | (with_reducible refine bel_tr (by assumption) ?_ ?_; (first | omega | (simp; omega) | simp))))⟩
  · by_cases h2 : a 0 = b 0
    · by_cases h3 : a 1 < b 1
      · have HL : Hid (ltP a b) := .inr ⟨h2, h3⟩
        go_enter Try.func31, Try.ntmps31
        go_wp2
        go_ret
        exact .inl ⟨by first | rfl | simp [h3], HL.out, by (repeat (first | with_reducible exact Below.refl _ _ | with_reducible refine Below.drew ?_ | with_reducible refine below_drewN ?_ _ | (with_reducible refine bel_alloc ?_ ?_ _; (first | omega | (simp; omega) | simp)) | (with_reducible refine bel_set ?_ ?_ _; (first | omega | (simp; omega) | simp)) | (with_reducible refine bel_tr (by assumption) ?_ ?_; (first | omega | (simp; omega) | simp))))⟩
      · have HL : Hid (¬ ltP a b) := fun h => by unfold ltP at h; omega
        go_enter Try.func31, Try.ntmps31
        go_wp2
        go_ret
        exact .inr ⟨by first | rfl | (simp; omega), HL.out, by (repeat (first | with_reducible exact Below.refl _ _ | with_reducible refine Below.drew ?_ | with_reducible refine below_drewN ?_ _ | (with_reducible refine bel_alloc ?_ ?_ _; (first | omega | (simp; omega) | simp)) | (with_reducible refine bel_set ?_ ?_ _; (first | omega | (simp; omega) | simp)) | (with_reducible refine bel_tr (by assumption) ?_ ?_; (first | omega | (simp; omega) | simp))))⟩
    · have HL : Hid (¬ ltP a b) := fun h => by unfold ltP at h; omega
      go_enter Try.func31, Try.ntmps31
      go_wp2
      go_ret
      exact .inr ⟨rfl, HL.out, by (repeat (first | with_reducible exact Below.refl _ _ | with_reducible refine Below.drew ?_ | with_reducible refine below_drewN ?_ _ | (with_reducible refine bel_alloc ?_ ?_ _; (first | omega | (simp; omega) | simp)) | (with_reducible refine bel_set ?_ ?_ _; (first | omega | (simp; omega) | simp)) | (with_reducible refine bel_tr (by assumption) ?_ ?_; (first | omega | (simp; omega) | simp))))⟩

end Go.Proofs.Ytlkladabefpnfaa
