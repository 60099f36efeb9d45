/-
  Contracts of the functions on rules. No conditions beyond those stated.
-/
import Derived.Test.YtlkladabefpnfaaIs
namespace Go.Proofs.Ytlkladabefpnfaa
open Go.RowKit

/-- The numbers of the rules are right: Tiers, Room, Size, Period, Window, Rest, Tries, Crew. -/
def RInts (r : Nat → Int) : Prop := (1 ≤ r 1 ∧ r 1 ≤ 5) ∧ (1 ≤ r 2 ∧ r 2 ≤ 10) ∧ (1 ≤ r 3 ∧ r 3 ≤ 6) ∧ (1 ≤ r 4 ∧ r 4 ≤ 12) ∧ (1 ≤ r 5 ∧ r 5 ≤ 8) ∧ (0 ≤ r 6 ∧ r 6 ≤ 8) ∧ (1 ≤ r 7 ∧ r 7 ≤ 4) ∧ (1 ≤ r 8 ∧ r 8 ≤ 3)
def ROk (n : Nat) (es : List (Nat → Int)) (r : Nat → Int) : Prop := ((1 : Int) ≤ n ∧ (n : Int) ≤ 4) ∧ RInts r ∧ ∀ i, i < n → 1 ≤ fld es i 0 ∧ fld es i 0 ≤ 60
theorem ROk.bd {n : Nat} {es : List (Nat → Int)} {r : Nat → Int} (h : ROk n es r) : ((1 : Int) ≤ n ∧ (n : Int) ≤ 4) ∧ RInts r := ⟨h.1, h.2.1⟩

set_option maxHeartbeats 2000000 in
theorem spec_RulesOk (A : Option Addr) (n c : Nat) (es : List (Nat → Int)) (r : Nat → Int) (w : World) (hn : n ≤ 4194304) (h : Rd w 1 A n es) :
    Calls Try.prog 44 #[.agg #[.slice A n c, .int .i64 (r 1), .int .i64 (r 2), .int .i64 (r 3), .int .i64 (r 4), .int .i64 (r 5), .int .i64 (r 6), .int .i64 (r 7), .int .i64 (r 8)]] w (TFB (ROk n es r) w) := by
  have hcases := h.2
  clear h
  go_enter Try.func44, Try.ntmps44
  go_wp2_with (go_at_call 30; refine (l1In_any _ _ _ _).mono ?_; rintro e w2 (⟨rfl, ⟨h1, h2⟩, rfl⟩ | ⟨rfl, h1, rfl⟩))
  all_goals try (go_ret; exact .inr ⟨rfl, (fun hh => by (obtain ⟨k1, k2⟩ := hh.bd; unfold RInts at k2; omega)), (Below.refl _ _).alloc (Nat.le_refl _) _⟩)
  go_loop [3] (fun i => ∃ k : Nat, k ≤ n ∧ i = .int .i64 k ∧ Hid (∀ i, i < k → 1 ≤ fld es i 0 ∧ fld es i 0 ≤ 60)) (fun i => n - (intOf i).toNat)
  case atStart => exact ⟨0, Nat.zero_le _, rfl, fun i hi => absurd hi (by omega)⟩
  case round =>
    obtain ⟨k, hk, rfl, hall⟩ := hrel
    by_cases hlt : k < n
    · obtain ⟨b, off, rfl, hb, hc⟩ := hcases.resolve_left (by omega)
      have c0 : w.cell? ⟨b, off + k, none⟩ = some (.int .i64 (fld es k 0)) := by simpa using hc k hlt 0 (by omega)
      clear hcases hc
      by_cases ht : 1 ≤ fld es k 0 ∧ fld es k 0 ≤ 60
      · have hall' : Hid (∀ i, i < k + 1 → 1 ≤ fld es i 0 ∧ fld es i 0 ≤ 60) := fun i hi => by
          rcases Nat.lt_or_ge i k with h | h
          · exact hall.out i h
          · obtain rfl : i = k := by omega
            exact ht
        clear hall
        go_wp2_with (go_at_call 30; refine (sy (l1In_any _ _ _ _) ht).mono ?_; rintro e w2 ⟨rfl, rfl⟩)
        go_round
        case rel => exact ⟨k + 1, by omega, by go_num, hall'⟩
        case measure => simp [intOf]; omega
      · go_wp2_with (go_at_call 30; refine (sn (l1In_any _ _ _ _) ht).mono ?_; rintro e w2 ⟨rfl, rfl⟩)
        go_ret
        exact .inr ⟨rfl, (fun hh => ht (hh.2.2 k hlt)), (Below.refl _ _).alloc (Nat.le_refl _) _⟩
    · have hkn : k = n := by omega
      subst hkn
      clear hcases
      go_wp2_with (go_at_call 30; refine (l1In_any _ _ _ _).mono ?_; rintro e w2 (⟨rfl, ⟨h1, h2⟩, rfl⟩ | ⟨rfl, h1, rfl⟩))
      all_goals go_ret
      all_goals first
        | exact .inr ⟨rfl, (fun hh => by (obtain ⟨k1, k2⟩ := hh.bd; unfold RInts at k2; omega)), (Below.refl _ _).alloc (Nat.le_refl _) _⟩
        | exact .inl ⟨rfl, ⟨by omega, by unfold RInts; omega, hall.out⟩, (Below.refl _ _).alloc (Nat.le_refl _) _⟩

end Go.Proofs.Ytlkladabefpnfaa
