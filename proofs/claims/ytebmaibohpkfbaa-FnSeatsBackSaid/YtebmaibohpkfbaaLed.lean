/-
  Contracts of the ledger functions of the program and of the reference. No conditions beyond those stated.
-/
import Derived.Test.YtebmaibohpkfbaaBase
namespace Go.Proofs.Ytebmaibohpkfbaa
open Go.RowKit

def LOk (t f h s d : Int) : Prop := (1 ≤ t ∧ t ≤ 60) ∧ (0 ≤ f ∧ f ≤ t) ∧ (0 ≤ h ∧ h ≤ t) ∧ (0 ≤ s ∧ s ≤ t) ∧ f + h + s = t ∧ 0 ≤ d ∧ d ≤ s

set_option maxHeartbeats 400000 in
theorem okI_any (t f h s d : Int) (w : World) :
    Calls Try.prog 14 #[.agg #[.int .i64 t, .int .i64 f, .int .i64 h, .int .i64 s, .int .i64 d]] w (TFB (LOk t f h s d) w) := by
  go_enter Try.func14, Try.ntmps14
  go_wp2_with (go_at_call 27; refine (within_any _ _ _ _).mono ?_; rintro e w' (⟨rfl, ⟨h1, h2⟩, rfl⟩ | ⟨rfl, h1, rfl⟩))
  all_goals go_ret
  all_goals first
    | exact .inl ⟨rfl, by unfold LOk; omega, (Below.refl _ _).alloc (Nat.le_refl _) _⟩
    | exact .inr ⟨rfl, by unfold LOk; omega, (Below.refl _ _).alloc (Nat.le_refl _) _⟩

set_option maxHeartbeats 400000 in
theorem okS_any (t f h s d : Int) (w : World) :
    Calls Try.prog 13 #[.agg #[.int .i64 t, .int .i64 f, .int .i64 h, .int .i64 s, .int .i64 d]] w (TFB (LOk t f h s d) w) := by
  go_enter Try.func13, Try.ntmps13
  go_wp2_with (go_at_call 26; refine (l1In_any _ _ _ _).mono ?_; rintro e w' (⟨rfl, ⟨h1, h2⟩, rfl⟩ | ⟨rfl, h1, rfl⟩))
  all_goals go_ret
  all_goals first
    | exact .inl ⟨rfl, by unfold LOk; omega, (Below.refl _ _).alloc (Nat.le_refl _) _⟩
    | exact .inr ⟨rfl, by unfold LOk; omega, (Below.refl _ _).alloc (Nat.le_refl _) _⟩

end Go.Proofs.Ytebmaibohpkfbaa
