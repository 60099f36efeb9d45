/-
  Contracts of the ledger functions of the program and of the reference. No conditions beyond those stated.
-/
import Derived.Test.YtbnkdoilpidfaaaDoorBase
namespace Go.Proofs.YtbnkdoilpidfaaaDoor
open Go.RowKit

def LOk (t f h s d : Int) : Prop := (1 ≤ t ∧ t ≤ 60) ∧ (0 ≤ f ∧ f ≤ t) ∧ (0 ≤ h ∧ h ≤ t) ∧ (0 ≤ s ∧ s ≤ t) ∧ f + h + s = t ∧ 0 ≤ d ∧ d ≤ s

set_option maxHeartbeats 400000 in
theorem okI_any (t f h s d : Int) (w : World) :
    Calls Tryd.prog 9 #[.agg #[.int .i64 t, .int .i64 f, .int .i64 h, .int .i64 s, .int .i64 d]] w (TFB (LOk t f h s d) w) := by
  go_enter Tryd.func9, Tryd.ntmps9
  go_wp2_with (go_at_call 12; refine (within_any _ _ _ _).mono ?_; rintro e w' (⟨rfl, ⟨h1, h2⟩, rfl⟩ | ⟨rfl, h1, rfl⟩))
  all_goals go_ret
  all_goals first
    | exact .inl ⟨rfl, by unfold LOk; omega, (Below.refl _ _).alloc (Nat.le_refl _) _⟩
    | exact .inr ⟨rfl, by unfold LOk; omega, (Below.refl _ _).alloc (Nat.le_refl _) _⟩

set_option maxHeartbeats 400000 in
theorem okS_any (t f h s d : Int) (w : World) :
    Calls Tryd.prog 7 #[.agg #[.int .i64 t, .int .i64 f, .int .i64 h, .int .i64 s, .int .i64 d]] w (TFB (LOk t f h s d) w) := by
  go_enter Tryd.func7, Tryd.ntmps7
  go_wp2_with (go_at_call 11; refine (l1In_any _ _ _ _).mono ?_; rintro e w' (⟨rfl, ⟨h1, h2⟩, rfl⟩ | ⟨rfl, h1, rfl⟩))
  all_goals go_ret
  all_goals first
    | exact .inl ⟨rfl, by unfold LOk; omega, (Below.refl _ _).alloc (Nat.le_refl _) _⟩
    | exact .inr ⟨rfl, by unfold LOk; omega, (Below.refl _ _).alloc (Nat.le_refl _) _⟩

set_option maxHeartbeats 400000 in
theorem toLedger_any (t f h s d : Int) (w : World) :
    Calls Tryd.prog 5 #[.agg #[.int .i64 t, .int .i64 f, .int .i64 h, .int .i64 s, .int .i64 d]] w fun e w' => e = .returned (.agg #[.int .i64 t, .int .i64 f, .int .i64 h, .int .i64 s, .int .i64 d]) ∧ Below w.heap.size w w' := by
  go_enter Tryd.func5, Tryd.ntmps5
  go_wp2
  refine bodyPost_ret (v := .agg #[.int .i64 t, .int .i64 f, .int .i64 h, .int .i64 s, .int .i64 d]) (by simp [results, Tryd.results5, go_sem]) rfl ⟨rfl, ?_⟩
  (repeat (first | with_reducible exact Below.refl _ _ | with_reducible refine Below.drew ?_ | with_reducible refine below_drewN ?_ _ | (with_reducible refine bel_alloc ?_ ?_ _; (first | omega | (simp; omega) | simp)) | (with_reducible refine bel_set ?_ ?_ _; (first | omega | (simp; omega) | simp)) | (with_reducible refine bel_tr (by assumption) ?_ ?_; (first | omega | (simp; omega) | simp))))

end Go.Proofs.YtbnkdoilpidfaaaDoor
