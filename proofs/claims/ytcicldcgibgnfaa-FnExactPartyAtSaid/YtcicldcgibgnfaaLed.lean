/-
  Contracts of the ledger functions of the program and of the reference. No conditions beyond those stated.
-/
import Derived.Test.YtcicldcgibgnfaaBase
namespace Go.Proofs.Ytcicldcgibgnfaa
open Go.RowKit

def LOk (t f h s d : Int) : Prop := (1 ≤ t ∧ t ≤ 60) ∧ (0 ≤ f ∧ f ≤ t) ∧ (0 ≤ h ∧ h ≤ t) ∧ (0 ≤ s ∧ s ≤ t) ∧ f + h + s = t ∧ 0 ≤ d ∧ d ≤ s

set_option maxHeartbeats 400000 in
theorem toLedger_any (t f h s d : Int) (w : World) :
    Calls Try.prog 32 #[.agg #[.int .i64 t, .int .i64 f, .int .i64 h, .int .i64 s, .int .i64 d]] w fun e w' => e = .returned (.agg #[.int .i64 t, .int .i64 f, .int .i64 h, .int .i64 s, .int .i64 d]) ∧ Below w.heap.size w w' := by
  go_enter Try.func32, Try.ntmps32
  go_wp2
  refine bodyPost_ret (v := .agg #[.int .i64 t, .int .i64 f, .int .i64 h, .int .i64 s, .int .i64 d]) (by simp [results, Try.results32, go_sem]) rfl ⟨rfl, ?_⟩
  (repeat (first | with_reducible exact Below.refl _ _ | with_reducible refine Below.drew ?_ | with_reducible refine below_drewN ?_ _ | (with_reducible refine bel_alloc ?_ ?_ _; (first | omega | (simp; omega) | simp)) | (with_reducible refine bel_set ?_ ?_ _; (first | omega | (simp; omega) | simp)) | (with_reducible refine bel_tr (by assumption) ?_ ?_; (first | omega | (simp; omega) | simp))))

set_option maxHeartbeats 400000 in
theorem eqLedger_any (t f h s d : Int) (w : World) :
    Calls Try.prog 35 #[.agg #[.int .i64 t, .int .i64 f, .int .i64 h, .int .i64 s, .int .i64 d], .agg #[.int .i64 t, .int .i64 f, .int .i64 h, .int .i64 s, .int .i64 d]] w fun e w' => e = .returned (.bool true) ∧ Below w.heap.size w w' := by
  go_enter Try.func35, Try.ntmps35
  go_wp2
  go_ret
  refine ⟨rfl, ?_⟩
  (repeat (first | with_reducible exact Below.refl _ _ | with_reducible refine Below.drew ?_ | with_reducible refine below_drewN ?_ _ | (with_reducible refine bel_alloc ?_ ?_ _; (first | omega | (simp; omega) | simp)) | (with_reducible refine bel_set ?_ ?_ _; (first | omega | (simp; omega) | simp)) | (with_reducible refine bel_tr (by assumption) ?_ ?_; (first | omega | (simp; omega) | simp))))
end Go.Proofs.Ytcicldcgibgnfaa
