/-
  Walks of the ledger laws: each returns true and leaves old memory alone.
-/
import Derived.Test.YteimoaeihemfoaaLed
namespace Go.Proofs.Yteimoaeihemfoaa
open Go.RowKit

set_option maxHeartbeats 400000 in
theorem lawLedgerOk (t f h s d : Int) (w : World) :
    Calls Try.prog 3 #[.agg #[.int .i64 t, .int .i64 f, .int .i64 h, .int .i64 s, .int .i64 d]] w fun e w' => e = .returned (.bool true) ∧ Below w.heap.size w w' := by
  by_cases hL : LOk t f h s d
  all_goals
    go_enter Try.func3, Try.ntmps3
    go_wp2_with (first
      | (go_at_call 9; refine (toLedger_any _ _ _ _ _ _).mono ?_; rintro e w1 ⟨rfl, hb1⟩; (obtain ⟨hc1, hf1⟩ := bcell hb1; have hz1 : w.heap.size < w1.heap.size := by (have h := hb1.size; (try simp at h); omega)))
      | (go_at_call 8; refine (okS_any _ _ _ _ _ _).mono ?_; rintro e w2 (⟨rfl, hp, hb2⟩ | ⟨rfl, hp, hb2⟩) <;> (obtain ⟨hc2, hf2⟩ := bcell hb2; have hz2 : w.heap.size < w2.heap.size := by (have h := hb2.size; (try simp at h); omega)))
      | (go_at_call 10; refine (okI_any _ _ _ _ _ _).mono ?_; rintro e w3 (⟨rfl, hp, hb3⟩ | ⟨rfl, hp, hb3⟩) <;> (obtain ⟨hc3, hf3⟩ := bcell hb3; have hz3 : w.heap.size < w3.heap.size := by (have h := hb3.size; (try simp at h); omega))))
    all_goals (first | contradiction | skip)
    all_goals go_ret
    all_goals refine ⟨rfl, ?_⟩
    all_goals (repeat (first | with_reducible exact Below.refl _ _ | with_reducible refine Below.drew ?_ | with_reducible refine below_drewN ?_ _ | (with_reducible refine bel_alloc ?_ ?_ _; (first | omega | (simp; omega) | simp)) | (with_reducible refine bel_set ?_ ?_ _; (first | omega | (simp; omega) | simp)) | (with_reducible refine bel_tr (by assumption) ?_ ?_; (first | omega | (simp; omega) | simp))))
end Go.Proofs.Yteimoaeihemfoaa
