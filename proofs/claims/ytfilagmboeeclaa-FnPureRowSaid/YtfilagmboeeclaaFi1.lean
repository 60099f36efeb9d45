/-
  QueuePut of the reference with the result's capacity; rows that draws leave alone. No conditions beyond those stated.
-/
import Derived.Test.YtfilagmboeeclaaDe1
import Derived.Test.YtfilagmboeeclaaDx
namespace Go.Proofs.Ytfilagmboeeclaa
open Go.RowKit

theorem l7Put_row (A : Option Addr) (n c : Nat) (es : List (Nat → Int)) (e : Nat → Int) (w : World) (hn : n ≤ 4194303) (hnc : n ≤ c) (hcm : c ≤ 9223372036854775807) (h : Rd w 4 A n es) :
    Calls Try.prog 16 #[.slice A n c, .agg #[.int .i64 (e 0), .int .i64 (e 1), .int .i64 (e 2), .int .i64 (e 3)]] w fun y w' => ∃ v, y = .returned v ∧ w'.ownsRow w.heap.size 26 4 v (n + 1) (flat 4 (insL es (plc es e n) e)) ∧ Below w.heap.size w w' := by
  rcases Nat.eq_zero_or_pos n with h0 | h0
  · exact l7Put_zero A n c es e w hn hnc hcm h h0
  · obtain ⟨b, off, rfl, _, _⟩ := h.2.resolve_left (by omega)
    exact l7Put_pos b off n c es e w hn hnc hcm h h0

set_option maxRecDepth 100000 in
set_option maxHeartbeats 4000000 in
theorem sQueuePut_row (A : Option Addr) (n c N : Nat) (es T : List (Nat → Int)) (e : Nat → Int) (bv : Bool) (w : World) (hn : n ≤ 4194303) (hnc : n ≤ c) (hcm : c ≤ 9223372036854775807) (hR : PutR es e n T N bv) (h : Rd w 4 A n es) :
    Calls Try.prog 7 #[.slice A n c, .agg #[.int .i64 (e 0), .int .i64 (e 1), .int .i64 (e 2), .int .i64 (e 3)]] w fun y w' => ∃ v, y = .returned (.tuple #[v, .bool bv]) ∧ w'.ownsRow w.heap.size 26 4 v N (flat 4 T) ∧ Below w.heap.size w w' := by
  have HL := Lib.hid h.1
  have H := Lib.hid h
  clear h
  go_enter Try.func7, Try.ntmps7
  go_wp2_with fail
  refine (l7Put_row A n c es e _ hn hnc hcm (H.out.below (by (repeat (first | with_reducible exact Below.refl _ _ | with_reducible refine Below.drew ?_ | with_reducible refine below_drewN ?_ _ | (with_reducible refine bel_alloc ?_ ?_ _; (first | omega | (simp; omega) | simp)) | (with_reducible refine bel_set ?_ ?_ _; (first | omega | (simp; omega) | simp)) | (with_reducible refine bel_tr (by assumption) ?_ ?_; (first | omega | (simp; omega) | simp))))))).mono ?_
  rintro y w3 ⟨v3, rfl, r3, b3⟩
  obtain ⟨A3, c3, rfl, hc3, hc4, o3⟩ := own_of_row_cap (insL_len HL.out plc_le) r3
  have R3 := Lib.hid r3
  clear r3
  have s3 := b3.size
  (try simp at s3)
  have O3 := Lib.hid (o3.lower_ (B' := w.heap.size) (by (first | omega | (simp; omega) | simp)))
  clear o3
  go_wp2_with fail
  by_cases h1 : QOk es n
  · refine (ty (sQueueOk_any _ n c es _ (by omega) hnc (H.out.below (by (repeat (first | with_reducible exact Below.refl _ _ | with_reducible refine Below.drew ?_ | with_reducible refine below_drewN ?_ _ | (with_reducible refine bel_alloc ?_ ?_ _; (first | omega | (simp; omega) | simp)) | (with_reducible refine bel_set ?_ ?_ _; (first | omega | (simp; omega) | simp)) | (with_reducible refine bel_tr (by assumption) ?_ ?_; (first | omega | (simp; omega) | simp))))))) h1).mono ?_
    rintro y w4 ⟨rfl, b4⟩
    have s4 := b4.size
    go_wp2_with fail
    by_cases h2 : QOk (insL es (plc es e n) e) (n + 1)
    · refine (ty (sQueueOk_any A3 (n + 1) c3 (insL es (plc es e n) e) _ (by omega) hc3 (O3.out.rd.below (by (repeat (first | with_reducible exact Below.refl _ _ | with_reducible refine Below.drew ?_ | with_reducible refine below_drewN ?_ _ | (with_reducible refine bel_alloc ?_ ?_ _; (first | omega | (simp; omega) | simp)) | (with_reducible refine bel_set ?_ ?_ _; (first | omega | (simp; omega) | simp)) | (with_reducible refine bel_tr (by assumption) ?_ ?_; (first | omega | (simp; omega) | simp))))))) h2).mono ?_
      rintro y w5 ⟨rfl, b5⟩
      have s5 := b5.size
      go_wp2
      go_ret2
      rcases hR with ⟨_, rfl, rfl, rfl⟩ | ⟨h3, _⟩
      · exact ⟨_, rfl, (row_below R3.out (show Below w3.heap.size w3 w5 from by (repeat (first | with_reducible exact Below.refl _ _ | with_reducible refine Below.drew ?_ | with_reducible refine below_drewN ?_ _ | (with_reducible refine bel_alloc ?_ ?_ _; (first | omega | (simp; omega) | simp)) | (with_reducible refine bel_set ?_ ?_ _; (first | omega | (simp; omega) | simp)) | (with_reducible refine bel_tr (by assumption) ?_ ?_; (first | omega | (simp; omega) | simp)))))).lower (by (first | omega | (simp; omega) | simp)), by (repeat (first | with_reducible exact Below.refl _ _ | with_reducible refine Below.drew ?_ | with_reducible refine below_drewN ?_ _ | (with_reducible refine bel_alloc ?_ ?_ _; (first | omega | (simp; omega) | simp)) | (with_reducible refine bel_set ?_ ?_ _; (first | omega | (simp; omega) | simp)) | (with_reducible refine bel_tr (by assumption) ?_ ?_; (first | omega | (simp; omega) | simp))))⟩
      · exact absurd ⟨h1, h2⟩ h3
    · refine (tn (sQueueOk_any A3 (n + 1) c3 (insL es (plc es e n) e) _ (by omega) hc3 (O3.out.rd.below (by (repeat (first | with_reducible exact Below.refl _ _ | with_reducible refine Below.drew ?_ | with_reducible refine below_drewN ?_ _ | (with_reducible refine bel_alloc ?_ ?_ _; (first | omega | (simp; omega) | simp)) | (with_reducible refine bel_set ?_ ?_ _; (first | omega | (simp; omega) | simp)) | (with_reducible refine bel_tr (by assumption) ?_ ?_; (first | omega | (simp; omega) | simp))))))) h2).mono ?_
      rintro y w5 ⟨rfl, b5⟩
      have s5 := b5.size
      go_wp2_with fail
      refine (l7Copy_any _ n c es _ (by omega) (H.out.below (by (repeat (first | with_reducible exact Below.refl _ _ | with_reducible refine Below.drew ?_ | with_reducible refine below_drewN ?_ _ | (with_reducible refine bel_alloc ?_ ?_ _; (first | omega | (simp; omega) | simp)) | (with_reducible refine bel_set ?_ ?_ _; (first | omega | (simp; omega) | simp)) | (with_reducible refine bel_tr (by assumption) ?_ ?_; (first | omega | (simp; omega) | simp))))))).mono ?_
      rintro y w6 ⟨v, rfl, o6, b6⟩
      have s6 := b6.size; have R6 := Lib.hid o6
      obtain ⟨A6, c6, rfl, q6⟩ := own_of_row HL.out o6
      have O6 := Lib.hid (q6.lower_ (B' := w.heap.size) (by (first | omega | (simp; omega) | simp)))
      clear o6 q6
      go_wp2
      go_ret2
      rcases hR with ⟨h3, _⟩ | ⟨_, rfl, rfl, rfl⟩
      · exact absurd h3 (fun h3 => h2 h3.2)
      · exact ⟨_, rfl, R6.out.lower (by (first | omega | (simp; omega) | simp)), by (repeat (first | with_reducible exact Below.refl _ _ | with_reducible refine Below.drew ?_ | with_reducible refine below_drewN ?_ _ | (with_reducible refine bel_alloc ?_ ?_ _; (first | omega | (simp; omega) | simp)) | (with_reducible refine bel_set ?_ ?_ _; (first | omega | (simp; omega) | simp)) | (with_reducible refine bel_tr (by assumption) ?_ ?_; (first | omega | (simp; omega) | simp))))⟩
  · refine (tn (sQueueOk_any _ n c es _ (by omega) hnc (H.out.below (by (repeat (first | with_reducible exact Below.refl _ _ | with_reducible refine Below.drew ?_ | with_reducible refine below_drewN ?_ _ | (with_reducible refine bel_alloc ?_ ?_ _; (first | omega | (simp; omega) | simp)) | (with_reducible refine bel_set ?_ ?_ _; (first | omega | (simp; omega) | simp)) | (with_reducible refine bel_tr (by assumption) ?_ ?_; (first | omega | (simp; omega) | simp))))))) h1).mono ?_
    rintro y w5 ⟨rfl, b5⟩
    have s5 := b5.size
    go_wp2_with fail
    refine (l7Copy_any _ n c es _ (by omega) (H.out.below (by (repeat (first | with_reducible exact Below.refl _ _ | with_reducible refine Below.drew ?_ | with_reducible refine below_drewN ?_ _ | (with_reducible refine bel_alloc ?_ ?_ _; (first | omega | (simp; omega) | simp)) | (with_reducible refine bel_set ?_ ?_ _; (first | omega | (simp; omega) | simp)) | (with_reducible refine bel_tr (by assumption) ?_ ?_; (first | omega | (simp; omega) | simp))))))).mono ?_
    rintro y w6 ⟨v, rfl, o6, b6⟩
    have s6 := b6.size; have R6 := Lib.hid o6
    obtain ⟨A6, c6, rfl, q6⟩ := own_of_row HL.out o6
    have O6 := Lib.hid (q6.lower_ (B' := w.heap.size) (by (first | omega | (simp; omega) | simp)))
    clear o6 q6
    go_wp2
    go_ret2
    rcases hR with ⟨h3, _⟩ | ⟨_, rfl, rfl, rfl⟩
    · exact absurd h3 (fun h3 => h1 h3.1)
    · exact ⟨_, rfl, R6.out.lower (by (first | omega | (simp; omega) | simp)), by (repeat (first | with_reducible exact Below.refl _ _ | with_reducible refine Below.drew ?_ | with_reducible refine below_drewN ?_ _ | (with_reducible refine bel_alloc ?_ ?_ _; (first | omega | (simp; omega) | simp)) | (with_reducible refine bel_set ?_ ?_ _; (first | omega | (simp; omega) | simp)) | (with_reducible refine bel_tr (by assumption) ?_ ?_; (first | omega | (simp; omega) | simp))))⟩
end Go.Proofs.Ytfilagmboeeclaa
