/-
  Walk of the law on QueueOk: it returns true and leaves old memory alone.
-/
import Derived.Test.YthideehlhhpkjaaQoi
namespace Go.Proofs.Ythideehlhhpkjaa
open Go.RowKit

set_option maxHeartbeats 1000000 in
theorem lawQueueOk (A : Option Addr) (n c : Nat) (es : List (Nat → Int)) (w : World) (hn0 : n ≤ 9223372036854775807) (h : Rd w 4 A n es) :
    Calls Try.prog 6 #[.slice A n c] w fun x w' => x = .returned (.bool true) ∧ Below w.heap.size w w' := by
  have H := Lib.hid h
  clear h
  by_cases hn : n ≤ 1048576
  · have hn4 : n ≤ 4194304 := by omega
    by_cases hQ : QOk es n
    · go_enter Try.func6, Try.ntmps6
      go_wp2_with fail
      refine (szEntryS_any A n c 1048576 _ hn0 (by omega) (by omega)).mono ?_
      rw [if_pos (by omega)]
      rintro x w0 ⟨rfl, rfl⟩
      go_wp2_with fail
      refine (toEntryS_n A n c es _ hn H.out).mono ?_
      rintro x w1 ⟨A1, rfl, o1, b1⟩
      have s1 := b1.size
      go_wp2_with fail
      refine (ty (sQueueOk_any A1 n n es _ hn0 (Nat.le_refl _) o1.rd) hQ).mono ?_
      rintro x w2 ⟨rfl, b2⟩
      have s2 := b2.size
      go_wp2_with fail
      refine (toEntryS_n A n c es _ hn (H.out.below (by (repeat (first | with_reducible exact Below.refl _ _ | with_reducible refine Below.drew ?_ | with_reducible refine below_drewN ?_ _ | (with_reducible refine bel_alloc ?_ ?_ _; (first | omega | (simp; omega) | simp)) | (with_reducible refine bel_set ?_ ?_ _; (first | omega | (simp; omega) | simp)) | (with_reducible refine bel_tr (by assumption) ?_ ?_; (first | omega | (simp; omega) | simp))))))).mono ?_
      rintro x w3 ⟨A3, rfl, o3, b3⟩
      have s3 := b3.size
      have O3 := Lib.hid o3
      clear o3 o1
      go_wp2_with fail
      refine (ty (iQueueOk_any A3 n n es _ hn0 (Nat.le_refl _) O3.out.rd) hQ).mono ?_
      rintro x w4 ⟨rfl, b4⟩
      have s4 := b4.size
      go_wp2_with fail
      refine (toEntryS_n A n c es _ hn (H.out.below (by (repeat (first | with_reducible exact Below.refl _ _ | with_reducible refine Below.drew ?_ | with_reducible refine below_drewN ?_ _ | (with_reducible refine bel_alloc ?_ ?_ _; (first | omega | (simp; omega) | simp)) | (with_reducible refine bel_set ?_ ?_ _; (first | omega | (simp; omega) | simp)) | (with_reducible refine bel_tr (by assumption) ?_ ?_; (first | omega | (simp; omega) | simp))))))).mono ?_
      rintro x w5 ⟨A5, rfl, o5, b5⟩
      have s5 := b5.size
      have O5 := Lib.hid o5
      clear o5
      go_wp2_with fail
      refine (eqEntryS_same A3 A5 n n n es _ hn4 (O3.out.rd.below (by (repeat (first | with_reducible exact Below.refl _ _ | with_reducible refine Below.drew ?_ | with_reducible refine below_drewN ?_ _ | (with_reducible refine bel_alloc ?_ ?_ _; (first | omega | (simp; omega) | simp)) | (with_reducible refine bel_set ?_ ?_ _; (first | omega | (simp; omega) | simp)) | (with_reducible refine bel_tr (by assumption) ?_ ?_; (first | omega | (simp; omega) | simp)))))) O5.out.rd).mono ?_
      rintro x w6 ⟨rfl, b6⟩
      have s6 := b6.size
      go_wp2
      go_ret
      exact ⟨rfl, by (repeat (first | with_reducible exact Below.refl _ _ | with_reducible refine Below.drew ?_ | with_reducible refine below_drewN ?_ _ | (with_reducible refine bel_alloc ?_ ?_ _; (first | omega | (simp; omega) | simp)) | (with_reducible refine bel_set ?_ ?_ _; (first | omega | (simp; omega) | simp)) | (with_reducible refine bel_tr (by assumption) ?_ ?_; (first | omega | (simp; omega) | simp))))⟩
    · go_enter Try.func6, Try.ntmps6
      go_wp2_with fail
      refine (szEntryS_any A n c 1048576 _ hn0 (by omega) (by omega)).mono ?_
      rw [if_pos (by omega)]
      rintro x w0 ⟨rfl, rfl⟩
      go_wp2_with fail
      refine (toEntryS_n A n c es _ hn H.out).mono ?_
      rintro x w1 ⟨A1, rfl, o1, b1⟩
      have s1 := b1.size
      go_wp2_with fail
      refine (tn (sQueueOk_any A1 n n es _ hn0 (Nat.le_refl _) o1.rd) hQ).mono ?_
      rintro x w2 ⟨rfl, b2⟩
      have s2 := b2.size
      go_wp2_with fail
      refine (toEntryS_n A n c es _ hn (H.out.below (by (repeat (first | with_reducible exact Below.refl _ _ | with_reducible refine Below.drew ?_ | with_reducible refine below_drewN ?_ _ | (with_reducible refine bel_alloc ?_ ?_ _; (first | omega | (simp; omega) | simp)) | (with_reducible refine bel_set ?_ ?_ _; (first | omega | (simp; omega) | simp)) | (with_reducible refine bel_tr (by assumption) ?_ ?_; (first | omega | (simp; omega) | simp))))))).mono ?_
      rintro x w3 ⟨A3, rfl, o3, b3⟩
      have s3 := b3.size
      have O3 := Lib.hid o3
      clear o3 o1
      go_wp2_with fail
      refine (tn (iQueueOk_any A3 n n es _ hn0 (Nat.le_refl _) O3.out.rd) hQ).mono ?_
      rintro x w4 ⟨rfl, b4⟩
      have s4 := b4.size
      go_wp2_with fail
      refine (toEntryS_n A n c es _ hn (H.out.below (by (repeat (first | with_reducible exact Below.refl _ _ | with_reducible refine Below.drew ?_ | with_reducible refine below_drewN ?_ _ | (with_reducible refine bel_alloc ?_ ?_ _; (first | omega | (simp; omega) | simp)) | (with_reducible refine bel_set ?_ ?_ _; (first | omega | (simp; omega) | simp)) | (with_reducible refine bel_tr (by assumption) ?_ ?_; (first | omega | (simp; omega) | simp))))))).mono ?_
      rintro x w5 ⟨A5, rfl, o5, b5⟩
      have s5 := b5.size
      have O5 := Lib.hid o5
      clear o5
      go_wp2_with fail
      refine (eqEntryS_same A3 A5 n n n es _ hn4 (O3.out.rd.below (by (repeat (first | with_reducible exact Below.refl _ _ | with_reducible refine Below.drew ?_ | with_reducible refine below_drewN ?_ _ | (with_reducible refine bel_alloc ?_ ?_ _; (first | omega | (simp; omega) | simp)) | (with_reducible refine bel_set ?_ ?_ _; (first | omega | (simp; omega) | simp)) | (with_reducible refine bel_tr (by assumption) ?_ ?_; (first | omega | (simp; omega) | simp)))))) O5.out.rd).mono ?_
      rintro x w6 ⟨rfl, b6⟩
      have s6 := b6.size
      go_wp2
      go_ret
      exact ⟨rfl, by (repeat (first | with_reducible exact Below.refl _ _ | with_reducible refine Below.drew ?_ | with_reducible refine below_drewN ?_ _ | (with_reducible refine bel_alloc ?_ ?_ _; (first | omega | (simp; omega) | simp)) | (with_reducible refine bel_set ?_ ?_ _; (first | omega | (simp; omega) | simp)) | (with_reducible refine bel_tr (by assumption) ?_ ?_; (first | omega | (simp; omega) | simp))))⟩
  · go_enter Try.func6, Try.ntmps6
    go_wp2_with fail
    refine (szEntryS_any A n c 1048576 _ hn0 (by omega) (by omega)).mono ?_
    rw [if_neg (by omega)]
    rintro x w0 ⟨rfl, rfl⟩
    go_wp2
    go_ret
    exact ⟨rfl, Below.refl _ _⟩
end Go.Proofs.Ythideehlhhpkjaa
