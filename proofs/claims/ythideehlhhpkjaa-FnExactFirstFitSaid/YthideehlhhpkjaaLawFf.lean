/-
  Walk of the law on FirstFit: it returns true and leaves old memory alone.
-/
import Derived.Test.YthideehlhhpkjaaFf
namespace Go.Proofs.Ythideehlhhpkjaa
open Go.RowKit

set_option maxHeartbeats 1000000 in
theorem lawFirstFit (A : Option Addr) (n c : Nat) (free : Int) (A2 : Option Addr) (m c2 : Nat) (es ss : List (Nat → Int)) (w : World) (hn0 : n ≤ 9223372036854775807) (hm0 : m ≤ 9223372036854775807) (h : Rd w 4 A n es) (hs : Rd w 1 A2 m ss) :
    Calls Try.prog 4 #[.slice A n c, .int .i64 free, .slice A2 m c2] w fun x w' => x = .returned (.bool true) ∧ Below w.heap.size w w' := by
  have H := Lib.hid h
  have HS := Lib.hid hs
  clear h hs
  by_cases hm : m ≤ 1048576
  · have hm4 : m ≤ 4194304 := by omega
    go_enter Try.func4, Try.ntmps4
    go_wp2_with fail
    refine (szEntryS_any A n c 1048576 _ hn0 (by omega) (by omega)).mono ?_
    by_cases hn : (n : Int) ≤ 1048576
    · rw [if_pos hn]
      rintro x w' ⟨rfl, rfl⟩
      have hn : n ≤ 1048576 := by omega
      have hn4 : n ≤ 4194304 := by omega
      go_wp2_with fail
      refine (toEntryS_any A n c es _ hn H.out).mono ?_
      rintro x w1 ⟨A1, c1, rfl, o1, b1⟩
      have s1 := b1.size
      have O1 := Lib.hid o1
      clear o1
      go_wp2_with fail
      refine (toIntS_any A2 m c2 ss _ hm (HS.out.below (by (repeat (first | with_reducible exact Below.refl _ _ | with_reducible refine Below.drew ?_ | with_reducible refine below_drewN ?_ _ | (with_reducible refine bel_alloc ?_ ?_ _; (first | omega | (simp; omega) | simp)) | (with_reducible refine bel_set ?_ ?_ _; (first | omega | (simp; omega) | simp)) | (with_reducible refine bel_tr (by assumption) ?_ ?_; (first | omega | (simp; omega) | simp))))))).mono ?_
      rintro x w2 ⟨A3, c3, rfl, o2, b2⟩
      have s2 := b2.size
      have O2 := Lib.hid o2
      clear o2
      go_wp2_with fail
      refine (sFirstFit_any A1 A3 n c1 m c3 free es ss _ hn4 hm4 (O1.out.rd.below (by (repeat (first | with_reducible exact Below.refl _ _ | with_reducible refine Below.drew ?_ | with_reducible refine below_drewN ?_ _ | (with_reducible refine bel_alloc ?_ ?_ _; (first | omega | (simp; omega) | simp)) | (with_reducible refine bel_set ?_ ?_ _; (first | omega | (simp; omega) | simp)) | (with_reducible refine bel_tr (by assumption) ?_ ?_; (first | omega | (simp; omega) | simp)))))) O2.out.rd).mono ?_
      rintro x w3 ⟨r, hr, rfl, b3⟩
      have s3 := b3.size
      have HR := Lib.hid hr
      clear hr
      go_wp2_with fail
      refine (toEntryS_any A n c es _ hn (H.out.below (by (repeat (first | with_reducible exact Below.refl _ _ | with_reducible refine Below.drew ?_ | with_reducible refine below_drewN ?_ _ | (with_reducible refine bel_alloc ?_ ?_ _; (first | omega | (simp; omega) | simp)) | (with_reducible refine bel_set ?_ ?_ _; (first | omega | (simp; omega) | simp)) | (with_reducible refine bel_tr (by assumption) ?_ ?_; (first | omega | (simp; omega) | simp))))))).mono ?_
      rintro x w4 ⟨A4, c4, rfl, o4, b4⟩
      have s4 := b4.size
      have O4 := Lib.hid o4
      clear o4
      go_wp2_with fail
      refine (toIntS_any A2 m c2 ss _ hm (HS.out.below (by (repeat (first | with_reducible exact Below.refl _ _ | with_reducible refine Below.drew ?_ | with_reducible refine below_drewN ?_ _ | (with_reducible refine bel_alloc ?_ ?_ _; (first | omega | (simp; omega) | simp)) | (with_reducible refine bel_set ?_ ?_ _; (first | omega | (simp; omega) | simp)) | (with_reducible refine bel_tr (by assumption) ?_ ?_; (first | omega | (simp; omega) | simp))))))).mono ?_
      rintro x w5 ⟨A5, c5, rfl, o5, b5⟩
      have s5 := b5.size
      have O5 := Lib.hid o5
      clear o5
      go_wp2_with fail
      refine (iFirstFit_any A4 A5 n c4 m c5 free es ss _ hn4 hm4 (O4.out.rd.below (by (repeat (first | with_reducible exact Below.refl _ _ | with_reducible refine Below.drew ?_ | with_reducible refine below_drewN ?_ _ | (with_reducible refine bel_alloc ?_ ?_ _; (first | omega | (simp; omega) | simp)) | (with_reducible refine bel_set ?_ ?_ _; (first | omega | (simp; omega) | simp)) | (with_reducible refine bel_tr (by assumption) ?_ ?_; (first | omega | (simp; omega) | simp)))))) O5.out.rd).mono ?_
      rintro x w6 ⟨s, hs, rfl, b6⟩
      have s6 := b6.size
      obtain rfl := HR.out.uniq hs
      clear hs
      go_wp2_with fail
      refine (toEntryS_any A n c es _ hn (H.out.below (by (repeat (first | with_reducible exact Below.refl _ _ | with_reducible refine Below.drew ?_ | with_reducible refine below_drewN ?_ _ | (with_reducible refine bel_alloc ?_ ?_ _; (first | omega | (simp; omega) | simp)) | (with_reducible refine bel_set ?_ ?_ _; (first | omega | (simp; omega) | simp)) | (with_reducible refine bel_tr (by assumption) ?_ ?_; (first | omega | (simp; omega) | simp))))))).mono ?_
      rintro x w7 ⟨A7, c7, rfl, o7, b7⟩
      have s7 := b7.size
      have O7 := Lib.hid o7
      clear o7
      go_wp2_with fail
      refine (eqEntryS_same A4 A7 n c4 c7 es _ hn4 (O4.out.rd.below (by (repeat (first | with_reducible exact Below.refl _ _ | with_reducible refine Below.drew ?_ | with_reducible refine below_drewN ?_ _ | (with_reducible refine bel_alloc ?_ ?_ _; (first | omega | (simp; omega) | simp)) | (with_reducible refine bel_set ?_ ?_ _; (first | omega | (simp; omega) | simp)) | (with_reducible refine bel_tr (by assumption) ?_ ?_; (first | omega | (simp; omega) | simp)))))) O7.out.rd).mono ?_
      rintro x w8 ⟨rfl, b8⟩
      have s8 := b8.size
      go_wp2_with fail
      refine (toIntS_any A2 m c2 ss _ hm (HS.out.below (by (repeat (first | with_reducible exact Below.refl _ _ | with_reducible refine Below.drew ?_ | with_reducible refine below_drewN ?_ _ | (with_reducible refine bel_alloc ?_ ?_ _; (first | omega | (simp; omega) | simp)) | (with_reducible refine bel_set ?_ ?_ _; (first | omega | (simp; omega) | simp)) | (with_reducible refine bel_tr (by assumption) ?_ ?_; (first | omega | (simp; omega) | simp))))))).mono ?_
      rintro x w9 ⟨A9, c9, rfl, o9, b9⟩
      have s9 := b9.size
      have O9 := Lib.hid o9
      clear o9
      go_wp2_with fail
      refine (eqIntS_same A5 A9 m c5 c9 ss _ hm4 (O5.out.rd.below (by (repeat (first | with_reducible exact Below.refl _ _ | with_reducible refine Below.drew ?_ | with_reducible refine below_drewN ?_ _ | (with_reducible refine bel_alloc ?_ ?_ _; (first | omega | (simp; omega) | simp)) | (with_reducible refine bel_set ?_ ?_ _; (first | omega | (simp; omega) | simp)) | (with_reducible refine bel_tr (by assumption) ?_ ?_; (first | omega | (simp; omega) | simp)))))) O9.out.rd).mono ?_
      rintro x w10 ⟨rfl, b10⟩
      have s10 := b10.size
      go_wp2
      go_ret
      exact ⟨rfl, by (repeat (first | with_reducible exact Below.refl _ _ | with_reducible refine Below.drew ?_ | with_reducible refine below_drewN ?_ _ | (with_reducible refine bel_alloc ?_ ?_ _; (first | omega | (simp; omega) | simp)) | (with_reducible refine bel_set ?_ ?_ _; (first | omega | (simp; omega) | simp)) | (with_reducible refine bel_tr (by assumption) ?_ ?_; (first | omega | (simp; omega) | simp))))⟩
    · rw [if_neg hn]
      rintro x w' ⟨rfl, rfl⟩
      go_wp2
      go_ret
      exact ⟨rfl, Below.refl _ _⟩
  · go_enter Try.func4, Try.ntmps4
    go_wp2
    go_ret
    exact ⟨rfl, Below.refl _ _⟩
end Go.Proofs.Ythideehlhhpkjaa
