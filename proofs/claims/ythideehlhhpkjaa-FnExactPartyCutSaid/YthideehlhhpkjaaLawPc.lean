/-
  Walk of the law on PartyCut: it returns true and leaves old memory alone.
-/
import Derived.Test.YthideehlhhpkjaaPc
namespace Go.Proofs.Ythideehlhhpkjaa
open Go.RowKit

set_option maxRecDepth 100000 in
set_option maxHeartbeats 4000000 in
theorem lawPartyCut (A : Option Addr) (n c : Nat) (id : Int) (es : List (Nat → Int)) (w : World) (hn0 : n ≤ 9223372036854775807) (h : Rd w 10 A n es) :
    Calls Try.prog 14 #[.slice A n c, .int .i64 id] w fun y w' => y = .returned (.bool true) ∧ Below w.heap.size w w' := by
  have hlen := cutT_len (p := hasPid es id) (n := n) h.1
  obtain ⟨T, hT⟩ : ∃ T, cutT es (hasPid es id) n = T := ⟨_, rfl⟩
  obtain ⟨N, hN⟩ : ∃ N, T.length = N := ⟨_, rfl⟩
  rw [hT, hN] at hlen
  have HT := Lib.hid hT
  have HN := Lib.hid hN
  clear hT hN
  have H := Lib.hid h
  clear h
  by_cases hn : n ≤ 1048576
  · have hn4 : n ≤ 4194304 := by omega
    have hN4 : N ≤ 4194304 := by omega
    have hni : (n : Int) ≤ 1048576 := by omega
    go_enter Try.func14, Try.ntmps14
    go_wp2_with fail
    refine (szPartyS_any A n c 1048576 _ hn0 (by omega) (by omega)).mono ?_
    rw [if_pos (by omega : (n : Int) ≤ 1048576)]
    rintro y w0 ⟨rfl, rfl⟩
    go_wp2_with fail
    refine (toPartyS_n A n c es _ hn H.out).mono ?_
    rintro y w1 ⟨A1, rfl, o1, b1⟩
    have s1 := b1.size
    have O1 := Lib.hid o1
    have I1 := Lib.hid o1.inB
    clear o1
    go_wp2_with fail
    refine (sPCut A1 n n N id es T _ hn (Nat.le_refl _) (by omega) HT.out HN.out O1.out.rd).mono ?_
    rintro y w2 ⟨A2, c2, rfl, o2, b2⟩
    have s2 := b2.size
    have O2 := Lib.hid o2
    have I2 := Lib.hid o2.inB
    clear o2
    go_wp2_with fail
    refine (toPartyS_n A n c es _ hn (H.out.below (by (repeat (first | with_reducible exact Below.refl _ _ | with_reducible refine Below.drew ?_ | with_reducible refine below_drewN ?_ _ | (with_reducible refine bel_alloc ?_ ?_ _; (first | omega | (simp; omega) | simp)) | (with_reducible refine bel_set ?_ ?_ _; (first | omega | (simp; omega) | simp)) | (with_reducible refine bel_tr (by assumption) ?_ ?_; (first | omega | (simp; omega) | simp))))))).mono ?_
    rintro y w3 ⟨A3, rfl, o3, b3⟩
    have s3 := b3.size
    have O3 := Lib.hid o3
    have I3 := Lib.hid o3.inB
    clear o3
    go_wp2_with fail
    refine (iPCut A3 n n N id es T _ hn HT.out HN.out O3.out.rd).mono ?_
    rintro y w4 ⟨A4, c4, rfl, o4, b4⟩
    have s4 := b4.size
    have O4 := Lib.hid o4
    have I4 := Lib.hid o4.inB
    clear o4
    go_wp2_with fail
    refine (eqPartyS_same A4 A2 N c4 c2 T _ hN4 O4.out.rd (O2.out.rd.below (by (repeat (first | with_reducible exact Below.refl _ _ | with_reducible refine Below.drew ?_ | with_reducible refine below_drewN ?_ _ | (with_reducible refine bel_alloc ?_ ?_ _; (first | omega | (simp; omega) | simp)) | (with_reducible refine bel_set ?_ ?_ _; (first | omega | (simp; omega) | simp)) | (with_reducible refine bel_tr (by assumption) ?_ ?_; (first | omega | (simp; omega) | simp))))))).mono ?_
    rintro y w5 ⟨rfl, b5⟩
    have s5 := b5.size
    go_wp2_with fail
    refine (toPartyS_n A n c es _ hn (H.out.below (by (repeat (first | with_reducible exact Below.refl _ _ | with_reducible refine Below.drew ?_ | with_reducible refine below_drewN ?_ _ | (with_reducible refine bel_alloc ?_ ?_ _; (first | omega | (simp; omega) | simp)) | (with_reducible refine bel_set ?_ ?_ _; (first | omega | (simp; omega) | simp)) | (with_reducible refine bel_tr (by assumption) ?_ ?_; (first | omega | (simp; omega) | simp))))))).mono ?_
    rintro y w6 ⟨A6, rfl, o6, b6⟩
    have s6 := b6.size
    have O6 := Lib.hid o6
    clear o6
    go_wp2_with fail
    refine (eqPartyS_same A3 A6 n n n es _ hn4 (O3.out.rd.below (by (repeat (first | with_reducible exact Below.refl _ _ | with_reducible refine Below.drew ?_ | with_reducible refine below_drewN ?_ _ | (with_reducible refine bel_alloc ?_ ?_ _; (first | omega | (simp; omega) | simp)) | (with_reducible refine bel_set ?_ ?_ _; (first | omega | (simp; omega) | simp)) | (with_reducible refine bel_tr (by assumption) ?_ ?_; (first | omega | (simp; omega) | simp)))))) O6.out.rd).mono ?_
    rintro y w7 ⟨rfl, b7⟩
    have s7 := b7.size
    have R2 := Lib.hid (O2.out.rd.below (w' := w7) (by (repeat (first | with_reducible exact Below.refl _ _ | with_reducible refine Below.drew ?_ | with_reducible refine below_drewN ?_ _ | (with_reducible refine bel_alloc ?_ ?_ _; (first | omega | (simp; omega) | simp)) | (with_reducible refine bel_set ?_ ?_ _; (first | omega | (simp; omega) | simp)) | (with_reducible refine bel_tr (by assumption) ?_ ?_; (first | omega | (simp; omega) | simp))))))
    have P3 := Lib.hid (O3.out.below (w' := w7) (by (repeat (first | with_reducible exact Below.refl _ _ | with_reducible refine Below.drew ?_ | with_reducible refine below_drewN ?_ _ | (with_reducible refine bel_alloc ?_ ?_ _; (first | omega | (simp; omega) | simp)) | (with_reducible refine bel_set ?_ ?_ _; (first | omega | (simp; omega) | simp)) | (with_reducible refine bel_tr (by assumption) ?_ ?_; (first | omega | (simp; omega) | simp))))))
    have P4 := Lib.hid (O4.out.below (w' := w7) (by (repeat (first | with_reducible exact Below.refl _ _ | with_reducible refine Below.drew ?_ | with_reducible refine below_drewN ?_ _ | (with_reducible refine bel_alloc ?_ ?_ _; (first | omega | (simp; omega) | simp)) | (with_reducible refine bel_set ?_ ?_ _; (first | omega | (simp; omega) | simp)) | (with_reducible refine bel_tr (by assumption) ?_ ?_; (first | omega | (simp; omega) | simp))))))
    go_wp2_with fail
    refine (markPartyS_any w2.heap.size A3 n n 1 es _ hn4 (by omega) P3.out).mono ?_
    rintro y w8 ⟨rfl, m8⟩
    have s8 : w7.heap.size ≤ w8.heap.size := by have := m8.2.2; omega
    have b8 : Below w.heap.size w7 w8 := m8.below I3.out (by omega) (by omega)
    have R2' := Lib.hid (R2.out.grown_ m8.2.1 (ne_of_InB I2.out I3.out (.inl (Nat.le_refl _))))
    have P4' := Lib.hid (P4.out.grown_ m8.2.1 (ne_of_InB I4.out I3.out (.inr (Nat.le_refl _))))
    clear m8
    go_wp2_with fail
    refine (eqPartyS_same A4 A2 N c4 c2 T _ hN4 P4'.out.rd R2'.out).mono ?_
    rintro y w9 ⟨rfl, b9⟩
    have s9 := b9.size
    have R2'' := Lib.hid (R2'.out.below b9)
    have P4'' := Lib.hid (P4'.out.below b9)
    go_wp2_with fail
    refine (markPartyS_any w3.heap.size A4 N c4 1 T _ hN4 (by omega) P4''.out).mono ?_
    rintro y w10 ⟨rfl, m10⟩
    have s10 : w9.heap.size ≤ w10.heap.size := by have := m10.2.2; omega
    have b10 : Below w.heap.size w9 w10 := m10.below I4.out (by omega) (by omega)
    have R2f := Lib.hid (R2''.out.grown_ m10.2.1 (ne_of_InB I2.out I4.out (.inl (by omega))))
    have M4 := Lib.hid m10.1
    clear m10
    go_wp2_with fail
    refine (heldPartyS_any A4 N c4 1 _ hN4 (by omega) M4.out.rd).mono ?_
    rintro y w11 ⟨rfl, rfl⟩
    go_wp2_with fail
    refine (toPartyS_n A n c es _ hn (H.out.below (by (repeat (first | with_reducible exact Below.refl _ _ | with_reducible refine Below.drew ?_ | with_reducible refine below_drewN ?_ _ | (with_reducible refine bel_alloc ?_ ?_ _; (first | omega | (simp; omega) | simp)) | (with_reducible refine bel_set ?_ ?_ _; (first | omega | (simp; omega) | simp)) | (with_reducible refine bel_tr (by assumption) ?_ ?_; (first | omega | (simp; omega) | simp))))))).mono ?_
    rintro y w12 ⟨A12, rfl, o12, b12⟩
    have s12 := b12.size
    have O12 := Lib.hid o12
    clear o12
    go_wp2_with fail
    refine (iPCut A12 n n N id es T _ hn HT.out HN.out O12.out.rd).mono ?_
    rintro y w13 ⟨A13, c13, rfl, o13, b13⟩
    have s13 := b13.size
    have O13 := Lib.hid o13
    clear o13
    go_wp2_with fail
    refine (eqPartyS_same A13 A2 N c13 c2 T _ hN4 O13.out.rd (R2f.out.below (by (repeat (first | with_reducible exact Below.refl _ _ | with_reducible refine Below.drew ?_ | with_reducible refine below_drewN ?_ _ | (with_reducible refine bel_alloc ?_ ?_ _; (first | omega | (simp; omega) | simp)) | (with_reducible refine bel_set ?_ ?_ _; (first | omega | (simp; omega) | simp)) | (with_reducible refine bel_tr (by assumption) ?_ ?_; (first | omega | (simp; omega) | simp))))))).mono ?_
    rintro y w14 ⟨rfl, b14⟩
    have s14 := b14.size
    go_wp2_with fail
    refine (heldPartyS_any A4 N c4 1 _ hN4 (by omega) (M4.out.rd.below (by (repeat (first | with_reducible exact Below.refl _ _ | with_reducible refine Below.drew ?_ | with_reducible refine below_drewN ?_ _ | (with_reducible refine bel_alloc ?_ ?_ _; (first | omega | (simp; omega) | simp)) | (with_reducible refine bel_set ?_ ?_ _; (first | omega | (simp; omega) | simp)) | (with_reducible refine bel_tr (by assumption) ?_ ?_; (first | omega | (simp; omega) | simp))))))).mono ?_
    rintro y w15 ⟨rfl, rfl⟩
    go_wp2
    go_ret
    exact ⟨rfl, by (repeat (first | with_reducible exact Below.refl _ _ | with_reducible refine Below.drew ?_ | with_reducible refine below_drewN ?_ _ | (with_reducible refine bel_alloc ?_ ?_ _; (first | omega | (simp; omega) | simp)) | (with_reducible refine bel_set ?_ ?_ _; (first | omega | (simp; omega) | simp)) | (with_reducible refine bel_tr (by assumption) ?_ ?_; (first | omega | (simp; omega) | simp))))⟩
  · have hni : ¬ (n : Int) ≤ 1048576 := by omega
    go_enter Try.func14, Try.ntmps14
    go_wp2_with fail
    refine (szPartyS_any A n c 1048576 _ hn0 (by omega) (by omega)).mono ?_
    rw [if_neg (by omega : ¬ (n : Int) ≤ 1048576)]
    rintro y w0 ⟨rfl, rfl⟩
    go_wp2
    go_ret
    exact ⟨rfl, Below.refl _ _⟩
end Go.Proofs.Ythideehlhhpkjaa
