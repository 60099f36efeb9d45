/-
  Weak contracts of DrawPinsDue and DrawWheelPut. Conditions: the code is not longer than 2^20.
-/
import Derived.Test.YtehmanlpgjccoaaWe
namespace Go.Proofs.Ytehmanlpgjccoaa
open Go.RowKit

set_option maxRecDepth 100000 in
set_option maxHeartbeats 4000000 in
theorem drawWheelPut_any (A : Option Addr) (n c : Nat) (w : World) (hn : n ≤ 1048576) (h : RdB w A n) :
    Calls Try.prog 5 #[.slice A n c] w fun y w' => ∃ (A1 : Option Addr) (N c1 : Nat) (p : Nat → Int), y = .returned (.tuple #[.agg #[.slice A1 N c1], .agg #[.int .i64 (p 0), .int .i64 (p 1)]]) ∧ N ≤ 10 ∧ (N ≤ c1 ∧ c1 ≤ 9223372036854775807) ∧ (∃ S, RdW w' A1 N S ∧ tot S N ≤ 11) ∧ Below w.heap.size w w' := by
  have HB := Lib.hid h
  clear h
  go_enter Try.func5, Try.ntmps5
  go_wp2_with fail
  refine (l1New_any A n c _ hn (HB.out.below (by (repeat (first | with_reducible exact Below.refl _ _ | with_reducible refine Below.drew ?_ | with_reducible refine below_drewN ?_ _ | (with_reducible refine bel_alloc ?_ ?_ _; (first | omega | (simp; omega) | simp)) | (with_reducible refine bel_set ?_ ?_ _; (first | omega | (simp; omega) | simp)) | (with_reducible refine bel_tr (by assumption) ?_ ?_; (first | omega | (simp; omega) | simp))))))).mono ?_
  rintro y w1 ⟨rfl, hc1, b1⟩
  (try simp at hc1)
  have s1 := b1.size
  (try simp at s1)
  have hlt1 := hc1.lt
  have C1 := Lib.hid hc1
  clear hc1
  have kc1_0 : ∀ o, w1.cell? ⟨w.heap.size, o, none⟩ = _ := fun o => b1.cell (p := ⟨w.heap.size, o, none⟩) (by (first | omega | (simp; omega) | simp))
  have kf1_0 : ∀ o, w1.frozen? ⟨w.heap.size, o, none⟩ = _ := fun o => b1.frozen (p := ⟨w.heap.size, o, none⟩) (by (first | omega | (simp; omega) | simp))
  have kc1_1 : ∀ o, w1.cell? ⟨w.heap.size + 1, o, none⟩ = _ := fun o => b1.cell (p := ⟨w.heap.size + 1, o, none⟩) (by (first | omega | (simp; omega) | simp))
  have kf1_1 : ∀ o, w1.frozen? ⟨w.heap.size + 1, o, none⟩ = _ := fun o => b1.frozen (p := ⟨w.heap.size + 1, o, none⟩) (by (first | omega | (simp; omega) | simp))
  have B1 : Hid (Below w.heap.size w w1) := Lib.hid (by (repeat (first | with_reducible exact Below.refl _ _ | with_reducible refine Below.drew ?_ | with_reducible refine below_drewN ?_ _ | (with_reducible refine bel_alloc ?_ ?_ _; (first | omega | (simp; omega) | simp)) | (with_reducible refine bel_set ?_ ?_ _; (first | omega | (simp; omega) | simp)) | (with_reducible refine bel_tr (by assumption) ?_ ?_; (first | omega | (simp; omega) | simp)))))
  go_wp2_with fail
  refine (l9Draw_any _ _ C1.out).mono ?_
  rintro y w2 ⟨A2, N, c2, rfl, hN, hc2, ⟨S, hr, ht⟩, d2⟩
  have s2 := d2.2.size
  (try simp at s2)
  have kc2_0 : ∀ o, w2.cell? ⟨w.heap.size, o, none⟩ = _ := fun o => d2.cell (b := w.heap.size) (by (first | omega | (simp; omega) | simp)) (by first | omega | simp) o
  have kf2_0 : ∀ o, w2.frozen? ⟨w.heap.size, o, none⟩ = _ := fun o => d2.frozen (b := w.heap.size) (by (first | omega | (simp; omega) | simp)) (by first | omega | simp) o
  have kz2_0 : w.heap.size < w2.heap.size := by omega
  have ky2_0 : ¬ w.heap.size = w2.heap.size := by omega
  have kx2_0 : ¬ w2.heap.size = w.heap.size := by omega
  have kc2_1 : ∀ o, w2.cell? ⟨w.heap.size + 1, o, none⟩ = _ := fun o => d2.cell (b := w.heap.size + 1) (by (first | omega | (simp; omega) | simp)) (by first | omega | simp) o
  have kf2_1 : ∀ o, w2.frozen? ⟨w.heap.size + 1, o, none⟩ = _ := fun o => d2.frozen (b := w.heap.size + 1) (by (first | omega | (simp; omega) | simp)) (by first | omega | simp) o
  have kz2_1 : w.heap.size + 1 < w2.heap.size := by omega
  have ky2_1 : ¬ w.heap.size + 1 = w2.heap.size := by omega
  have kx2_1 : ¬ w2.heap.size = w.heap.size + 1 := by omega
  have R2 : Hid (RdU (w.heap.size + 1 + 1 + 1) w2 A2 N S) := Lib.hid (hr.lower (by (first | omega | (simp; omega) | simp)))
  have T2 := Lib.hid ht
  have C2 := Lib.hid d2.1
  have B2 : Hid (Below w.heap.size w w2) := Lib.hid (B1.out.trans (d2.toBelow (by omega) (by first | omega | simp)))
  clear d2 hr ht
  go_wp2_with fail
  refine (l9Pin_any _ _ (C2.out.below (by (repeat (first | with_reducible exact Below.refl _ _ | with_reducible refine Below.drew ?_ | with_reducible refine below_drewN ?_ _ | (with_reducible refine bel_alloc ?_ ?_ _; (first | omega | (simp; omega) | simp)) | (with_reducible refine bel_set ?_ ?_ _; (first | omega | (simp; omega) | simp)) | (with_reducible refine bel_tr (by assumption) ?_ ?_; (first | omega | (simp; omega) | simp))))))).mono ?_
  rintro y w3 ⟨p, rfl, d3⟩
  have s3 := d3.2.size
  (try simp at s3)
  have kc3_0 : ∀ o, w3.cell? ⟨w.heap.size, o, none⟩ = _ := fun o => d3.cell (b := w.heap.size) (by (first | omega | (simp; omega) | simp)) (by first | omega | simp) o
  have kf3_0 : ∀ o, w3.frozen? ⟨w.heap.size, o, none⟩ = _ := fun o => d3.frozen (b := w.heap.size) (by (first | omega | (simp; omega) | simp)) (by first | omega | simp) o
  have kz3_0 : w.heap.size < w3.heap.size := by omega
  have ky3_0 : ¬ w.heap.size = w3.heap.size := by omega
  have kx3_0 : ¬ w3.heap.size = w.heap.size := by omega
  have kc3_1 : ∀ o, w3.cell? ⟨w.heap.size + 1, o, none⟩ = _ := fun o => d3.cell (b := w.heap.size + 1) (by (first | omega | (simp; omega) | simp)) (by first | omega | simp) o
  have kf3_1 : ∀ o, w3.frozen? ⟨w.heap.size + 1, o, none⟩ = _ := fun o => d3.frozen (b := w.heap.size + 1) (by (first | omega | (simp; omega) | simp)) (by first | omega | simp) o
  have kz3_1 : w.heap.size + 1 < w3.heap.size := by omega
  have ky3_1 : ¬ w.heap.size + 1 = w3.heap.size := by omega
  have kx3_1 : ¬ w3.heap.size = w.heap.size + 1 := by omega
  have R3 : Hid (RdU (w.heap.size + 1 + 1 + 1) w3 A2 N S) := Lib.hid ((R2.out.below (by (repeat (first | with_reducible exact Below.refl _ _ | with_reducible refine Below.drew ?_ | with_reducible refine below_drewN ?_ _ | (with_reducible refine bel_alloc ?_ ?_ _; (first | omega | (simp; omega) | simp)) | (with_reducible refine bel_set ?_ ?_ _; (first | omega | (simp; omega) | simp)) | (with_reducible refine bel_tr (by assumption) ?_ ?_; (first | omega | (simp; omega) | simp)))))).drew_c d3 (by (first | omega | (simp; omega) | simp)))
  have B3 : Below w.heap.size w w3 := B2.out.trans (d3.toBelow (by (first | omega | (simp; omega) | simp)) (by (first | omega | (simp; omega) | simp)))
  clear d3
  go_wp2
  refine bodyPost_ret (v := .tuple #[.agg #[.slice A2 N c2], .agg #[.int .i64 (p 0), .int .i64 (p 1)]]) (by simp only [results, Try.results5]; (first | (go_simp; done) | (go_simp; omega))) rfl ⟨A2, N, c2, p, rfl, hN, hc2, ⟨S, ?_, T2.out⟩, ?_⟩
  · first | exact ((R3.out.set_ (by omega) _).set_ (by omega) _).rdw | exact (((R3.out.set_ (by omega) _).set_ (by omega) _).set_ (by omega) _).rdw
  · (repeat (first | with_reducible exact Below.refl _ _ | with_reducible refine Below.drew ?_ | with_reducible refine below_drewN ?_ _ | (with_reducible refine bel_alloc ?_ ?_ _; (first | omega | (simp; omega) | simp)) | (with_reducible refine bel_set ?_ ?_ _; (first | omega | (simp; omega) | simp)) | (with_reducible refine bel_tr (by assumption) ?_ ?_; (first | omega | (simp; omega) | simp))))
end Go.Proofs.Ytehmanlpgjccoaa
