/-
  Weak contracts of the functions that draw entries. Conditions: none beyond those stated.
-/
import Derived.Test.YtfilagmboeeclaaDn
import Derived.Test.YtfilagmboeeclaaPu
namespace Go.Proofs.Ytfilagmboeeclaa
open Go.RowKit

set_option maxRecDepth 100000 in
set_option maxHeartbeats 4000000 in
theorem l7Entry_any (cb : Nat) (w : World) (h : Cur w cb) :
    Calls Try.prog 11 #[.pointer (some ⟨cb, 0, none⟩)] w fun y w' => ∃ e : Nat → Int, y = .returned (.agg #[.int .i64 (e 0), .int .i64 (e 1), .int .i64 (e 2), .int .i64 (e 3)]) ∧ Drew w cb w' := by
  have hlt := h.lt
  have HC := Lib.hid h
  clear h
  go_enter Try.func11, Try.ntmps11
  go_wp2_with fail
  refine (l1Below_any cb 4 _ (by first | with_reducible exact HC.out | (with_reducible refine HC.out.below ?_; (repeat (first | with_reducible exact Below.refl _ _ | with_reducible refine Below.drew ?_ | with_reducible refine below_drewN ?_ _ | (with_reducible refine bel_alloc ?_ ?_ _; (first | omega | (simp; omega) | simp)) | (with_reducible refine bel_set ?_ ?_ _; (first | omega | (simp; omega) | simp)) | (with_reducible refine bel_tr (by assumption) ?_ ?_; (first | omega | (simp; omega) | simp))))))).mono ?_
  rintro y w1 ⟨x0, rfl, ⟨_, _, _⟩, d1⟩
  have s1 := d1.2.size
  (try simp at s1)
  have kd1_0 : ∀ o, w1.cell? ⟨w.heap.size, o, none⟩ = _ := fun o => d1.cell (b := w.heap.size) (by (first | omega | (simp; omega) | simp)) (by omega) o
  have kf1_0 : ∀ o, w1.frozen? ⟨w.heap.size, o, none⟩ = _ := fun o => d1.frozen (b := w.heap.size) (by (first | omega | (simp; omega) | simp)) (by omega) o
  have kz1_0 : w.heap.size < w1.heap.size := by (first | omega | (simp; omega) | simp)
  have ky1_0 : ¬ w.heap.size = w1.heap.size := by (first | omega | (simp; omega) | simp)
  have kx1_0 : ¬ w1.heap.size = w.heap.size := by (first | omega | (simp; omega) | simp)
  have kcb1_0 : ¬ w.heap.size = cb := by omega
  have D1 : Drew w cb w1 := Drew.trans (by (repeat (first | with_reducible assumption | (with_reducible refine Drew.set hlt ?_ ?_; (first | omega | (simp; omega) | simp)) | with_reducible refine Drew.alloc _ ?_ | with_reducible refine Drew.drewN _ ?_ | with_reducible exact Cur.drew_below HC.out (Below.refl _ _)))) d1
  have C1 := Lib.hid d1.1
  clear d1
  go_wp2_with fail
  refine (l1Below_any cb 20 _ C1.out).mono ?_
  rintro y w2 ⟨x1, rfl, ⟨_, _, _⟩, d2⟩
  have s2 := d2.2.size
  (try simp at s2)
  have kd2_0 : ∀ o, w2.cell? ⟨w.heap.size, o, none⟩ = _ := fun o => d2.cell (b := w.heap.size) (by (first | omega | (simp; omega) | simp)) (by omega) o
  have kf2_0 : ∀ o, w2.frozen? ⟨w.heap.size, o, none⟩ = _ := fun o => d2.frozen (b := w.heap.size) (by (first | omega | (simp; omega) | simp)) (by omega) o
  have kz2_0 : w.heap.size < w2.heap.size := by (first | omega | (simp; omega) | simp)
  have ky2_0 : ¬ w.heap.size = w2.heap.size := by (first | omega | (simp; omega) | simp)
  have kx2_0 : ¬ w2.heap.size = w.heap.size := by (first | omega | (simp; omega) | simp)
  have kcb2_0 : ¬ w.heap.size = cb := by omega
  have D2 : Drew w cb w2 := Drew.trans (by (repeat (first | with_reducible assumption | (with_reducible refine Drew.set hlt ?_ ?_; (first | omega | (simp; omega) | simp)) | with_reducible refine Drew.alloc _ ?_ | with_reducible refine Drew.drewN _ ?_ | with_reducible exact Cur.drew_below HC.out (Below.refl _ _)))) d2
  have C2 := Lib.hid d2.1
  clear d2
  go_wp2_with fail
  refine (l1Below_any cb 12 _ C2.out).mono ?_
  rintro y w3 ⟨x2, rfl, ⟨_, _, _⟩, d3⟩
  have s3 := d3.2.size
  (try simp at s3)
  have kd3_0 : ∀ o, w3.cell? ⟨w.heap.size, o, none⟩ = _ := fun o => d3.cell (b := w.heap.size) (by (first | omega | (simp; omega) | simp)) (by omega) o
  have kf3_0 : ∀ o, w3.frozen? ⟨w.heap.size, o, none⟩ = _ := fun o => d3.frozen (b := w.heap.size) (by (first | omega | (simp; omega) | simp)) (by omega) o
  have kz3_0 : w.heap.size < w3.heap.size := by (first | omega | (simp; omega) | simp)
  have ky3_0 : ¬ w.heap.size = w3.heap.size := by (first | omega | (simp; omega) | simp)
  have kx3_0 : ¬ w3.heap.size = w.heap.size := by (first | omega | (simp; omega) | simp)
  have kcb3_0 : ¬ w.heap.size = cb := by omega
  have D3 : Drew w cb w3 := Drew.trans (by (repeat (first | with_reducible assumption | (with_reducible refine Drew.set hlt ?_ ?_; (first | omega | (simp; omega) | simp)) | with_reducible refine Drew.alloc _ ?_ | with_reducible refine Drew.drewN _ ?_ | with_reducible exact Cur.drew_below HC.out (Below.refl _ _)))) d3
  have C3 := Lib.hid d3.1
  clear d3
  go_wp2_with fail
  refine (l1Below_any cb 6 _ C3.out).mono ?_
  rintro y w4 ⟨x3, rfl, ⟨_, _, _⟩, d4⟩
  have s4 := d4.2.size
  (try simp at s4)
  have kd4_0 : ∀ o, w4.cell? ⟨w.heap.size, o, none⟩ = _ := fun o => d4.cell (b := w.heap.size) (by (first | omega | (simp; omega) | simp)) (by omega) o
  have kf4_0 : ∀ o, w4.frozen? ⟨w.heap.size, o, none⟩ = _ := fun o => d4.frozen (b := w.heap.size) (by (first | omega | (simp; omega) | simp)) (by omega) o
  have kz4_0 : w.heap.size < w4.heap.size := by (first | omega | (simp; omega) | simp)
  have ky4_0 : ¬ w.heap.size = w4.heap.size := by (first | omega | (simp; omega) | simp)
  have kx4_0 : ¬ w4.heap.size = w.heap.size := by (first | omega | (simp; omega) | simp)
  have kcb4_0 : ¬ w.heap.size = cb := by omega
  have D4 : Drew w cb w4 := Drew.trans (by (repeat (first | with_reducible assumption | (with_reducible refine Drew.set hlt ?_ ?_; (first | omega | (simp; omega) | simp)) | with_reducible refine Drew.alloc _ ?_ | with_reducible refine Drew.drewN _ ?_ | with_reducible exact Cur.drew_below HC.out (Below.refl _ _)))) d4
  have C4 := Lib.hid d4.1
  clear d4
  go_wp2_with fail
  refine (l1PickInt_any cb _ 8 8 _ _ (by first | with_reducible exact C4.out | (refine Drew.cur (w := w) ?_; (repeat (first | with_reducible assumption | (with_reducible refine Drew.set hlt ?_ ?_; (first | omega | (simp; omega) | simp)) | with_reducible refine Drew.alloc _ ?_ | with_reducible refine Drew.drewN _ ?_ | with_reducible exact Cur.drew_below HC.out (Below.refl _ _))))) (rd_litsb _ _ [-1, 0, 5, 7, 1000, 1000001, 9223372036854775807, -9223372036854775808] _ (by (first | omega | (simp; omega) | simp))) (by omega) (by omega) (by rintro a ⟨⟩; show _ ≠ cb; (first | omega | (simp; omega) | simp))).mono ?_
  rintro y w5 ⟨x, rfl, _, d5⟩
  have s5 := d5.2.size
  (try simp at s5)
  have kd5_0 : ∀ o, w5.cell? ⟨w.heap.size, o, none⟩ = _ := fun o => d5.cell (b := w.heap.size) (by (first | omega | (simp; omega) | simp)) (by omega) o
  have kf5_0 : ∀ o, w5.frozen? ⟨w.heap.size, o, none⟩ = _ := fun o => d5.frozen (b := w.heap.size) (by (first | omega | (simp; omega) | simp)) (by omega) o
  have kd5_1 : ∀ o, w5.cell? ⟨w4.heap.size, o, none⟩ = _ := fun o => d5.cell (b := w4.heap.size) (by (first | omega | (simp; omega) | simp)) (by omega) o
  have kf5_1 : ∀ o, w5.frozen? ⟨w4.heap.size, o, none⟩ = _ := fun o => d5.frozen (b := w4.heap.size) (by (first | omega | (simp; omega) | simp)) (by omega) o
  have kz5_0 : w.heap.size < w5.heap.size := by (first | omega | (simp; omega) | simp)
  have ky5_0 : ¬ w.heap.size = w5.heap.size := by (first | omega | (simp; omega) | simp)
  have kx5_0 : ¬ w5.heap.size = w.heap.size := by (first | omega | (simp; omega) | simp)
  have kcb5_0 : ¬ w.heap.size = cb := by omega
  have kz5_1 : w4.heap.size < w5.heap.size := by (first | omega | (simp; omega) | simp)
  have ky5_1 : ¬ w4.heap.size = w5.heap.size := by (first | omega | (simp; omega) | simp)
  have kx5_1 : ¬ w5.heap.size = w4.heap.size := by (first | omega | (simp; omega) | simp)
  have kcb5_1 : ¬ w4.heap.size = cb := by omega
  have D5 : Drew w cb w5 := Drew.trans (by (repeat (first | with_reducible assumption | (with_reducible refine Drew.set hlt ?_ ?_; (first | omega | (simp; omega) | simp)) | with_reducible refine Drew.alloc _ ?_ | with_reducible refine Drew.drewN _ ?_ | with_reducible exact Cur.drew_below HC.out (Below.refl _ _)))) d5
  have C5 := Lib.hid d5.1
  clear d5
  go_wp2_with fail
  refine (l1Below_any cb 30 _ C5.out).mono ?_
  rintro y w6 ⟨v, rfl, ⟨_, _, _⟩, d6⟩
  have s6 := d6.2.size
  (try simp at s6)
  have kd6_0 : ∀ o, w6.cell? ⟨w.heap.size, o, none⟩ = _ := fun o => d6.cell (b := w.heap.size) (by (first | omega | (simp; omega) | simp)) (by omega) o
  have kf6_0 : ∀ o, w6.frozen? ⟨w.heap.size, o, none⟩ = _ := fun o => d6.frozen (b := w.heap.size) (by (first | omega | (simp; omega) | simp)) (by omega) o
  have kd6_1 : ∀ o, w6.cell? ⟨w4.heap.size, o, none⟩ = _ := fun o => d6.cell (b := w4.heap.size) (by (first | omega | (simp; omega) | simp)) (by omega) o
  have kf6_1 : ∀ o, w6.frozen? ⟨w4.heap.size, o, none⟩ = _ := fun o => d6.frozen (b := w4.heap.size) (by (first | omega | (simp; omega) | simp)) (by omega) o
  have kz6_0 : w.heap.size < w6.heap.size := by (first | omega | (simp; omega) | simp)
  have ky6_0 : ¬ w.heap.size = w6.heap.size := by (first | omega | (simp; omega) | simp)
  have kx6_0 : ¬ w6.heap.size = w.heap.size := by (first | omega | (simp; omega) | simp)
  have kcb6_0 : ¬ w.heap.size = cb := by omega
  have kz6_1 : w4.heap.size < w6.heap.size := by (first | omega | (simp; omega) | simp)
  have ky6_1 : ¬ w4.heap.size = w6.heap.size := by (first | omega | (simp; omega) | simp)
  have kx6_1 : ¬ w6.heap.size = w4.heap.size := by (first | omega | (simp; omega) | simp)
  have kcb6_1 : ¬ w4.heap.size = cb := by omega
  have D6 : Drew w cb w6 := Drew.trans (by (repeat (first | with_reducible assumption | (with_reducible refine Drew.set hlt ?_ ?_; (first | omega | (simp; omega) | simp)) | with_reducible refine Drew.alloc _ ?_ | with_reducible refine Drew.drewN _ ?_ | with_reducible exact Cur.drew_below HC.out (Below.refl _ _)))) d6
  have C6 := Lib.hid d6.1
  clear d6
  have r0 : w6.cell? ⟨w.heap.size, 0, none⟩ = some (.int .i64 0) := by (first | (go_keep; done) | (go_simp; done))
  have r1 : w6.cell? ⟨w.heap.size, 1, none⟩ = some (.int .i64 0) := by (first | (go_keep; done) | (go_simp; done))
  have r2 : w6.cell? ⟨w.heap.size, 2, none⟩ = some (.int .i64 0) := by (first | (go_keep; done) | (go_simp; done))
  have r3 : w6.cell? ⟨w.heap.size, 3, none⟩ = some (.int .i64 0) := by (first | (go_keep; done) | (go_simp; done))
  have q0 : w6.cell? ⟨w4.heap.size, 0, none⟩ = some (.int .i64 (x0)) := by (first | (go_keep; done) | (go_simp; done))
  have q1 : w6.cell? ⟨w4.heap.size, 1, none⟩ = some (.int .i64 (1 + x1)) := by (first | (go_keep; done) | (go_simp; done))
  have q2 : w6.cell? ⟨w4.heap.size, 2, none⟩ = some (.int .i64 (1 + x2)) := by (first | (go_keep; done) | (go_simp; done))
  have q3 : w6.cell? ⟨w4.heap.size, 3, none⟩ = some (.int .i64 (1 + x3)) := by (first | (go_keep; done) | (go_simp; done))
  have rz0 : w6.frozen? ⟨w.heap.size, 0, none⟩ = false := by (first | (go_keep; done) | (go_simp; done))
  have rz1 : w6.frozen? ⟨w.heap.size, 1, none⟩ = false := by (first | (go_keep; done) | (go_simp; done))
  have rz2 : w6.frozen? ⟨w.heap.size, 2, none⟩ = false := by (first | (go_keep; done) | (go_simp; done))
  have rz3 : w6.frozen? ⟨w.heap.size, 3, none⟩ = false := by (first | (go_keep; done) | (go_simp; done))
  have qz0 : w6.frozen? ⟨w4.heap.size, 0, none⟩ = false := by (first | (go_keep; done) | (go_simp; done))
  have qz1 : w6.frozen? ⟨w4.heap.size, 1, none⟩ = false := by (first | (go_keep; done) | (go_simp; done))
  have qz2 : w6.frozen? ⟨w4.heap.size, 2, none⟩ = false := by (first | (go_keep; done) | (go_simp; done))
  have qz3 : w6.frozen? ⟨w4.heap.size, 3, none⟩ = false := by (first | (go_keep; done) | (go_simp; done))
  clear kd1_0 kd2_0 kd3_0 kd4_0 kd5_0 kd5_1 kd6_0 kd6_1 kf1_0 kf2_0 kf3_0 kf4_0 kf5_0 kf5_1 kf6_0 kf6_1
  by_cases v0 : v = 0
  · subst v0
    go_wp2
    refine bodyPost_ret (v := .agg #[.int .i64 (x), .int .i64 (1 + x1), .int .i64 (1 + x2), .int .i64 (1 + x3)]) (by simp only [results, Try.results11]; (first | (go_simp; done) | (go_simp; omega))) rfl ⟨fun j => [x, 1 + x1, 1 + x2, 1 + x3].getD j 0, rfl, ?_⟩
    (repeat (first | with_reducible assumption | (with_reducible refine Drew.set hlt ?_ ?_; (first | omega | (simp; omega) | simp)) | with_reducible refine Drew.alloc _ ?_ | with_reducible refine Drew.drewN _ ?_ | with_reducible exact Cur.drew_below HC.out (Below.refl _ _)))
  by_cases v1 : v = 1
  · subst v1
    go_wp2
    refine bodyPost_ret (v := .agg #[.int .i64 (x0), .int .i64 (x), .int .i64 (1 + x2), .int .i64 (1 + x3)]) (by simp only [results, Try.results11]; (first | (go_simp; done) | (go_simp; omega))) rfl ⟨fun j => [x0, x, 1 + x2, 1 + x3].getD j 0, rfl, ?_⟩
    (repeat (first | with_reducible assumption | (with_reducible refine Drew.set hlt ?_ ?_; (first | omega | (simp; omega) | simp)) | with_reducible refine Drew.alloc _ ?_ | with_reducible refine Drew.drewN _ ?_ | with_reducible exact Cur.drew_below HC.out (Below.refl _ _)))
  by_cases v2 : v = 2
  · subst v2
    go_wp2
    refine bodyPost_ret (v := .agg #[.int .i64 (x0), .int .i64 (1 + x1), .int .i64 (x), .int .i64 (1 + x3)]) (by simp only [results, Try.results11]; (first | (go_simp; done) | (go_simp; omega))) rfl ⟨fun j => [x0, 1 + x1, x, 1 + x3].getD j 0, rfl, ?_⟩
    (repeat (first | with_reducible assumption | (with_reducible refine Drew.set hlt ?_ ?_; (first | omega | (simp; omega) | simp)) | with_reducible refine Drew.alloc _ ?_ | with_reducible refine Drew.drewN _ ?_ | with_reducible exact Cur.drew_below HC.out (Below.refl _ _)))
  by_cases v3 : v = 3
  · subst v3
    go_wp2
    refine bodyPost_ret (v := .agg #[.int .i64 (x0), .int .i64 (1 + x1), .int .i64 (1 + x2), .int .i64 (x)]) (by simp only [results, Try.results11]; (first | (go_simp; done) | (go_simp; omega))) rfl ⟨fun j => [x0, 1 + x1, 1 + x2, x].getD j 0, rfl, ?_⟩
    (repeat (first | with_reducible assumption | (with_reducible refine Drew.set hlt ?_ ?_; (first | omega | (simp; omega) | simp)) | with_reducible refine Drew.alloc _ ?_ | with_reducible refine Drew.drewN _ ?_ | with_reducible exact Cur.drew_below HC.out (Below.refl _ _)))
  go_wp2
  refine bodyPost_ret (v := .agg #[.int .i64 (x0), .int .i64 (1 + x1), .int .i64 (1 + x2), .int .i64 (1 + x3)]) (by simp only [results, Try.results11]; (first | (go_simp; done) | (go_simp; omega))) rfl ⟨fun j => [x0, 1 + x1, 1 + x2, 1 + x3].getD j 0, rfl, ?_⟩
  (repeat (first | with_reducible assumption | (with_reducible refine Drew.set hlt ?_ ?_; (first | omega | (simp; omega) | simp)) | with_reducible refine Drew.alloc _ ?_ | with_reducible refine Drew.drewN _ ?_ | with_reducible exact Cur.drew_below HC.out (Below.refl _ _)))
end Go.Proofs.Ytfilagmboeeclaa
