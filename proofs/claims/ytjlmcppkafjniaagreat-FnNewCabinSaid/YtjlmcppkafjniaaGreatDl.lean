/-
  Weak contracts of the functions that draw ledgers. Conditions: none beyond those stated.
-/
import Derived.Test.YtjlmcppkafjniaaGreatPo
namespace Go.Proofs.YtjlmcppkafjniaaGreat
open Go.RowKit

set_option maxRecDepth 100000 in
set_option maxHeartbeats 4000000 in
theorem l8Right_any (cb : Nat) (w : World) (h : Cur w cb) :
    Calls Tryz.prog 71 #[.pointer (some ⟨cb, 0, none⟩)] w fun y w' => ∃ e : Nat → Int, y = .returned (.agg #[.int .i64 (e 0), .int .i64 (e 1), .int .i64 (e 2), .int .i64 (e 3), .int .i64 (e 4)]) ∧ Drew w cb w' := by
  have hlt := h.lt
  have HC := Lib.hid h
  clear h
  go_enter Tryz.func71, Tryz.ntmps71
  go_wp2_with fail
  refine (l1Below_any cb 6 _ (by first | with_reducible exact HC.out | (with_reducible refine HC.out.below ?_; (repeat (first | with_reducible exact Below.refl _ _ | with_reducible refine Below.drew ?_ | with_reducible refine below_drewN ?_ _ | (with_reducible refine bel_alloc ?_ ?_ _; (first | omega | (simp; omega) | simp)) | (with_reducible refine bel_set ?_ ?_ _; (first | omega | (simp; omega) | simp)) | (with_reducible refine bel_tr (by assumption) ?_ ?_; (first | omega | (simp; omega) | simp))))))).mono ?_
  rintro y w1 ⟨x1, rfl, ⟨_, _, _⟩, d1⟩
  have s1 := d1.2.size
  (try simp at s1)
  have kd1_0 : ∀ o, w1.cell? ⟨w.heap.size, o, none⟩ = _ := fun o => d1.cell (b := w.heap.size) (by (first | omega | (simp; omega) | simp)) (by omega) o
  have kf1_0 : ∀ o, w1.frozen? ⟨w.heap.size, o, none⟩ = _ := fun o => d1.frozen (b := w.heap.size) (by (first | omega | (simp; omega) | simp)) (by omega) o
  have kz1_0 : w.heap.size < w1.heap.size := by (first | omega | (simp; omega) | simp)
  have ky1_0 : ¬ w.heap.size = w1.heap.size := by (first | omega | (simp; omega) | simp)
  have kx1_0 : ¬ w1.heap.size = w.heap.size := by (first | omega | (simp; omega) | simp)
  have kcb1_0 : ¬ w.heap.size = cb := by omega
  have D1 : Drew w cb w1 := Drew.trans (by (repeat (first | with_reducible assumption | (with_reducible refine Drew.set hlt ?_ ?_; (first | omega | (simp; omega) | simp)) | with_reducible refine Drew.alloc _ ?_ | with_reducible refine Drew.drewN _ ?_ | with_reducible exact Cur.drew_below HC.out (Below.refl _ _)))) d1
  have C1 := Lib.hid d1.1
  clear d1
  go_wp2_with fail
  refine (l1Below_any cb 6 _ C1.out).mono ?_
  rintro y w2 ⟨x2, rfl, ⟨_, _, _⟩, d2⟩
  have s2 := d2.2.size
  (try simp at s2)
  have kd2_0 : ∀ o, w2.cell? ⟨w.heap.size, o, none⟩ = _ := fun o => d2.cell (b := w.heap.size) (by (first | omega | (simp; omega) | simp)) (by omega) o
  have kf2_0 : ∀ o, w2.frozen? ⟨w.heap.size, o, none⟩ = _ := fun o => d2.frozen (b := w.heap.size) (by (first | omega | (simp; omega) | simp)) (by omega) o
  have kz2_0 : w.heap.size < w2.heap.size := by (first | omega | (simp; omega) | simp)
  have ky2_0 : ¬ w.heap.size = w2.heap.size := by (first | omega | (simp; omega) | simp)
  have kx2_0 : ¬ w2.heap.size = w.heap.size := by (first | omega | (simp; omega) | simp)
  have kcb2_0 : ¬ w.heap.size = cb := by omega
  have D2 : Drew w cb w2 := Drew.trans (by (repeat (first | with_reducible assumption | (with_reducible refine Drew.set hlt ?_ ?_; (first | omega | (simp; omega) | simp)) | with_reducible refine Drew.alloc _ ?_ | with_reducible refine Drew.drewN _ ?_ | with_reducible exact Cur.drew_below HC.out (Below.refl _ _)))) d2
  have C2 := Lib.hid d2.1
  clear d2
  go_wp2_with fail
  refine (l1Below_any cb 8 _ C2.out).mono ?_
  rintro y w3 ⟨x3, rfl, ⟨_, _, _⟩, d3⟩
  have s3 := d3.2.size
  (try simp at s3)
  have kd3_0 : ∀ o, w3.cell? ⟨w.heap.size, o, none⟩ = _ := fun o => d3.cell (b := w.heap.size) (by (first | omega | (simp; omega) | simp)) (by omega) o
  have kf3_0 : ∀ o, w3.frozen? ⟨w.heap.size, o, none⟩ = _ := fun o => d3.frozen (b := w.heap.size) (by (first | omega | (simp; omega) | simp)) (by omega) o
  have kz3_0 : w.heap.size < w3.heap.size := by (first | omega | (simp; omega) | simp)
  have ky3_0 : ¬ w.heap.size = w3.heap.size := by (first | omega | (simp; omega) | simp)
  have kx3_0 : ¬ w3.heap.size = w.heap.size := by (first | omega | (simp; omega) | simp)
  have kcb3_0 : ¬ w.heap.size = cb := by omega
  have D3 : Drew w cb w3 := Drew.trans (by (repeat (first | with_reducible assumption | (with_reducible refine Drew.set hlt ?_ ?_; (first | omega | (simp; omega) | simp)) | with_reducible refine Drew.alloc _ ?_ | with_reducible refine Drew.drewN _ ?_ | with_reducible exact Cur.drew_below HC.out (Below.refl _ _)))) d3
  have C3 := Lib.hid d3.1
  clear d3
  go_wp2_with fail
  refine (l1Below_any cb _ _ (by first | with_reducible exact C3.out | (refine Drew.cur (w := w) ?_; (repeat (first | with_reducible assumption | (with_reducible refine Drew.set hlt ?_ ?_; (first | omega | (simp; omega) | simp)) | with_reducible refine Drew.alloc _ ?_ | with_reducible refine Drew.drewN _ ?_ | with_reducible exact Cur.drew_below HC.out (Below.refl _ _)))))).mono ?_
  rintro y w4 ⟨x4, rfl, ⟨_, _, _⟩, d4⟩
  have s4 := d4.2.size
  (try simp at s4)
  have kd4_0 : ∀ o, w4.cell? ⟨w.heap.size, o, none⟩ = _ := fun o => d4.cell (b := w.heap.size) (by (first | omega | (simp; omega) | simp)) (by omega) o
  have kf4_0 : ∀ o, w4.frozen? ⟨w.heap.size, o, none⟩ = _ := fun o => d4.frozen (b := w.heap.size) (by (first | omega | (simp; omega) | simp)) (by omega) o
  have kd4_1 : ∀ o, w4.cell? ⟨w3.heap.size, o, none⟩ = _ := fun o => d4.cell (b := w3.heap.size) (by (first | omega | (simp; omega) | simp)) (by omega) o
  have kf4_1 : ∀ o, w4.frozen? ⟨w3.heap.size, o, none⟩ = _ := fun o => d4.frozen (b := w3.heap.size) (by (first | omega | (simp; omega) | simp)) (by omega) o
  have kz4_0 : w.heap.size < w4.heap.size := by (first | omega | (simp; omega) | simp)
  have ky4_0 : ¬ w.heap.size = w4.heap.size := by (first | omega | (simp; omega) | simp)
  have kx4_0 : ¬ w4.heap.size = w.heap.size := by (first | omega | (simp; omega) | simp)
  have kcb4_0 : ¬ w.heap.size = cb := by omega
  have kz4_1 : w3.heap.size < w4.heap.size := by (first | omega | (simp; omega) | simp)
  have ky4_1 : ¬ w3.heap.size = w4.heap.size := by (first | omega | (simp; omega) | simp)
  have kx4_1 : ¬ w4.heap.size = w3.heap.size := by (first | omega | (simp; omega) | simp)
  have kcb4_1 : ¬ w3.heap.size = cb := by omega
  have D4 : Drew w cb w4 := Drew.trans (by (repeat (first | with_reducible assumption | (with_reducible refine Drew.set hlt ?_ ?_; (first | omega | (simp; omega) | simp)) | with_reducible refine Drew.alloc _ ?_ | with_reducible refine Drew.drewN _ ?_ | with_reducible exact Cur.drew_below HC.out (Below.refl _ _)))) d4
  have C4 := Lib.hid d4.1
  clear d4
  go_wp2
  refine bodyPost_ret (v := .agg #[.int .i64 (x1 + x2 + x3), .int .i64 (x1), .int .i64 (x2), .int .i64 (x3), .int .i64 (x4)]) (by simp only [results, Tryz.results71]; (first | (go_simp; done) | (go_simp; omega))) rfl ⟨fun j => [x1 + x2 + x3, x1, x2, x3, x4].getD j 0, rfl, ?_⟩
  (repeat (first | with_reducible assumption | (with_reducible refine Drew.set hlt ?_ ?_; (first | omega | (simp; omega) | simp)) | with_reducible refine Drew.alloc _ ?_ | with_reducible refine Drew.drewN _ ?_ | with_reducible exact Cur.drew_below HC.out (Below.refl _ _)))

set_option maxRecDepth 100000 in
set_option maxHeartbeats 4000000 in
theorem l8Draw_any (cb : Nat) (w : World) (h : Cur w cb) :
    Calls Tryz.prog 31 #[.pointer (some ⟨cb, 0, none⟩)] w fun y w' => ∃ e : Nat → Int, y = .returned (.agg #[.int .i64 (e 0), .int .i64 (e 1), .int .i64 (e 2), .int .i64 (e 3), .int .i64 (e 4)]) ∧ Drew w cb w' := by
  have hlt := h.lt
  have HC := Lib.hid h
  clear h
  go_enter Tryz.func31, Tryz.ntmps31
  go_wp2_with fail
  refine (l8Right_any cb _ (by first | with_reducible exact HC.out | (with_reducible refine HC.out.below ?_; (repeat (first | with_reducible exact Below.refl _ _ | with_reducible refine Below.drew ?_ | with_reducible refine below_drewN ?_ _ | (with_reducible refine bel_alloc ?_ ?_ _; (first | omega | (simp; omega) | simp)) | (with_reducible refine bel_set ?_ ?_ _; (first | omega | (simp; omega) | simp)) | (with_reducible refine bel_tr (by assumption) ?_ ?_; (first | omega | (simp; omega) | simp))))))).mono ?_
  rintro y w1 ⟨e, rfl, d1⟩
  have s1 := d1.2.size
  (try simp at s1)
  have kd1_0 : ∀ o, w1.cell? ⟨w.heap.size, o, none⟩ = _ := fun o => d1.cell (b := w.heap.size) (by (first | omega | (simp; omega) | simp)) (by omega) o
  have kf1_0 : ∀ o, w1.frozen? ⟨w.heap.size, o, none⟩ = _ := fun o => d1.frozen (b := w.heap.size) (by (first | omega | (simp; omega) | simp)) (by omega) o
  have kz1_0 : w.heap.size < w1.heap.size := by omega
  have ky1_0 : ¬ w.heap.size = w1.heap.size := by omega
  have kx1_0 : ¬ w1.heap.size = w.heap.size := by omega
  have D1 : Drew w cb w1 := Drew.trans (by (repeat (first | with_reducible assumption | (with_reducible refine Drew.set hlt ?_ ?_; (first | omega | (simp; omega) | simp)) | with_reducible refine Drew.alloc _ ?_ | with_reducible refine Drew.drewN _ ?_ | with_reducible exact Cur.drew_below HC.out (Below.refl _ _)))) d1
  have C1 := Lib.hid d1.1
  clear d1
  go_wp2_with fail
  refine (l1PickInt_any cb _ 6 6 _ _ (by first | with_reducible exact C1.out | (refine Drew.cur (w := w) ?_; (repeat (first | with_reducible assumption | (with_reducible refine Drew.set hlt ?_ ?_; (first | omega | (simp; omega) | simp)) | with_reducible refine Drew.alloc _ ?_ | with_reducible refine Drew.drewN _ ?_ | with_reducible exact Cur.drew_below HC.out (Below.refl _ _))))) (rd_litsb _ _ [-1, 0, 60, 61, 9223372036854775807, -9223372036854775808] _ (by (first | omega | (simp; omega) | simp))) (by omega) (by omega) (by rintro a ⟨⟩; show _ ≠ cb; (first | omega | (simp; omega) | simp))).mono ?_
  rintro y w2 ⟨x, rfl, _, d2⟩
  have s2 := d2.2.size
  (try simp at s2)
  have kd2_0 : ∀ o, w2.cell? ⟨w.heap.size, o, none⟩ = _ := fun o => d2.cell (b := w.heap.size) (by (first | omega | (simp; omega) | simp)) (by omega) o
  have kf2_0 : ∀ o, w2.frozen? ⟨w.heap.size, o, none⟩ = _ := fun o => d2.frozen (b := w.heap.size) (by (first | omega | (simp; omega) | simp)) (by omega) o
  have kd2_1 : ∀ o, w2.cell? ⟨w1.heap.size, o, none⟩ = _ := fun o => d2.cell (b := w1.heap.size) (by (first | omega | (simp; omega) | simp)) (by omega) o
  have kf2_1 : ∀ o, w2.frozen? ⟨w1.heap.size, o, none⟩ = _ := fun o => d2.frozen (b := w1.heap.size) (by (first | omega | (simp; omega) | simp)) (by omega) o
  have kz2_0 : w.heap.size < w2.heap.size := by (first | omega | (simp; omega) | simp)
  have ky2_0 : ¬ w.heap.size = w2.heap.size := by (first | omega | (simp; omega) | simp)
  have kx2_0 : ¬ w2.heap.size = w.heap.size := by (first | omega | (simp; omega) | simp)
  have kcb2_0 : ¬ w.heap.size = cb := by omega
  have kz2_1 : w1.heap.size < w2.heap.size := by (first | omega | (simp; omega) | simp)
  have ky2_1 : ¬ w1.heap.size = w2.heap.size := by (first | omega | (simp; omega) | simp)
  have kx2_1 : ¬ w2.heap.size = w1.heap.size := by (first | omega | (simp; omega) | simp)
  have kcb2_1 : ¬ w1.heap.size = cb := by omega
  have D2 : Drew w cb w2 := Drew.trans (by (repeat (first | with_reducible assumption | (with_reducible refine Drew.set hlt ?_ ?_; (first | omega | (simp; omega) | simp)) | with_reducible refine Drew.alloc _ ?_ | with_reducible refine Drew.drewN _ ?_ | with_reducible exact Cur.drew_below HC.out (Below.refl _ _)))) d2
  have C2 := Lib.hid d2.1
  clear d2
  go_wp2_with fail
  refine (l1Below_any cb 16 _ C2.out).mono ?_
  rintro y w3 ⟨v, rfl, ⟨_, _, _⟩, d3⟩
  have s3 := d3.2.size
  (try simp at s3)
  have kd3_0 : ∀ o, w3.cell? ⟨w.heap.size, o, none⟩ = _ := fun o => d3.cell (b := w.heap.size) (by (first | omega | (simp; omega) | simp)) (by omega) o
  have kf3_0 : ∀ o, w3.frozen? ⟨w.heap.size, o, none⟩ = _ := fun o => d3.frozen (b := w.heap.size) (by (first | omega | (simp; omega) | simp)) (by omega) o
  have kd3_1 : ∀ o, w3.cell? ⟨w1.heap.size, o, none⟩ = _ := fun o => d3.cell (b := w1.heap.size) (by (first | omega | (simp; omega) | simp)) (by omega) o
  have kf3_1 : ∀ o, w3.frozen? ⟨w1.heap.size, o, none⟩ = _ := fun o => d3.frozen (b := w1.heap.size) (by (first | omega | (simp; omega) | simp)) (by omega) o
  have kz3_0 : w.heap.size < w3.heap.size := by (first | omega | (simp; omega) | simp)
  have ky3_0 : ¬ w.heap.size = w3.heap.size := by (first | omega | (simp; omega) | simp)
  have kx3_0 : ¬ w3.heap.size = w.heap.size := by (first | omega | (simp; omega) | simp)
  have kcb3_0 : ¬ w.heap.size = cb := by omega
  have kz3_1 : w1.heap.size < w3.heap.size := by (first | omega | (simp; omega) | simp)
  have ky3_1 : ¬ w1.heap.size = w3.heap.size := by (first | omega | (simp; omega) | simp)
  have kx3_1 : ¬ w3.heap.size = w1.heap.size := by (first | omega | (simp; omega) | simp)
  have kcb3_1 : ¬ w1.heap.size = cb := by omega
  have D3 : Drew w cb w3 := Drew.trans (by (repeat (first | with_reducible assumption | (with_reducible refine Drew.set hlt ?_ ?_; (first | omega | (simp; omega) | simp)) | with_reducible refine Drew.alloc _ ?_ | with_reducible refine Drew.drewN _ ?_ | with_reducible exact Cur.drew_below HC.out (Below.refl _ _)))) d3
  have C3 := Lib.hid d3.1
  clear d3
  have r0 : w3.cell? ⟨w.heap.size, 0, none⟩ = some (.int .i64 0) := by (first | (go_keep; done) | (go_simp; done))
  have r1 : w3.cell? ⟨w.heap.size, 1, none⟩ = some (.int .i64 0) := by (first | (go_keep; done) | (go_simp; done))
  have r2 : w3.cell? ⟨w.heap.size, 2, none⟩ = some (.int .i64 0) := by (first | (go_keep; done) | (go_simp; done))
  have r3 : w3.cell? ⟨w.heap.size, 3, none⟩ = some (.int .i64 0) := by (first | (go_keep; done) | (go_simp; done))
  have r4 : w3.cell? ⟨w.heap.size, 4, none⟩ = some (.int .i64 0) := by (first | (go_keep; done) | (go_simp; done))
  have q0 : w3.cell? ⟨w1.heap.size, 0, none⟩ = some (.int .i64 (e 0)) := by (first | (go_keep; done) | (go_simp; done))
  have q1 : w3.cell? ⟨w1.heap.size, 1, none⟩ = some (.int .i64 (e 1)) := by (first | (go_keep; done) | (go_simp; done))
  have q2 : w3.cell? ⟨w1.heap.size, 2, none⟩ = some (.int .i64 (e 2)) := by (first | (go_keep; done) | (go_simp; done))
  have q3 : w3.cell? ⟨w1.heap.size, 3, none⟩ = some (.int .i64 (e 3)) := by (first | (go_keep; done) | (go_simp; done))
  have q4 : w3.cell? ⟨w1.heap.size, 4, none⟩ = some (.int .i64 (e 4)) := by (first | (go_keep; done) | (go_simp; done))
  have rz0 : w3.frozen? ⟨w.heap.size, 0, none⟩ = false := by (first | (go_keep; done) | (go_simp; done))
  have rz1 : w3.frozen? ⟨w.heap.size, 1, none⟩ = false := by (first | (go_keep; done) | (go_simp; done))
  have rz2 : w3.frozen? ⟨w.heap.size, 2, none⟩ = false := by (first | (go_keep; done) | (go_simp; done))
  have rz3 : w3.frozen? ⟨w.heap.size, 3, none⟩ = false := by (first | (go_keep; done) | (go_simp; done))
  have rz4 : w3.frozen? ⟨w.heap.size, 4, none⟩ = false := by (first | (go_keep; done) | (go_simp; done))
  have qz0 : w3.frozen? ⟨w1.heap.size, 0, none⟩ = false := by (first | (go_keep; done) | (go_simp; done))
  have qz1 : w3.frozen? ⟨w1.heap.size, 1, none⟩ = false := by (first | (go_keep; done) | (go_simp; done))
  have qz2 : w3.frozen? ⟨w1.heap.size, 2, none⟩ = false := by (first | (go_keep; done) | (go_simp; done))
  have qz3 : w3.frozen? ⟨w1.heap.size, 3, none⟩ = false := by (first | (go_keep; done) | (go_simp; done))
  have qz4 : w3.frozen? ⟨w1.heap.size, 4, none⟩ = false := by (first | (go_keep; done) | (go_simp; done))
  clear kd1_0 kd2_0 kd2_1 kd3_0 kd3_1 kf1_0 kf2_0 kf2_1 kf3_0 kf3_1
  by_cases v0 : v = 0
  · subst v0
    go_wp2
    refine bodyPost_ret (v := .agg #[.int .i64 (x), .int .i64 (e 1), .int .i64 (e 2), .int .i64 (e 3), .int .i64 (e 4)]) (by simp only [results, Tryz.results31]; (first | (go_simp; done) | (go_simp; omega))) rfl ⟨fun j => [x, e 1, e 2, e 3, e 4].getD j 0, rfl, ?_⟩
    (repeat (first | with_reducible assumption | (with_reducible refine Drew.set hlt ?_ ?_; (first | omega | (simp; omega) | simp)) | with_reducible refine Drew.alloc _ ?_ | with_reducible refine Drew.drewN _ ?_ | with_reducible exact Cur.drew_below HC.out (Below.refl _ _)))
  by_cases v1 : v = 1
  · subst v1
    go_wp2
    refine bodyPost_ret (v := .agg #[.int .i64 (e 0), .int .i64 (x), .int .i64 (e 2), .int .i64 (e 3), .int .i64 (e 4)]) (by simp only [results, Tryz.results31]; (first | (go_simp; done) | (go_simp; omega))) rfl ⟨fun j => [e 0, x, e 2, e 3, e 4].getD j 0, rfl, ?_⟩
    (repeat (first | with_reducible assumption | (with_reducible refine Drew.set hlt ?_ ?_; (first | omega | (simp; omega) | simp)) | with_reducible refine Drew.alloc _ ?_ | with_reducible refine Drew.drewN _ ?_ | with_reducible exact Cur.drew_below HC.out (Below.refl _ _)))
  by_cases v2 : v = 2
  · subst v2
    go_wp2
    refine bodyPost_ret (v := .agg #[.int .i64 (e 0), .int .i64 (e 1), .int .i64 (x), .int .i64 (e 3), .int .i64 (e 4)]) (by simp only [results, Tryz.results31]; (first | (go_simp; done) | (go_simp; omega))) rfl ⟨fun j => [e 0, e 1, x, e 3, e 4].getD j 0, rfl, ?_⟩
    (repeat (first | with_reducible assumption | (with_reducible refine Drew.set hlt ?_ ?_; (first | omega | (simp; omega) | simp)) | with_reducible refine Drew.alloc _ ?_ | with_reducible refine Drew.drewN _ ?_ | with_reducible exact Cur.drew_below HC.out (Below.refl _ _)))
  by_cases v3 : v = 3
  · subst v3
    go_wp2
    refine bodyPost_ret (v := .agg #[.int .i64 (e 0), .int .i64 (e 1), .int .i64 (e 2), .int .i64 (x), .int .i64 (e 4)]) (by simp only [results, Tryz.results31]; (first | (go_simp; done) | (go_simp; omega))) rfl ⟨fun j => [e 0, e 1, e 2, x, e 4].getD j 0, rfl, ?_⟩
    (repeat (first | with_reducible assumption | (with_reducible refine Drew.set hlt ?_ ?_; (first | omega | (simp; omega) | simp)) | with_reducible refine Drew.alloc _ ?_ | with_reducible refine Drew.drewN _ ?_ | with_reducible exact Cur.drew_below HC.out (Below.refl _ _)))
  by_cases v4 : v = 4
  · subst v4
    go_wp2
    refine bodyPost_ret (v := .agg #[.int .i64 (e 0), .int .i64 (e 1), .int .i64 (e 2), .int .i64 (e 3), .int .i64 (x)]) (by simp only [results, Tryz.results31]; (first | (go_simp; done) | (go_simp; omega))) rfl ⟨fun j => [e 0, e 1, e 2, e 3, x].getD j 0, rfl, ?_⟩
    (repeat (first | with_reducible assumption | (with_reducible refine Drew.set hlt ?_ ?_; (first | omega | (simp; omega) | simp)) | with_reducible refine Drew.alloc _ ?_ | with_reducible refine Drew.drewN _ ?_ | with_reducible exact Cur.drew_below HC.out (Below.refl _ _)))
  go_wp2
  refine bodyPost_ret (v := .agg #[.int .i64 (e 0), .int .i64 (e 1), .int .i64 (e 2), .int .i64 (e 3), .int .i64 (e 4)]) (by simp only [results, Tryz.results31]; (first | (go_simp; done) | (go_simp; omega))) rfl ⟨fun j => [e 0, e 1, e 2, e 3, e 4].getD j 0, rfl, ?_⟩
  (repeat (first | with_reducible assumption | (with_reducible refine Drew.set hlt ?_ ?_; (first | omega | (simp; omega) | simp)) | with_reducible refine Drew.alloc _ ?_ | with_reducible refine Drew.drewN _ ?_ | with_reducible exact Cur.drew_below HC.out (Below.refl _ _)))

end Go.Proofs.YtjlmcppkafjniaaGreat
