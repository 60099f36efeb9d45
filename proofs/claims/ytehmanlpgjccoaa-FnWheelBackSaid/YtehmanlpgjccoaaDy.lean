/-
  Weak contracts of the functions that draw pins. Conditions: none beyond those stated.
-/
import Derived.Test.YtehmanlpgjccoaaDz
import Derived.Test.YtehmanlpgjccoaaPd
namespace Go.Proofs.Ytehmanlpgjccoaa
open Go.RowKit

set_option maxRecDepth 100000 in
set_option maxHeartbeats 4000000 in
theorem l9Pin_any (cb : Nat) (w : World) (h : Cur w cb) :
    Calls Try.prog 16 #[.pointer (some ⟨cb, 0, none⟩)] w fun y w' => ∃ e : Nat → Int, y = .returned (.agg #[.int .i64 (e 0), .int .i64 (e 1)]) ∧ Drew w cb w' := by
  have hlt := h.lt
  have HC := Lib.hid h
  clear h
  go_enter Try.func16, Try.ntmps16
  go_wp2_with fail
  refine (l1Below_any cb 24 _ (by first | with_reducible exact HC.out | (with_reducible refine HC.out.below ?_; (repeat (first | with_reducible exact Below.refl _ _ | with_reducible refine Below.drew ?_ | with_reducible refine below_drewN ?_ _ | (with_reducible refine bel_alloc ?_ ?_ _; (first | omega | (simp; omega) | simp)) | (with_reducible refine bel_set ?_ ?_ _; (first | omega | (simp; omega) | simp)) | (with_reducible refine bel_tr (by assumption) ?_ ?_; (first | omega | (simp; omega) | simp))))))).mono ?_
  rintro y w1 ⟨x0, rfl, ⟨_, _, _⟩, d1⟩
  have s1 := d1.2.size
  (try simp at s1)
  have kd1_0 : ∀ o, w1.cell? ⟨w.heap.size, o, none⟩ = _ := fun o => d1.cell (b := w.heap.size) (by (first | omega | (simp; omega) | simp)) (by omega) o
  have kf1_0 : ∀ o, w1.frozen? ⟨w.heap.size, o, none⟩ = _ := fun o => d1.frozen (b := w.heap.size) (by (first | omega | (simp; omega) | simp)) (by omega) o
  have kz1_0 : w.heap.size < w1.heap.size := by (first | omega | (simp; omega) | simp)
  have ky1_0 : ¬ w.heap.size = w1.heap.size := by (first | omega | (simp; omega) | simp)
  have kx1_0 : ¬ w1.heap.size = w.heap.size := by (first | omega | (simp; omega) | simp)
  have kcb1_0 : ¬ w.heap.size = cb := by omega
  have D1 : Drew w cb w1 := Drew.trans (by (repeat (first | with_reducible assumption | (with_reducible refine Drew.set hlt ?_ ?_; (first | omega | (simp; omega) | simp)) | with_reducible refine Drew.alloc _ ?_ | with_reducible refine Drew.drewN _ ?_ | with_reducible exact Cur.drew_below HC.out (Below.refl _ _)))) d1
  have C1 := Lib.hid d1.1
  clear d1
  go_wp2_with fail
  refine (l1Below_any cb 12 _ C1.out).mono ?_
  rintro y w2 ⟨x1, rfl, ⟨_, _, _⟩, d2⟩
  have s2 := d2.2.size
  (try simp at s2)
  have kd2_0 : ∀ o, w2.cell? ⟨w.heap.size, o, none⟩ = _ := fun o => d2.cell (b := w.heap.size) (by (first | omega | (simp; omega) | simp)) (by omega) o
  have kf2_0 : ∀ o, w2.frozen? ⟨w.heap.size, o, none⟩ = _ := fun o => d2.frozen (b := w.heap.size) (by (first | omega | (simp; omega) | simp)) (by omega) o
  have kz2_0 : w.heap.size < w2.heap.size := by (first | omega | (simp; omega) | simp)
  have ky2_0 : ¬ w.heap.size = w2.heap.size := by (first | omega | (simp; omega) | simp)
  have kx2_0 : ¬ w2.heap.size = w.heap.size := by (first | omega | (simp; omega) | simp)
  have kcb2_0 : ¬ w.heap.size = cb := by omega
  have D2 : Drew w cb w2 := Drew.trans (by (repeat (first | with_reducible assumption | (with_reducible refine Drew.set hlt ?_ ?_; (first | omega | (simp; omega) | simp)) | with_reducible refine Drew.alloc _ ?_ | with_reducible refine Drew.drewN _ ?_ | with_reducible exact Cur.drew_below HC.out (Below.refl _ _)))) d2
  have C2 := Lib.hid d2.1
  clear d2
  go_wp2_with fail
  refine (l1Below_any cb 20 _ (by first | with_reducible exact C2.out | (refine Drew.cur (w := w) ?_; (repeat (first | with_reducible assumption | (with_reducible refine Drew.set hlt ?_ ?_; (first | omega | (simp; omega) | simp)) | with_reducible refine Drew.alloc _ ?_ | with_reducible refine Drew.drewN _ ?_ | with_reducible exact Cur.drew_below HC.out (Below.refl _ _)))))).mono ?_
  rintro y w3 ⟨v, rfl, ⟨_, _, _⟩, d3⟩
  have s3 := d3.2.size
  (try simp at s3)
  have kd3_0 : ∀ o, w3.cell? ⟨w.heap.size, o, none⟩ = _ := fun o => d3.cell (b := w.heap.size) (by (first | omega | (simp; omega) | simp)) (by omega) o
  have kf3_0 : ∀ o, w3.frozen? ⟨w.heap.size, o, none⟩ = _ := fun o => d3.frozen (b := w.heap.size) (by (first | omega | (simp; omega) | simp)) (by omega) o
  have kd3_1 : ∀ o, w3.cell? ⟨w2.heap.size, o, none⟩ = _ := fun o => d3.cell (b := w2.heap.size) (by (first | omega | (simp; omega) | simp)) (by omega) o
  have kf3_1 : ∀ o, w3.frozen? ⟨w2.heap.size, o, none⟩ = _ := fun o => d3.frozen (b := w2.heap.size) (by (first | omega | (simp; omega) | simp)) (by omega) o
  have kz3_0 : w.heap.size < w3.heap.size := by (first | omega | (simp; omega) | simp)
  have ky3_0 : ¬ w.heap.size = w3.heap.size := by (first | omega | (simp; omega) | simp)
  have kx3_0 : ¬ w3.heap.size = w.heap.size := by (first | omega | (simp; omega) | simp)
  have kcb3_0 : ¬ w.heap.size = cb := by omega
  have kz3_1 : w2.heap.size < w3.heap.size := by (first | omega | (simp; omega) | simp)
  have ky3_1 : ¬ w2.heap.size = w3.heap.size := by (first | omega | (simp; omega) | simp)
  have kx3_1 : ¬ w3.heap.size = w2.heap.size := by (first | omega | (simp; omega) | simp)
  have kcb3_1 : ¬ w2.heap.size = cb := by omega
  have D3 : Drew w cb w3 := Drew.trans (by (repeat (first | with_reducible assumption | (with_reducible refine Drew.set hlt ?_ ?_; (first | omega | (simp; omega) | simp)) | with_reducible refine Drew.alloc _ ?_ | with_reducible refine Drew.drewN _ ?_ | with_reducible exact Cur.drew_below HC.out (Below.refl _ _)))) d3
  have C3 := Lib.hid d3.1
  clear d3
  by_cases v0 : v = 0
  · subst v0
    go_wp2_with fail
    refine (l1PickInt_any cb _ 7 7 _ _ (by first | with_reducible exact C3.out | (refine Drew.cur (w := w) ?_; (repeat (first | with_reducible assumption | (with_reducible refine Drew.set hlt ?_ ?_; (first | omega | (simp; omega) | simp)) | with_reducible refine Drew.alloc _ ?_ | with_reducible refine Drew.drewN _ ?_ | with_reducible exact Cur.drew_below HC.out (Below.refl _ _))))) (rd_litsb _ _ [0, -1, -9, 1000008, 1000009, 9223372036854775807, -9223372036854775808] _ (by (first | omega | (simp; omega) | simp))) (by omega) (by omega) (by rintro a ⟨⟩; show _ ≠ cb; (first | omega | (simp; omega) | simp))).mono ?_
    rintro y w4 ⟨x, rfl, _, d4⟩
    have s4 := d4.2.size
    (try simp at s4)
    have kd4_0 : ∀ o, w4.cell? ⟨w.heap.size, o, none⟩ = _ := fun o => d4.cell (b := w.heap.size) (by (first | omega | (simp; omega) | simp)) (by omega) o
    have kf4_0 : ∀ o, w4.frozen? ⟨w.heap.size, o, none⟩ = _ := fun o => d4.frozen (b := w.heap.size) (by (first | omega | (simp; omega) | simp)) (by omega) o
    have kd4_1 : ∀ o, w4.cell? ⟨w2.heap.size, o, none⟩ = _ := fun o => d4.cell (b := w2.heap.size) (by (first | omega | (simp; omega) | simp)) (by omega) o
    have kf4_1 : ∀ o, w4.frozen? ⟨w2.heap.size, o, none⟩ = _ := fun o => d4.frozen (b := w2.heap.size) (by (first | omega | (simp; omega) | simp)) (by omega) o
    have kd4_2 : ∀ o, w4.cell? ⟨w3.heap.size, o, none⟩ = _ := fun o => d4.cell (b := w3.heap.size) (by (first | omega | (simp; omega) | simp)) (by omega) o
    have kf4_2 : ∀ o, w4.frozen? ⟨w3.heap.size, o, none⟩ = _ := fun o => d4.frozen (b := w3.heap.size) (by (first | omega | (simp; omega) | simp)) (by omega) o
    have kz4_0 : w.heap.size < w4.heap.size := by (first | omega | (simp; omega) | simp)
    have ky4_0 : ¬ w.heap.size = w4.heap.size := by (first | omega | (simp; omega) | simp)
    have kx4_0 : ¬ w4.heap.size = w.heap.size := by (first | omega | (simp; omega) | simp)
    have kcb4_0 : ¬ w.heap.size = cb := by omega
    have kz4_1 : w2.heap.size < w4.heap.size := by (first | omega | (simp; omega) | simp)
    have ky4_1 : ¬ w2.heap.size = w4.heap.size := by (first | omega | (simp; omega) | simp)
    have kx4_1 : ¬ w4.heap.size = w2.heap.size := by (first | omega | (simp; omega) | simp)
    have kcb4_1 : ¬ w2.heap.size = cb := by omega
    have kz4_2 : w3.heap.size < w4.heap.size := by (first | omega | (simp; omega) | simp)
    have ky4_2 : ¬ w3.heap.size = w4.heap.size := by (first | omega | (simp; omega) | simp)
    have kx4_2 : ¬ w4.heap.size = w3.heap.size := by (first | omega | (simp; omega) | simp)
    have kcb4_2 : ¬ w3.heap.size = cb := by omega
    have D4 : Drew w cb w4 := Drew.trans (by (repeat (first | with_reducible assumption | (with_reducible refine Drew.set hlt ?_ ?_; (first | omega | (simp; omega) | simp)) | with_reducible refine Drew.alloc _ ?_ | with_reducible refine Drew.drewN _ ?_ | with_reducible exact Cur.drew_below HC.out (Below.refl _ _)))) d4
    have C4 := Lib.hid d4.1
    clear d4
    have r0 : w4.cell? ⟨w.heap.size, 0, none⟩ = some (.int .i64 0) := by (first | (go_keep; done) | (go_simp; done))
    have r1 : w4.cell? ⟨w.heap.size, 1, none⟩ = some (.int .i64 0) := by (first | (go_keep; done) | (go_simp; done))
    have q0 : w4.cell? ⟨w2.heap.size, 0, none⟩ = some (.int .i64 (1 + x0)) := by (first | (go_keep; done) | (go_simp; done))
    have q1 : w4.cell? ⟨w2.heap.size, 1, none⟩ = some (.int .i64 (1 + x1)) := by (first | (go_keep; done) | (go_simp; done))
    have rz0 : w4.frozen? ⟨w.heap.size, 0, none⟩ = false := by (first | (go_keep; done) | (go_simp; done))
    have rz1 : w4.frozen? ⟨w.heap.size, 1, none⟩ = false := by (first | (go_keep; done) | (go_simp; done))
    have qz0 : w4.frozen? ⟨w2.heap.size, 0, none⟩ = false := by (first | (go_keep; done) | (go_simp; done))
    have qz1 : w4.frozen? ⟨w2.heap.size, 1, none⟩ = false := by (first | (go_keep; done) | (go_simp; done))
    go_wp2
    refine bodyPost_ret (v := .agg #[.int .i64 (x), .int .i64 (1 + x1)]) (by simp only [results, Try.results16]; (first | (go_simp; done) | (go_simp; omega))) rfl ⟨fun j => [x, 1 + x1].getD j 0, rfl, ?_⟩
    (repeat (first | with_reducible assumption | (with_reducible refine Drew.set hlt ?_ ?_; (first | omega | (simp; omega) | simp)) | with_reducible refine Drew.alloc _ ?_ | with_reducible refine Drew.drewN _ ?_ | with_reducible exact Cur.drew_below HC.out (Below.refl _ _)))
  by_cases v1 : v = 1
  · subst v1
    go_wp2_with fail
    refine (l1PickInt_any cb _ 4 4 _ _ (by first | with_reducible exact C3.out | (refine Drew.cur (w := w) ?_; (repeat (first | with_reducible assumption | (with_reducible refine Drew.set hlt ?_ ?_; (first | omega | (simp; omega) | simp)) | with_reducible refine Drew.alloc _ ?_ | with_reducible refine Drew.drewN _ ?_ | with_reducible exact Cur.drew_below HC.out (Below.refl _ _))))) (rd_litsb _ _ [0, 999, 1000, -1] _ (by (first | omega | (simp; omega) | simp))) (by omega) (by omega) (by rintro a ⟨⟩; show _ ≠ cb; (first | omega | (simp; omega) | simp))).mono ?_
    rintro y w4 ⟨x, rfl, _, d4⟩
    have s4 := d4.2.size
    (try simp at s4)
    have kd4_0 : ∀ o, w4.cell? ⟨w.heap.size, o, none⟩ = _ := fun o => d4.cell (b := w.heap.size) (by (first | omega | (simp; omega) | simp)) (by omega) o
    have kf4_0 : ∀ o, w4.frozen? ⟨w.heap.size, o, none⟩ = _ := fun o => d4.frozen (b := w.heap.size) (by (first | omega | (simp; omega) | simp)) (by omega) o
    have kd4_1 : ∀ o, w4.cell? ⟨w2.heap.size, o, none⟩ = _ := fun o => d4.cell (b := w2.heap.size) (by (first | omega | (simp; omega) | simp)) (by omega) o
    have kf4_1 : ∀ o, w4.frozen? ⟨w2.heap.size, o, none⟩ = _ := fun o => d4.frozen (b := w2.heap.size) (by (first | omega | (simp; omega) | simp)) (by omega) o
    have kd4_2 : ∀ o, w4.cell? ⟨w3.heap.size, o, none⟩ = _ := fun o => d4.cell (b := w3.heap.size) (by (first | omega | (simp; omega) | simp)) (by omega) o
    have kf4_2 : ∀ o, w4.frozen? ⟨w3.heap.size, o, none⟩ = _ := fun o => d4.frozen (b := w3.heap.size) (by (first | omega | (simp; omega) | simp)) (by omega) o
    have kz4_0 : w.heap.size < w4.heap.size := by (first | omega | (simp; omega) | simp)
    have ky4_0 : ¬ w.heap.size = w4.heap.size := by (first | omega | (simp; omega) | simp)
    have kx4_0 : ¬ w4.heap.size = w.heap.size := by (first | omega | (simp; omega) | simp)
    have kcb4_0 : ¬ w.heap.size = cb := by omega
    have kz4_1 : w2.heap.size < w4.heap.size := by (first | omega | (simp; omega) | simp)
    have ky4_1 : ¬ w2.heap.size = w4.heap.size := by (first | omega | (simp; omega) | simp)
    have kx4_1 : ¬ w4.heap.size = w2.heap.size := by (first | omega | (simp; omega) | simp)
    have kcb4_1 : ¬ w2.heap.size = cb := by omega
    have kz4_2 : w3.heap.size < w4.heap.size := by (first | omega | (simp; omega) | simp)
    have ky4_2 : ¬ w3.heap.size = w4.heap.size := by (first | omega | (simp; omega) | simp)
    have kx4_2 : ¬ w4.heap.size = w3.heap.size := by (first | omega | (simp; omega) | simp)
    have kcb4_2 : ¬ w3.heap.size = cb := by omega
    have D4 : Drew w cb w4 := Drew.trans (by (repeat (first | with_reducible assumption | (with_reducible refine Drew.set hlt ?_ ?_; (first | omega | (simp; omega) | simp)) | with_reducible refine Drew.alloc _ ?_ | with_reducible refine Drew.drewN _ ?_ | with_reducible exact Cur.drew_below HC.out (Below.refl _ _)))) d4
    have C4 := Lib.hid d4.1
    clear d4
    have r0 : w4.cell? ⟨w.heap.size, 0, none⟩ = some (.int .i64 0) := by (first | (go_keep; done) | (go_simp; done))
    have r1 : w4.cell? ⟨w.heap.size, 1, none⟩ = some (.int .i64 0) := by (first | (go_keep; done) | (go_simp; done))
    have q0 : w4.cell? ⟨w2.heap.size, 0, none⟩ = some (.int .i64 (1 + x0)) := by (first | (go_keep; done) | (go_simp; done))
    have q1 : w4.cell? ⟨w2.heap.size, 1, none⟩ = some (.int .i64 (1 + x1)) := by (first | (go_keep; done) | (go_simp; done))
    have rz0 : w4.frozen? ⟨w.heap.size, 0, none⟩ = false := by (first | (go_keep; done) | (go_simp; done))
    have rz1 : w4.frozen? ⟨w.heap.size, 1, none⟩ = false := by (first | (go_keep; done) | (go_simp; done))
    have qz0 : w4.frozen? ⟨w2.heap.size, 0, none⟩ = false := by (first | (go_keep; done) | (go_simp; done))
    have qz1 : w4.frozen? ⟨w2.heap.size, 1, none⟩ = false := by (first | (go_keep; done) | (go_simp; done))
    go_wp2
    refine bodyPost_ret (v := .agg #[.int .i64 (1 + x0), .int .i64 (x)]) (by simp only [results, Try.results16]; (first | (go_simp; done) | (go_simp; omega))) rfl ⟨fun j => [1 + x0, x].getD j 0, rfl, ?_⟩
    (repeat (first | with_reducible assumption | (with_reducible refine Drew.set hlt ?_ ?_; (first | omega | (simp; omega) | simp)) | with_reducible refine Drew.alloc _ ?_ | with_reducible refine Drew.drewN _ ?_ | with_reducible exact Cur.drew_below HC.out (Below.refl _ _)))
  have r0 : w3.cell? ⟨w.heap.size, 0, none⟩ = some (.int .i64 0) := by (first | (go_keep; done) | (go_simp; done))
  have r1 : w3.cell? ⟨w.heap.size, 1, none⟩ = some (.int .i64 0) := by (first | (go_keep; done) | (go_simp; done))
  have q0 : w3.cell? ⟨w2.heap.size, 0, none⟩ = some (.int .i64 (1 + x0)) := by (first | (go_keep; done) | (go_simp; done))
  have q1 : w3.cell? ⟨w2.heap.size, 1, none⟩ = some (.int .i64 (1 + x1)) := by (first | (go_keep; done) | (go_simp; done))
  have rz0 : w3.frozen? ⟨w.heap.size, 0, none⟩ = false := by (first | (go_keep; done) | (go_simp; done))
  have rz1 : w3.frozen? ⟨w.heap.size, 1, none⟩ = false := by (first | (go_keep; done) | (go_simp; done))
  have qz0 : w3.frozen? ⟨w2.heap.size, 0, none⟩ = false := by (first | (go_keep; done) | (go_simp; done))
  have qz1 : w3.frozen? ⟨w2.heap.size, 1, none⟩ = false := by (first | (go_keep; done) | (go_simp; done))
  go_wp2
  refine bodyPost_ret (v := .agg #[.int .i64 (1 + x0), .int .i64 (1 + x1)]) (by simp only [results, Try.results16]; (first | (go_simp; done) | (go_simp; omega))) rfl ⟨fun j => [1 + x0, 1 + x1].getD j 0, rfl, ?_⟩
  (repeat (first | with_reducible assumption | (with_reducible refine Drew.set hlt ?_ ?_; (first | omega | (simp; omega) | simp)) | with_reducible refine Drew.alloc _ ?_ | with_reducible refine Drew.drewN _ ?_ | with_reducible exact Cur.drew_below HC.out (Below.refl _ _)))

set_option maxRecDepth 100000 in
set_option maxHeartbeats 4000000 in
theorem l9Pins_any (cb : Nat) (w : World) (h : Cur w cb) :
    Calls Try.prog 43 #[.pointer (some ⟨cb, 0, none⟩)] w fun y w' => ∃ v, y = .returned v ∧ ∃ n, n ≤ 7 ∧ (∃ es : List (Nat → Int), es.length = n ∧ w'.ownsRow w.heap.size 28 2 v n (flat 2 es)) ∧ Drew w cb w' := by
  obtain ⟨i0, hi0, hz0, hz1, hz2⟩ := info_parts copyPin_info
  have hlt := h.lt
  have HC := Lib.hid h
  clear h
  go_enter Try.func43, Try.ntmps43
  go_wp2_with fail
  refine (l1Below_any cb 8 _ (by first | with_reducible exact HC.out | (with_reducible refine HC.out.below ?_; (repeat (first | with_reducible exact Below.refl _ _ | with_reducible refine Below.drew ?_ | with_reducible refine below_drewN ?_ _ | (with_reducible refine bel_alloc ?_ ?_ _; (first | omega | (simp; omega) | simp)) | (with_reducible refine bel_set ?_ ?_ _; (first | omega | (simp; omega) | simp)) | (with_reducible refine bel_tr (by assumption) ?_ ?_; (first | omega | (simp; omega) | simp))))))).mono ?_
  rintro y w1 ⟨x, rfl, ⟨hx0, hx1, _⟩, d1⟩
  have hx8 := hx1 (by omega)
  have s1 := d1.2.size
  (try simp at s1)
  have row0 : w1.ownsRow w.heap.size 28 2 (.slice (some ⟨w.heap.size, 0, none⟩) 0 0) 0 (flat 2 []) := row_drew (rowE w _ 2) d1 hlt
  have D1 : Drew w cb w1 := Drew.trans (by (repeat (first | with_reducible assumption | (with_reducible refine Drew.set hlt ?_ ?_; (first | omega | (simp; omega) | simp)) | with_reducible refine Drew.alloc _ ?_ | with_reducible refine Drew.drewN _ ?_ | with_reducible exact Cur.drew_below HC.out (Below.refl _ _)))) d1
  have HR0 := Lib.hid row0
  clear d1 row0 hx1
  go_wp2
  go_loopw [3, 5] (fun v i wr => ∃ (k : Nat) (es : List (Nat → Int)), (k : Int) ≤ x ∧ i = .int .i64 k ∧ es.length = k ∧ Hid (wr.ownsRow w.heap.size 28 2 v k (flat 2 es)) ∧ Hid (Drew w cb wr) ∧ w.heap.size ≤ wr.heap.size) (fun _ i _ => 8 - (intOf i).toNat)
  case atStart => exact ⟨0, [], by omega, rfl, rfl, HR0.out, D1, by omega⟩
  case round =>
    obtain ⟨k, es, hk, rfl, hl, HO, HD, hs⟩ := hrel
    by_cases hlt2 : (k : Int) < x
    · go_wp2_with fail
      refine (l9Pin_any cb _ HD.out.1).mono ?_
      rintro y w2 ⟨e, rfl, d2⟩
      have D2 : Hid (Drew w cb w2) := HD.out.trans d2
      have s2 := d2.2.size
      have O2 := Lib.hid (row_drew HO.out d2 hlt)
      clear d2
      go_wp2_with (at_builtin; go_must (refine wpList_append_rd _ rfl _ _ 34 rfl w.heap.size 28 i0 _ 2 16 Try.underlying34 hi0 hz0 hz1 hz2 rfl (by omega) _ k es rfl (World.ownsRow.alloc O2.out _) (some ⟨w2.heap.size, 0, none⟩) 1 1 [e] rfl (rd_one2 _ _ e) (by unfold maxLen; omega) (by omega) (by simp; omega) ?_); intro v3 w3 hown3 hg3 hat3)
      have D3 : Drew w cb w3 := Drew.grow hlt (by simp; omega) (Drew.alloc _ D2.out) hg3 (row_ge O2.out (Nat.le_refl _))
      have s3 := hg3.size
      (try simp at s3)
      go_roundw
      case rel => exact ⟨k + 1, es ++ [e], by omega, by go_num, by simp [hl], hown3, D3, by omega⟩
      case measure => simp [intOf]; omega
    · go_wp2
      go_ret
      exact ⟨_, rfl, k, by omega, ⟨es, hl, HO.out⟩, HD.out⟩

end Go.Proofs.Ytehmanlpgjccoaa
