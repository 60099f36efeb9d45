/-
  Contracts of FirstFit of the program and of the reference. No conditions beyond those stated.
-/
import Derived.Test.YtjlmcppkafjniaaGreatPo
import Derived.Test.YtjlmcppkafjniaaGreatPu
import Derived.Test.YtjlmcppkafjniaaGreatQa
import Derived.Test.YtjlmcppkafjniaaGreatIs
namespace Go.Proofs.YtjlmcppkafjniaaGreat
open Go.RowKit

set_option maxRecDepth 100000 in
set_option maxHeartbeats 4000000 in
theorem l7Entry_any (cb : Nat) (w : World) (h : Cur w cb) :
    Calls Tryz.prog 73 #[.pointer (some ⟨cb, 0, none⟩)] w fun y w' => ∃ e : Nat → Int, y = .returned (.agg #[.int .i64 (e 0), .int .i64 (e 1), .int .i64 (e 2), .int .i64 (e 3)]) ∧ Drew w cb w' := by
  have hlt := h.lt
  have HC := Lib.hid h
  clear h
  go_enter Tryz.func73, Tryz.ntmps73
  go_wp2_with fail
  refine (l1Below_any cb 4 _ (by first | with_reducible exact HC.out | (with_reducible refine HC.out.below ?_; (repeat (first | with_reducible exact Below.refl _ _ | with_reducible refine Below.drew ?_ | with_reducible refine below_drewN ?_ _ | (with_reducible refine bel_alloc ?_ ?_ _; (first | omega | (simp; omega) | simp)) | (with_reducible refine bel_set ?_ ?_ _; (first | omega | (simp; omega) | simp)) | (with_reducible refine bel_tr (by assumption) ?_ ?_; (first | omega | (simp; omega) | simp))))))).mono ?_
  rintro y w1 ⟨x0, rfl, ⟨_, _, _⟩, d1⟩
  have s1 := d1.2.size
  (try simp at s1)
  have kd1_0 : ∀ o, w1.cell? ⟨w.heap.size, o, none⟩ = _ := fun o => d1.cell (b := w.heap.size) (by (first | omega | (simp; omega) | simp)) (by omega) o
  have kf1_0 : ∀ o, w1.frozen? ⟨w.heap.size, o, none⟩ = _ := fun o => d1.frozen (b := w.heap.size) (by (first | omega | (simp; omega) | simp)) (by omega) o
  have kz1_0 : w.heap.size < w1.heap.size := by (first | omega | (simp; omega) | simp)
  have ky1_0 : ¬ w.heap.size = w1.heap.size := by (first | omega | (simp; omega) | simp)
  have kx1_0 : ¬ w1.heap.size = w.heap.size := by (first | omega | (simp; omega) | simp)
  have kcb1_0 : ¬ w.heap.size = cb := by omega
  have D1 : Drew w cb w1 := Drew.trans (by (repeat (first | with_reducible assumption | (with_reducible refine Drew.set hlt ?_ ?_; (first | omega | (simp; omega) | simp)) | with_reducible refine Drew.alloc _ ?_ | with_reducible refine Drew.drewN _ ?_ | with_reducible exact Cur.drew_below HC.out (Below.refl _ _)))) d1
  have C1 := Lib.hid d1.1
  clear d1
  go_wp2_with fail
  refine (l1Below_any cb 20 _ C1.out).mono ?_
  rintro y w2 ⟨x1, rfl, ⟨_, _, _⟩, d2⟩
  have s2 := d2.2.size
  (try simp at s2)
  have kd2_0 : ∀ o, w2.cell? ⟨w.heap.size, o, none⟩ = _ := fun o => d2.cell (b := w.heap.size) (by (first | omega | (simp; omega) | simp)) (by omega) o
  have kf2_0 : ∀ o, w2.frozen? ⟨w.heap.size, o, none⟩ = _ := fun o => d2.frozen (b := w.heap.size) (by (first | omega | (simp; omega) | simp)) (by omega) o
  have kz2_0 : w.heap.size < w2.heap.size := by (first | omega | (simp; omega) | simp)
  have ky2_0 : ¬ w.heap.size = w2.heap.size := by (first | omega | (simp; omega) | simp)
  have kx2_0 : ¬ w2.heap.size = w.heap.size := by (first | omega | (simp; omega) | simp)
  have kcb2_0 : ¬ w.heap.size = cb := by omega
  have D2 : Drew w cb w2 := Drew.trans (by (repeat (first | with_reducible assumption | (with_reducible refine Drew.set hlt ?_ ?_; (first | omega | (simp; omega) | simp)) | with_reducible refine Drew.alloc _ ?_ | with_reducible refine Drew.drewN _ ?_ | with_reducible exact Cur.drew_below HC.out (Below.refl _ _)))) d2
  have C2 := Lib.hid d2.1
  clear d2
  go_wp2_with fail
  refine (l1Below_any cb 12 _ C2.out).mono ?_
  rintro y w3 ⟨x2, rfl, ⟨_, _, _⟩, d3⟩
  have s3 := d3.2.size
  (try simp at s3)
  have kd3_0 : ∀ o, w3.cell? ⟨w.heap.size, o, none⟩ = _ := fun o => d3.cell (b := w.heap.size) (by (first | omega | (simp; omega) | simp)) (by omega) o
  have kf3_0 : ∀ o, w3.frozen? ⟨w.heap.size, o, none⟩ = _ := fun o => d3.frozen (b := w.heap.size) (by (first | omega | (simp; omega) | simp)) (by omega) o
  have kz3_0 : w.heap.size < w3.heap.size := by (first | omega | (simp; omega) | simp)
  have ky3_0 : ¬ w.heap.size = w3.heap.size := by (first | omega | (simp; omega) | simp)
  have kx3_0 : ¬ w3.heap.size = w.heap.size := by (first | omega | (simp; omega) | simp)
  have kcb3_0 : ¬ w.heap.size = cb := by omega
  have D3 : Drew w cb w3 := Drew.trans (by (repeat (first | with_reducible assumption | (with_reducible refine Drew.set hlt ?_ ?_; (first | omega | (simp; omega) | simp)) | with_reducible refine Drew.alloc _ ?_ | with_reducible refine Drew.drewN _ ?_ | with_reducible exact Cur.drew_below HC.out (Below.refl _ _)))) d3
  have C3 := Lib.hid d3.1
  clear d3
  go_wp2_with fail
  refine (l1Below_any cb 6 _ C3.out).mono ?_
  rintro y w4 ⟨x3, rfl, ⟨_, _, _⟩, d4⟩
  have s4 := d4.2.size
  (try simp at s4)
  have kd4_0 : ∀ o, w4.cell? ⟨w.heap.size, o, none⟩ = _ := fun o => d4.cell (b := w.heap.size) (by (first | omega | (simp; omega) | simp)) (by omega) o
  have kf4_0 : ∀ o, w4.frozen? ⟨w.heap.size, o, none⟩ = _ := fun o => d4.frozen (b := w.heap.size) (by (first | omega | (simp; omega) | simp)) (by omega) o
  have kz4_0 : w.heap.size < w4.heap.size := by (first | omega | (simp; omega) | simp)
  have ky4_0 : ¬ w.heap.size = w4.heap.size := by (first | omega | (simp; omega) | simp)
  have kx4_0 : ¬ w4.heap.size = w.heap.size := by (first | omega | (simp; omega) | simp)
  have kcb4_0 : ¬ w.heap.size = cb := by omega
  have D4 : Drew w cb w4 := Drew.trans (by (repeat (first | with_reducible assumption | (with_reducible refine Drew.set hlt ?_ ?_; (first | omega | (simp; omega) | simp)) | with_reducible refine Drew.alloc _ ?_ | with_reducible refine Drew.drewN _ ?_ | with_reducible exact Cur.drew_below HC.out (Below.refl _ _)))) d4
  have C4 := Lib.hid d4.1
  clear d4
  go_wp2_with fail
  refine (l1PickInt_any cb _ 8 8 _ _ (by first | with_reducible exact C4.out | (refine Drew.cur (w := w) ?_; (repeat (first | with_reducible assumption | (with_reducible refine Drew.set hlt ?_ ?_; (first | omega | (simp; omega) | simp)) | with_reducible refine Drew.alloc _ ?_ | with_reducible refine Drew.drewN _ ?_ | with_reducible exact Cur.drew_below HC.out (Below.refl _ _))))) (rd_litsb _ _ [-1, 0, 5, 7, 1000, 1000001, 9223372036854775807, -9223372036854775808] _ (by (first | omega | (simp; omega) | simp))) (by omega) (by omega) (by rintro a ⟨⟩; show _ ≠ cb; (first | omega | (simp; omega) | simp))).mono ?_
  rintro y w5 ⟨x, rfl, _, d5⟩
  have s5 := d5.2.size
  (try simp at s5)
  have kd5_0 : ∀ o, w5.cell? ⟨w.heap.size, o, none⟩ = _ := fun o => d5.cell (b := w.heap.size) (by (first | omega | (simp; omega) | simp)) (by omega) o
  have kf5_0 : ∀ o, w5.frozen? ⟨w.heap.size, o, none⟩ = _ := fun o => d5.frozen (b := w.heap.size) (by (first | omega | (simp; omega) | simp)) (by omega) o
  have kd5_1 : ∀ o, w5.cell? ⟨w4.heap.size, o, none⟩ = _ := fun o => d5.cell (b := w4.heap.size) (by (first | omega | (simp; omega) | simp)) (by omega) o
  have kf5_1 : ∀ o, w5.frozen? ⟨w4.heap.size, o, none⟩ = _ := fun o => d5.frozen (b := w4.heap.size) (by (first | omega | (simp; omega) | simp)) (by omega) o
  have kz5_0 : w.heap.size < w5.heap.size := by (first | omega | (simp; omega) | simp)
  have ky5_0 : ¬ w.heap.size = w5.heap.size := by (first | omega | (simp; omega) | simp)
  have kx5_0 : ¬ w5.heap.size = w.heap.size := by (first | omega | (simp; omega) | simp)
  have kcb5_0 : ¬ w.heap.size = cb := by omega
  have kz5_1 : w4.heap.size < w5.heap.size := by (first | omega | (simp; omega) | simp)
  have ky5_1 : ¬ w4.heap.size = w5.heap.size := by (first | omega | (simp; omega) | simp)
  have kx5_1 : ¬ w5.heap.size = w4.heap.size := by (first | omega | (simp; omega) | simp)
  have kcb5_1 : ¬ w4.heap.size = cb := by omega
  have D5 : Drew w cb w5 := Drew.trans (by (repeat (first | with_reducible assumption | (with_reducible refine Drew.set hlt ?_ ?_; (first | omega | (simp; omega) | simp)) | with_reducible refine Drew.alloc _ ?_ | with_reducible refine Drew.drewN _ ?_ | with_reducible exact Cur.drew_below HC.out (Below.refl _ _)))) d5
  have C5 := Lib.hid d5.1
  clear d5
  go_wp2_with fail
  refine (l1Below_any cb 30 _ C5.out).mono ?_
  rintro y w6 ⟨v, rfl, ⟨_, _, _⟩, d6⟩
  have s6 := d6.2.size
  (try simp at s6)
  have kd6_0 : ∀ o, w6.cell? ⟨w.heap.size, o, none⟩ = _ := fun o => d6.cell (b := w.heap.size) (by (first | omega | (simp; omega) | simp)) (by omega) o
  have kf6_0 : ∀ o, w6.frozen? ⟨w.heap.size, o, none⟩ = _ := fun o => d6.frozen (b := w.heap.size) (by (first | omega | (simp; omega) | simp)) (by omega) o
  have kd6_1 : ∀ o, w6.cell? ⟨w4.heap.size, o, none⟩ = _ := fun o => d6.cell (b := w4.heap.size) (by (first | omega | (simp; omega) | simp)) (by omega) o
  have kf6_1 : ∀ o, w6.frozen? ⟨w4.heap.size, o, none⟩ = _ := fun o => d6.frozen (b := w4.heap.size) (by (first | omega | (simp; omega) | simp)) (by omega) o
  have kz6_0 : w.heap.size < w6.heap.size := by (first | omega | (simp; omega) | simp)
  have ky6_0 : ¬ w.heap.size = w6.heap.size := by (first | omega | (simp; omega) | simp)
  have kx6_0 : ¬ w6.heap.size = w.heap.size := by (first | omega | (simp; omega) | simp)
  have kcb6_0 : ¬ w.heap.size = cb := by omega
  have kz6_1 : w4.heap.size < w6.heap.size := by (first | omega | (simp; omega) | simp)
  have ky6_1 : ¬ w4.heap.size = w6.heap.size := by (first | omega | (simp; omega) | simp)
  have kx6_1 : ¬ w6.heap.size = w4.heap.size := by (first | omega | (simp; omega) | simp)
  have kcb6_1 : ¬ w4.heap.size = cb := by omega
  have D6 : Drew w cb w6 := Drew.trans (by (repeat (first | with_reducible assumption | (with_reducible refine Drew.set hlt ?_ ?_; (first | omega | (simp; omega) | simp)) | with_reducible refine Drew.alloc _ ?_ | with_reducible refine Drew.drewN _ ?_ | with_reducible exact Cur.drew_below HC.out (Below.refl _ _)))) d6
  have C6 := Lib.hid d6.1
  clear d6
  have r0 : w6.cell? ⟨w.heap.size, 0, none⟩ = some (.int .i64 0) := by (first | (go_keep; done) | (go_simp; done))
  have r1 : w6.cell? ⟨w.heap.size, 1, none⟩ = some (.int .i64 0) := by (first | (go_keep; done) | (go_simp; done))
  have r2 : w6.cell? ⟨w.heap.size, 2, none⟩ = some (.int .i64 0) := by (first | (go_keep; done) | (go_simp; done))
  have r3 : w6.cell? ⟨w.heap.size, 3, none⟩ = some (.int .i64 0) := by (first | (go_keep; done) | (go_simp; done))
  have q0 : w6.cell? ⟨w4.heap.size, 0, none⟩ = some (.int .i64 (x0)) := by (first | (go_keep; done) | (go_simp; done))
  have q1 : w6.cell? ⟨w4.heap.size, 1, none⟩ = some (.int .i64 (1 + x1)) := by (first | (go_keep; done) | (go_simp; done))
  have q2 : w6.cell? ⟨w4.heap.size, 2, none⟩ = some (.int .i64 (1 + x2)) := by (first | (go_keep; done) | (go_simp; done))
  have q3 : w6.cell? ⟨w4.heap.size, 3, none⟩ = some (.int .i64 (1 + x3)) := by (first | (go_keep; done) | (go_simp; done))
  have rz0 : w6.frozen? ⟨w.heap.size, 0, none⟩ = false := by (first | (go_keep; done) | (go_simp; done))
  have rz1 : w6.frozen? ⟨w.heap.size, 1, none⟩ = false := by (first | (go_keep; done) | (go_simp; done))
  have rz2 : w6.frozen? ⟨w.heap.size, 2, none⟩ = false := by (first | (go_keep; done) | (go_simp; done))
  have rz3 : w6.frozen? ⟨w.heap.size, 3, none⟩ = false := by (first | (go_keep; done) | (go_simp; done))
  have qz0 : w6.frozen? ⟨w4.heap.size, 0, none⟩ = false := by (first | (go_keep; done) | (go_simp; done))
  have qz1 : w6.frozen? ⟨w4.heap.size, 1, none⟩ = false := by (first | (go_keep; done) | (go_simp; done))
  have qz2 : w6.frozen? ⟨w4.heap.size, 2, none⟩ = false := by (first | (go_keep; done) | (go_simp; done))
  have qz3 : w6.frozen? ⟨w4.heap.size, 3, none⟩ = false := by (first | (go_keep; done) | (go_simp; done))
  clear kd1_0 kd2_0 kd3_0 kd4_0 kd5_0 kd5_1 kd6_0 kd6_1 kf1_0 kf2_0 kf3_0 kf4_0 kf5_0 kf5_1 kf6_0 kf6_1
  by_cases v0 : v = 0
  · subst v0
    go_wp2
    refine bodyPost_ret (v := .agg #[.int .i64 (x), .int .i64 (1 + x1), .int .i64 (1 + x2), .int .i64 (1 + x3)]) (by simp only [results, Tryz.results73]; (first | (go_simp; done) | (go_simp; omega))) rfl ⟨fun j => [x, 1 + x1, 1 + x2, 1 + x3].getD j 0, rfl, ?_⟩
    (repeat (first | with_reducible assumption | (with_reducible refine Drew.set hlt ?_ ?_; (first | omega | (simp; omega) | simp)) | with_reducible refine Drew.alloc _ ?_ | with_reducible refine Drew.drewN _ ?_ | with_reducible exact Cur.drew_below HC.out (Below.refl _ _)))
  by_cases v1 : v = 1
  · subst v1
    go_wp2
    refine bodyPost_ret (v := .agg #[.int .i64 (x0), .int .i64 (x), .int .i64 (1 + x2), .int .i64 (1 + x3)]) (by simp only [results, Tryz.results73]; (first | (go_simp; done) | (go_simp; omega))) rfl ⟨fun j => [x0, x, 1 + x2, 1 + x3].getD j 0, rfl, ?_⟩
    (repeat (first | with_reducible assumption | (with_reducible refine Drew.set hlt ?_ ?_; (first | omega | (simp; omega) | simp)) | with_reducible refine Drew.alloc _ ?_ | with_reducible refine Drew.drewN _ ?_ | with_reducible exact Cur.drew_below HC.out (Below.refl _ _)))
  by_cases v2 : v = 2
  · subst v2
    go_wp2
    refine bodyPost_ret (v := .agg #[.int .i64 (x0), .int .i64 (1 + x1), .int .i64 (x), .int .i64 (1 + x3)]) (by simp only [results, Tryz.results73]; (first | (go_simp; done) | (go_simp; omega))) rfl ⟨fun j => [x0, 1 + x1, x, 1 + x3].getD j 0, rfl, ?_⟩
    (repeat (first | with_reducible assumption | (with_reducible refine Drew.set hlt ?_ ?_; (first | omega | (simp; omega) | simp)) | with_reducible refine Drew.alloc _ ?_ | with_reducible refine Drew.drewN _ ?_ | with_reducible exact Cur.drew_below HC.out (Below.refl _ _)))
  by_cases v3 : v = 3
  · subst v3
    go_wp2
    refine bodyPost_ret (v := .agg #[.int .i64 (x0), .int .i64 (1 + x1), .int .i64 (1 + x2), .int .i64 (x)]) (by simp only [results, Tryz.results73]; (first | (go_simp; done) | (go_simp; omega))) rfl ⟨fun j => [x0, 1 + x1, 1 + x2, x].getD j 0, rfl, ?_⟩
    (repeat (first | with_reducible assumption | (with_reducible refine Drew.set hlt ?_ ?_; (first | omega | (simp; omega) | simp)) | with_reducible refine Drew.alloc _ ?_ | with_reducible refine Drew.drewN _ ?_ | with_reducible exact Cur.drew_below HC.out (Below.refl _ _)))
  go_wp2
  refine bodyPost_ret (v := .agg #[.int .i64 (x0), .int .i64 (1 + x1), .int .i64 (1 + x2), .int .i64 (1 + x3)]) (by simp only [results, Tryz.results73]; (first | (go_simp; done) | (go_simp; omega))) rfl ⟨fun j => [x0, 1 + x1, 1 + x2, 1 + x3].getD j 0, rfl, ?_⟩
  (repeat (first | with_reducible assumption | (with_reducible refine Drew.set hlt ?_ ?_; (first | omega | (simp; omega) | simp)) | with_reducible refine Drew.alloc _ ?_ | with_reducible refine Drew.drewN _ ?_ | with_reducible exact Cur.drew_below HC.out (Below.refl _ _)))
end Go.Proofs.YtjlmcppkafjniaaGreat

namespace Go.Proofs.YtjlmcppkafjniaaGreat
open Go.RowKit

theorem l7Put_row (A : Option Addr) (n c : Nat) (es : List (Nat → Int)) (e : Nat → Int) (w : World) (hn : n ≤ 4194303) (hnc : n ≤ c) (hcm : c ≤ 9223372036854775807) (h : Rd w 4 A n es) :
    Calls Tryz.prog 92 #[.slice A n c, .agg #[.int .i64 (e 0), .int .i64 (e 1), .int .i64 (e 2), .int .i64 (e 3)]] w fun y w' => ∃ v, y = .returned v ∧ w'.ownsRow w.heap.size 82 4 v (n + 1) (flat 4 (insL es (plc es e n) e)) ∧ Below w.heap.size w w' := by
  rcases Nat.eq_zero_or_pos n with h0 | h0
  · exact l7Put_zero A n c es e w hn hnc hcm h h0
  · obtain ⟨b, off, rfl, _, _⟩ := h.2.resolve_left (by omega)
    exact l7Put_pos b off n c es e w hn hnc hcm h h0

set_option maxRecDepth 100000 in
set_option maxHeartbeats 4000000 in
theorem sQueuePut_row (A : Option Addr) (n c N : Nat) (es T : List (Nat → Int)) (e : Nat → Int) (bv : Bool) (w : World) (hn : n ≤ 4194303) (hnc : n ≤ c) (hcm : c ≤ 9223372036854775807) (hR : PutRq es e n T N bv) (h : Rd w 4 A n es) :
    Calls Tryz.prog 100 #[.slice A n c, .agg #[.int .i64 (e 0), .int .i64 (e 1), .int .i64 (e 2), .int .i64 (e 3)]] w fun y w' => ∃ v, y = .returned (.tuple #[v, .bool bv]) ∧ w'.ownsRow w.heap.size 82 4 v N (flat 4 T) ∧ Below w.heap.size w w' := by
  have HL := Lib.hid h.1
  have H := Lib.hid h
  clear h
  go_enter Tryz.func100, Tryz.ntmps100
  go_wp2_with fail
  refine (l7Put_row A n c es e _ hn hnc hcm (H.out.below (by (repeat (first | with_reducible exact Below.refl _ _ | with_reducible refine Below.drew ?_ | with_reducible refine below_drewN ?_ _ | (with_reducible refine bel_alloc ?_ ?_ _; (first | omega | (simp; omega) | simp)) | (with_reducible refine bel_set ?_ ?_ _; (first | omega | (simp; omega) | simp)) | (with_reducible refine bel_tr (by assumption) ?_ ?_; (first | omega | (simp; omega) | simp))))))).mono ?_
  rintro y w3 ⟨v3, rfl, r3, b3⟩
  obtain ⟨A3, c3, rfl, hc3, hc4, o3⟩ := own_of_row_cap (insL_len HL.out plc_le) r3
  have R3 := Lib.hid r3
  clear r3
  have s3 := b3.size
  (try simp at s3)
  have O3 := Lib.hid (o3.lower_ (B' := w.heap.size) (by (first | omega | (simp; omega) | simp)))
  clear o3
  go_wp2_with fail
  by_cases h1 : QOk es n
  · refine (ty (sQueueOk_any _ n c es _ (by omega) hnc (H.out.below (by (repeat (first | with_reducible exact Below.refl _ _ | with_reducible refine Below.drew ?_ | with_reducible refine below_drewN ?_ _ | (with_reducible refine bel_alloc ?_ ?_ _; (first | omega | (simp; omega) | simp)) | (with_reducible refine bel_set ?_ ?_ _; (first | omega | (simp; omega) | simp)) | (with_reducible refine bel_tr (by assumption) ?_ ?_; (first | omega | (simp; omega) | simp))))))) h1).mono ?_
    rintro y w4 ⟨rfl, b4⟩
    have s4 := b4.size
    go_wp2_with fail
    by_cases h2 : QOk (insL es (plc es e n) e) (n + 1)
    · refine (ty (sQueueOk_any A3 (n + 1) c3 (insL es (plc es e n) e) _ (by omega) hc3 (O3.out.rd.below (by (repeat (first | with_reducible exact Below.refl _ _ | with_reducible refine Below.drew ?_ | with_reducible refine below_drewN ?_ _ | (with_reducible refine bel_alloc ?_ ?_ _; (first | omega | (simp; omega) | simp)) | (with_reducible refine bel_set ?_ ?_ _; (first | omega | (simp; omega) | simp)) | (with_reducible refine bel_tr (by assumption) ?_ ?_; (first | omega | (simp; omega) | simp))))))) h2).mono ?_
      rintro y w5 ⟨rfl, b5⟩
      have s5 := b5.size
      go_wp2
      go_ret2
      rcases hR with ⟨_, rfl, rfl, rfl⟩ | ⟨h3, _⟩
      · exact ⟨_, rfl, (row_below R3.out (show Below w3.heap.size w3 w5 from by (repeat (first | with_reducible exact Below.refl _ _ | with_reducible refine Below.drew ?_ | with_reducible refine below_drewN ?_ _ | (with_reducible refine bel_alloc ?_ ?_ _; (first | omega | (simp; omega) | simp)) | (with_reducible refine bel_set ?_ ?_ _; (first | omega | (simp; omega) | simp)) | (with_reducible refine bel_tr (by assumption) ?_ ?_; (first | omega | (simp; omega) | simp)))))).lower (by (first | omega | (simp; omega) | simp)), by (repeat (first | with_reducible exact Below.refl _ _ | with_reducible refine Below.drew ?_ | with_reducible refine below_drewN ?_ _ | (with_reducible refine bel_alloc ?_ ?_ _; (first | omega | (simp; omega) | simp)) | (with_reducible refine bel_set ?_ ?_ _; (first | omega | (simp; omega) | simp)) | (with_reducible refine bel_tr (by assumption) ?_ ?_; (first | omega | (simp; omega) | simp))))⟩
      · exact absurd ⟨h1, h2⟩ h3
    · refine (tn (sQueueOk_any A3 (n + 1) c3 (insL es (plc es e n) e) _ (by omega) hc3 (O3.out.rd.below (by (repeat (first | with_reducible exact Below.refl _ _ | with_reducible refine Below.drew ?_ | with_reducible refine below_drewN ?_ _ | (with_reducible refine bel_alloc ?_ ?_ _; (first | omega | (simp; omega) | simp)) | (with_reducible refine bel_set ?_ ?_ _; (first | omega | (simp; omega) | simp)) | (with_reducible refine bel_tr (by assumption) ?_ ?_; (first | omega | (simp; omega) | simp))))))) h2).mono ?_
      rintro y w5 ⟨rfl, b5⟩
      have s5 := b5.size
      go_wp2_with fail
      refine (l7Copy_any _ n c es _ (by omega) (H.out.below (by (repeat (first | with_reducible exact Below.refl _ _ | with_reducible refine Below.drew ?_ | with_reducible refine below_drewN ?_ _ | (with_reducible refine bel_alloc ?_ ?_ _; (first | omega | (simp; omega) | simp)) | (with_reducible refine bel_set ?_ ?_ _; (first | omega | (simp; omega) | simp)) | (with_reducible refine bel_tr (by assumption) ?_ ?_; (first | omega | (simp; omega) | simp))))))).mono ?_
      rintro y w6 ⟨v, rfl, o6, b6⟩
      have s6 := b6.size; have R6 := Lib.hid o6
      obtain ⟨A6, c6, rfl, q6⟩ := own_of_row HL.out o6
      have O6 := Lib.hid (q6.lower_ (B' := w.heap.size) (by (first | omega | (simp; omega) | simp)))
      clear o6 q6
      go_wp2
      go_ret2
      rcases hR with ⟨h3, _⟩ | ⟨_, rfl, rfl, rfl⟩
      · exact absurd h3 (fun h3 => h2 h3.2)
      · exact ⟨_, rfl, R6.out.lower (by (first | omega | (simp; omega) | simp)), by (repeat (first | with_reducible exact Below.refl _ _ | with_reducible refine Below.drew ?_ | with_reducible refine below_drewN ?_ _ | (with_reducible refine bel_alloc ?_ ?_ _; (first | omega | (simp; omega) | simp)) | (with_reducible refine bel_set ?_ ?_ _; (first | omega | (simp; omega) | simp)) | (with_reducible refine bel_tr (by assumption) ?_ ?_; (first | omega | (simp; omega) | simp))))⟩
  · refine (tn (sQueueOk_any _ n c es _ (by omega) hnc (H.out.below (by (repeat (first | with_reducible exact Below.refl _ _ | with_reducible refine Below.drew ?_ | with_reducible refine below_drewN ?_ _ | (with_reducible refine bel_alloc ?_ ?_ _; (first | omega | (simp; omega) | simp)) | (with_reducible refine bel_set ?_ ?_ _; (first | omega | (simp; omega) | simp)) | (with_reducible refine bel_tr (by assumption) ?_ ?_; (first | omega | (simp; omega) | simp))))))) h1).mono ?_
    rintro y w5 ⟨rfl, b5⟩
    have s5 := b5.size
    go_wp2_with fail
    refine (l7Copy_any _ n c es _ (by omega) (H.out.below (by (repeat (first | with_reducible exact Below.refl _ _ | with_reducible refine Below.drew ?_ | with_reducible refine below_drewN ?_ _ | (with_reducible refine bel_alloc ?_ ?_ _; (first | omega | (simp; omega) | simp)) | (with_reducible refine bel_set ?_ ?_ _; (first | omega | (simp; omega) | simp)) | (with_reducible refine bel_tr (by assumption) ?_ ?_; (first | omega | (simp; omega) | simp))))))).mono ?_
    rintro y w6 ⟨v, rfl, o6, b6⟩
    have s6 := b6.size; have R6 := Lib.hid o6
    obtain ⟨A6, c6, rfl, q6⟩ := own_of_row HL.out o6
    have O6 := Lib.hid (q6.lower_ (B' := w.heap.size) (by (first | omega | (simp; omega) | simp)))
    clear o6 q6
    go_wp2
    go_ret2
    rcases hR with ⟨h3, _⟩ | ⟨_, rfl, rfl, rfl⟩
    · exact absurd h3 (fun h3 => h1 h3.1)
    · exact ⟨_, rfl, R6.out.lower (by (first | omega | (simp; omega) | simp)), by (repeat (first | with_reducible exact Below.refl _ _ | with_reducible refine Below.drew ?_ | with_reducible refine below_drewN ?_ _ | (with_reducible refine bel_alloc ?_ ?_ _; (first | omega | (simp; omega) | simp)) | (with_reducible refine bel_set ?_ ?_ _; (first | omega | (simp; omega) | simp)) | (with_reducible refine bel_tr (by assumption) ?_ ?_; (first | omega | (simp; omega) | simp))))⟩
end Go.Proofs.YtjlmcppkafjniaaGreat

namespace Go.Proofs.YtjlmcppkafjniaaGreat
open Go.RowKit

/-- x is among the integers. -/
def hasN (ss : List (Nat → Int)) (m : Nat) (x : Int) : Bool := (List.range m).any fun i => fld ss i 0 == x
theorem hasN_of {ss : List (Nat → Int)} {m k : Nat} {x : Int} (hk : k < m) (h : (fld ss k 0 == x) = true) : hasN ss m x = true := by
  unfold hasN
  rw [List.any_eq_true]
  exact ⟨k, List.mem_range.2 hk, h⟩
theorem hasN_no {ss : List (Nat → Int)} {m : Nat} {x : Int} (h : ∀ i, i < m → (fld ss i 0 == x) = false) : hasN ss m x = false := by
  unfold hasN
  rw [List.any_eq_false]
  intro i hi
  rw [h i (List.mem_range.1 hi)]
  simp

/-- The element fits: its size is at most free, and its Id is not to be skipped. -/
def fits (free : Int) (ss : List (Nat → Int)) (m : Nat) (e : Nat → Int) : Bool := decide (e 3 ≤ free) && !hasN ss m (e 2)

end Go.Proofs.YtjlmcppkafjniaaGreat
