/-
  A gathered wheel with one spoke put in another's place; the contract of slices.Index at pins. No conditions beyond those stated.
-/
import Derived.Test.YtjlmcppkafjniaaGreatPos
import Derived.Test.YtjlmcppkafjniaaGreatDz
import Derived.Test.YtjlmcppkafjniaaGreatWa
import Derived.Test.YtjlmcppkafjniaaGreatBw
import Derived.Test.YtjlmcppkafjniaaGreatQa
namespace Go.Proofs.YtjlmcppkafjniaaGreat
open Go.RowKit

/-- Of the first k pins those that are due at t. -/
def dueL (L : List (Nat → Int)) (t : Int) : Nat → List (Nat → Int)
  | 0 => []
  | k + 1 => if fld L k 0 ≤ t then dueL L t k ++ [fld L k] else dueL L t k
theorem dueL_len {L : List (Nat → Int)} {t : Int} : ∀ k, (dueL L t k).length ≤ k
  | 0 => Nat.le_refl _
  | k + 1 => by
    have := dueL_len (L := L) (t := t) k
    unfold dueL
    split
    · rw [List.length_append]; simp; omega
    · omega
theorem rd_one3 (W : World) (g : Nat) (t : TypeId) (p : Nat → Int) (hg : g = W.heap.size) : Rd (W.alloc (.cells #[.int .i64 (p 0), .int .i64 (p 1)] t)) 2 (some ⟨g, 0, none⟩) 1 [p] := by
  subst hg
  exact rd_one2 W t p
theorem dueL_yes {L : List (Nat → Int)} {t : Int} {k : Nat} (h : fld L k 0 ≤ t) : dueL L t (k + 1) = dueL L t k ++ [fld L k] := if_pos h
theorem dueL_no {L : List (Nat → Int)} {t : Int} {k : Nat} (h : ¬ fld L k 0 ≤ t) : dueL L t (k + 1) = dueL L t k := if_neg h

end Go.Proofs.YtjlmcppkafjniaaGreat


namespace Go.Proofs.YtjlmcppkafjniaaGreat
open Go.RowKit

set_option maxRecDepth 100000 in
set_option maxHeartbeats 4000000 in
theorem l9Pin_any (cb : Nat) (w : World) (h : Cur w cb) :
    Calls Tryz.prog 75 #[.pointer (some ⟨cb, 0, none⟩)] w fun y w' => ∃ e : Nat → Int, y = .returned (.agg #[.int .i64 (e 0), .int .i64 (e 1)]) ∧ Drew w cb w' := by
  have hlt := h.lt
  have HC := Lib.hid h
  clear h
  go_enter Tryz.func75, Tryz.ntmps75
  go_wp2_with fail
  refine (l1Below_any cb 24 _ (by first | with_reducible exact HC.out | (with_reducible refine HC.out.below ?_; (repeat (first | with_reducible exact Below.refl _ _ | with_reducible refine Below.drew ?_ | with_reducible refine below_drewN ?_ _ | (with_reducible refine bel_alloc ?_ ?_ _; (first | omega | (simp; omega) | simp)) | (with_reducible refine bel_set ?_ ?_ _; (first | omega | (simp; omega) | simp)) | (with_reducible refine bel_tr (by assumption) ?_ ?_; (first | omega | (simp; omega) | simp))))))).mono ?_
  rintro y w1 ⟨x0, rfl, ⟨_, _, _⟩, d1⟩
  have s1 := d1.2.size
  (try simp at s1)
  have kd1_0 : ∀ o, w1.cell? ⟨w.heap.size, o, none⟩ = _ := fun o => d1.cell (b := w.heap.size) (by (first | omega | (simp; omega) | simp)) (by omega) o
  have kf1_0 : ∀ o, w1.frozen? ⟨w.heap.size, o, none⟩ = _ := fun o => d1.frozen (b := w.heap.size) (by (first | omega | (simp; omega) | simp)) (by omega) o
  have kz1_0 : w.heap.size < w1.heap.size := by (first | omega | (simp; omega) | simp)
  have ky1_0 : ¬ w.heap.size = w1.heap.size := by (first | omega | (simp; omega) | simp)
  have kx1_0 : ¬ w1.heap.size = w.heap.size := by (first | omega | (simp; omega) | simp)
  have kcb1_0 : ¬ w.heap.size = cb := by omega
  have D1 : Drew w cb w1 := Drew.trans (by (repeat (first | with_reducible assumption | (with_reducible refine Drew.set hlt ?_ ?_; (first | omega | (simp; omega) | simp)) | with_reducible refine Drew.alloc _ ?_ | with_reducible refine Drew.drewN _ ?_ | with_reducible exact Cur.drew_below HC.out (Below.refl _ _)))) d1
  have C1 := Lib.hid d1.1
  clear d1
  go_wp2_with fail
  refine (l1Below_any cb 12 _ C1.out).mono ?_
  rintro y w2 ⟨x1, rfl, ⟨_, _, _⟩, d2⟩
  have s2 := d2.2.size
  (try simp at s2)
  have kd2_0 : ∀ o, w2.cell? ⟨w.heap.size, o, none⟩ = _ := fun o => d2.cell (b := w.heap.size) (by (first | omega | (simp; omega) | simp)) (by omega) o
  have kf2_0 : ∀ o, w2.frozen? ⟨w.heap.size, o, none⟩ = _ := fun o => d2.frozen (b := w.heap.size) (by (first | omega | (simp; omega) | simp)) (by omega) o
  have kz2_0 : w.heap.size < w2.heap.size := by (first | omega | (simp; omega) | simp)
  have ky2_0 : ¬ w.heap.size = w2.heap.size := by (first | omega | (simp; omega) | simp)
  have kx2_0 : ¬ w2.heap.size = w.heap.size := by (first | omega | (simp; omega) | simp)
  have kcb2_0 : ¬ w.heap.size = cb := by omega
  have D2 : Drew w cb w2 := Drew.trans (by (repeat (first | with_reducible assumption | (with_reducible refine Drew.set hlt ?_ ?_; (first | omega | (simp; omega) | simp)) | with_reducible refine Drew.alloc _ ?_ | with_reducible refine Drew.drewN _ ?_ | with_reducible exact Cur.drew_below HC.out (Below.refl _ _)))) d2
  have C2 := Lib.hid d2.1
  clear d2
  go_wp2_with fail
  refine (l1Below_any cb 20 _ (by first | with_reducible exact C2.out | (refine Drew.cur (w := w) ?_; (repeat (first | with_reducible assumption | (with_reducible refine Drew.set hlt ?_ ?_; (first | omega | (simp; omega) | simp)) | with_reducible refine Drew.alloc _ ?_ | with_reducible refine Drew.drewN _ ?_ | with_reducible exact Cur.drew_below HC.out (Below.refl _ _)))))).mono ?_
  rintro y w3 ⟨v, rfl, ⟨_, _, _⟩, d3⟩
  have s3 := d3.2.size
  (try simp at s3)
  have kd3_0 : ∀ o, w3.cell? ⟨w.heap.size, o, none⟩ = _ := fun o => d3.cell (b := w.heap.size) (by (first | omega | (simp; omega) | simp)) (by omega) o
  have kf3_0 : ∀ o, w3.frozen? ⟨w.heap.size, o, none⟩ = _ := fun o => d3.frozen (b := w.heap.size) (by (first | omega | (simp; omega) | simp)) (by omega) o
  have kd3_1 : ∀ o, w3.cell? ⟨w2.heap.size, o, none⟩ = _ := fun o => d3.cell (b := w2.heap.size) (by (first | omega | (simp; omega) | simp)) (by omega) o
  have kf3_1 : ∀ o, w3.frozen? ⟨w2.heap.size, o, none⟩ = _ := fun o => d3.frozen (b := w2.heap.size) (by (first | omega | (simp; omega) | simp)) (by omega) o
  have kz3_0 : w.heap.size < w3.heap.size := by (first | omega | (simp; omega) | simp)
  have ky3_0 : ¬ w.heap.size = w3.heap.size := by (first | omega | (simp; omega) | simp)
  have kx3_0 : ¬ w3.heap.size = w.heap.size := by (first | omega | (simp; omega) | simp)
  have kcb3_0 : ¬ w.heap.size = cb := by omega
  have kz3_1 : w2.heap.size < w3.heap.size := by (first | omega | (simp; omega) | simp)
  have ky3_1 : ¬ w2.heap.size = w3.heap.size := by (first | omega | (simp; omega) | simp)
  have kx3_1 : ¬ w3.heap.size = w2.heap.size := by (first | omega | (simp; omega) | simp)
  have kcb3_1 : ¬ w2.heap.size = cb := by omega
  have D3 : Drew w cb w3 := Drew.trans (by (repeat (first | with_reducible assumption | (with_reducible refine Drew.set hlt ?_ ?_; (first | omega | (simp; omega) | simp)) | with_reducible refine Drew.alloc _ ?_ | with_reducible refine Drew.drewN _ ?_ | with_reducible exact Cur.drew_below HC.out (Below.refl _ _)))) d3
  have C3 := Lib.hid d3.1
  clear d3
  by_cases v0 : v = 0
  · subst v0
    go_wp2_with fail
    refine (l1PickInt_any cb _ 7 7 _ _ (by first | with_reducible exact C3.out | (refine Drew.cur (w := w) ?_; (repeat (first | with_reducible assumption | (with_reducible refine Drew.set hlt ?_ ?_; (first | omega | (simp; omega) | simp)) | with_reducible refine Drew.alloc _ ?_ | with_reducible refine Drew.drewN _ ?_ | with_reducible exact Cur.drew_below HC.out (Below.refl _ _))))) (rd_litsb _ _ [0, -1, -9, 1000008, 1000009, 9223372036854775807, -9223372036854775808] _ (by (first | omega | (simp; omega) | simp))) (by omega) (by omega) (by rintro a ⟨⟩; show _ ≠ cb; (first | omega | (simp; omega) | simp))).mono ?_
    rintro y w4 ⟨x, rfl, _, d4⟩
    have s4 := d4.2.size
    (try simp at s4)
    have kd4_0 : ∀ o, w4.cell? ⟨w.heap.size, o, none⟩ = _ := fun o => d4.cell (b := w.heap.size) (by (first | omega | (simp; omega) | simp)) (by omega) o
    have kf4_0 : ∀ o, w4.frozen? ⟨w.heap.size, o, none⟩ = _ := fun o => d4.frozen (b := w.heap.size) (by (first | omega | (simp; omega) | simp)) (by omega) o
    have kd4_1 : ∀ o, w4.cell? ⟨w2.heap.size, o, none⟩ = _ := fun o => d4.cell (b := w2.heap.size) (by (first | omega | (simp; omega) | simp)) (by omega) o
    have kf4_1 : ∀ o, w4.frozen? ⟨w2.heap.size, o, none⟩ = _ := fun o => d4.frozen (b := w2.heap.size) (by (first | omega | (simp; omega) | simp)) (by omega) o
    have kd4_2 : ∀ o, w4.cell? ⟨w3.heap.size, o, none⟩ = _ := fun o => d4.cell (b := w3.heap.size) (by (first | omega | (simp; omega) | simp)) (by omega) o
    have kf4_2 : ∀ o, w4.frozen? ⟨w3.heap.size, o, none⟩ = _ := fun o => d4.frozen (b := w3.heap.size) (by (first | omega | (simp; omega) | simp)) (by omega) o
    have kz4_0 : w.heap.size < w4.heap.size := by (first | omega | (simp; omega) | simp)
    have ky4_0 : ¬ w.heap.size = w4.heap.size := by (first | omega | (simp; omega) | simp)
    have kx4_0 : ¬ w4.heap.size = w.heap.size := by (first | omega | (simp; omega) | simp)
    have kcb4_0 : ¬ w.heap.size = cb := by omega
    have kz4_1 : w2.heap.size < w4.heap.size := by (first | omega | (simp; omega) | simp)
    have ky4_1 : ¬ w2.heap.size = w4.heap.size := by (first | omega | (simp; omega) | simp)
    have kx4_1 : ¬ w4.heap.size = w2.heap.size := by (first | omega | (simp; omega) | simp)
    have kcb4_1 : ¬ w2.heap.size = cb := by omega
    have kz4_2 : w3.heap.size < w4.heap.size := by (first | omega | (simp; omega) | simp)
    have ky4_2 : ¬ w3.heap.size = w4.heap.size := by (first | omega | (simp; omega) | simp)
    have kx4_2 : ¬ w4.heap.size = w3.heap.size := by (first | omega | (simp; omega) | simp)
    have kcb4_2 : ¬ w3.heap.size = cb := by omega
    have D4 : Drew w cb w4 := Drew.trans (by (repeat (first | with_reducible assumption | (with_reducible refine Drew.set hlt ?_ ?_; (first | omega | (simp; omega) | simp)) | with_reducible refine Drew.alloc _ ?_ | with_reducible refine Drew.drewN _ ?_ | with_reducible exact Cur.drew_below HC.out (Below.refl _ _)))) d4
    have C4 := Lib.hid d4.1
    clear d4
    have r0 : w4.cell? ⟨w.heap.size, 0, none⟩ = some (.int .i64 0) := by (first | (go_keep; done) | (go_simp; done))
    have r1 : w4.cell? ⟨w.heap.size, 1, none⟩ = some (.int .i64 0) := by (first | (go_keep; done) | (go_simp; done))
    have q0 : w4.cell? ⟨w2.heap.size, 0, none⟩ = some (.int .i64 (1 + x0)) := by (first | (go_keep; done) | (go_simp; done))
    have q1 : w4.cell? ⟨w2.heap.size, 1, none⟩ = some (.int .i64 (1 + x1)) := by (first | (go_keep; done) | (go_simp; done))
    have rz0 : w4.frozen? ⟨w.heap.size, 0, none⟩ = false := by (first | (go_keep; done) | (go_simp; done))
    have rz1 : w4.frozen? ⟨w.heap.size, 1, none⟩ = false := by (first | (go_keep; done) | (go_simp; done))
    have qz0 : w4.frozen? ⟨w2.heap.size, 0, none⟩ = false := by (first | (go_keep; done) | (go_simp; done))
    have qz1 : w4.frozen? ⟨w2.heap.size, 1, none⟩ = false := by (first | (go_keep; done) | (go_simp; done))
    go_wp2
    refine bodyPost_ret (v := .agg #[.int .i64 (x), .int .i64 (1 + x1)]) (by simp only [results, Tryz.results75]; (first | (go_simp; done) | (go_simp; omega))) rfl ⟨fun j => [x, 1 + x1].getD j 0, rfl, ?_⟩
    (repeat (first | with_reducible assumption | (with_reducible refine Drew.set hlt ?_ ?_; (first | omega | (simp; omega) | simp)) | with_reducible refine Drew.alloc _ ?_ | with_reducible refine Drew.drewN _ ?_ | with_reducible exact Cur.drew_below HC.out (Below.refl _ _)))
  by_cases v1 : v = 1
  · subst v1
    go_wp2_with fail
    refine (l1PickInt_any cb _ 4 4 _ _ (by first | with_reducible exact C3.out | (refine Drew.cur (w := w) ?_; (repeat (first | with_reducible assumption | (with_reducible refine Drew.set hlt ?_ ?_; (first | omega | (simp; omega) | simp)) | with_reducible refine Drew.alloc _ ?_ | with_reducible refine Drew.drewN _ ?_ | with_reducible exact Cur.drew_below HC.out (Below.refl _ _))))) (rd_litsb _ _ [0, 999, 1000, -1] _ (by (first | omega | (simp; omega) | simp))) (by omega) (by omega) (by rintro a ⟨⟩; show _ ≠ cb; (first | omega | (simp; omega) | simp))).mono ?_
    rintro y w4 ⟨x, rfl, _, d4⟩
    have s4 := d4.2.size
    (try simp at s4)
    have kd4_0 : ∀ o, w4.cell? ⟨w.heap.size, o, none⟩ = _ := fun o => d4.cell (b := w.heap.size) (by (first | omega | (simp; omega) | simp)) (by omega) o
    have kf4_0 : ∀ o, w4.frozen? ⟨w.heap.size, o, none⟩ = _ := fun o => d4.frozen (b := w.heap.size) (by (first | omega | (simp; omega) | simp)) (by omega) o
    have kd4_1 : ∀ o, w4.cell? ⟨w2.heap.size, o, none⟩ = _ := fun o => d4.cell (b := w2.heap.size) (by (first | omega | (simp; omega) | simp)) (by omega) o
    have kf4_1 : ∀ o, w4.frozen? ⟨w2.heap.size, o, none⟩ = _ := fun o => d4.frozen (b := w2.heap.size) (by (first | omega | (simp; omega) | simp)) (by omega) o
    have kd4_2 : ∀ o, w4.cell? ⟨w3.heap.size, o, none⟩ = _ := fun o => d4.cell (b := w3.heap.size) (by (first | omega | (simp; omega) | simp)) (by omega) o
    have kf4_2 : ∀ o, w4.frozen? ⟨w3.heap.size, o, none⟩ = _ := fun o => d4.frozen (b := w3.heap.size) (by (first | omega | (simp; omega) | simp)) (by omega) o
    have kz4_0 : w.heap.size < w4.heap.size := by (first | omega | (simp; omega) | simp)
    have ky4_0 : ¬ w.heap.size = w4.heap.size := by (first | omega | (simp; omega) | simp)
    have kx4_0 : ¬ w4.heap.size = w.heap.size := by (first | omega | (simp; omega) | simp)
    have kcb4_0 : ¬ w.heap.size = cb := by omega
    have kz4_1 : w2.heap.size < w4.heap.size := by (first | omega | (simp; omega) | simp)
    have ky4_1 : ¬ w2.heap.size = w4.heap.size := by (first | omega | (simp; omega) | simp)
    have kx4_1 : ¬ w4.heap.size = w2.heap.size := by (first | omega | (simp; omega) | simp)
    have kcb4_1 : ¬ w2.heap.size = cb := by omega
    have kz4_2 : w3.heap.size < w4.heap.size := by (first | omega | (simp; omega) | simp)
    have ky4_2 : ¬ w3.heap.size = w4.heap.size := by (first | omega | (simp; omega) | simp)
    have kx4_2 : ¬ w4.heap.size = w3.heap.size := by (first | omega | (simp; omega) | simp)
    have kcb4_2 : ¬ w3.heap.size = cb := by omega
    have D4 : Drew w cb w4 := Drew.trans (by (repeat (first | with_reducible assumption | (with_reducible refine Drew.set hlt ?_ ?_; (first | omega | (simp; omega) | simp)) | with_reducible refine Drew.alloc _ ?_ | with_reducible refine Drew.drewN _ ?_ | with_reducible exact Cur.drew_below HC.out (Below.refl _ _)))) d4
    have C4 := Lib.hid d4.1
    clear d4
    have r0 : w4.cell? ⟨w.heap.size, 0, none⟩ = some (.int .i64 0) := by (first | (go_keep; done) | (go_simp; done))
    have r1 : w4.cell? ⟨w.heap.size, 1, none⟩ = some (.int .i64 0) := by (first | (go_keep; done) | (go_simp; done))
    have q0 : w4.cell? ⟨w2.heap.size, 0, none⟩ = some (.int .i64 (1 + x0)) := by (first | (go_keep; done) | (go_simp; done))
    have q1 : w4.cell? ⟨w2.heap.size, 1, none⟩ = some (.int .i64 (1 + x1)) := by (first | (go_keep; done) | (go_simp; done))
    have rz0 : w4.frozen? ⟨w.heap.size, 0, none⟩ = false := by (first | (go_keep; done) | (go_simp; done))
    have rz1 : w4.frozen? ⟨w.heap.size, 1, none⟩ = false := by (first | (go_keep; done) | (go_simp; done))
    have qz0 : w4.frozen? ⟨w2.heap.size, 0, none⟩ = false := by (first | (go_keep; done) | (go_simp; done))
    have qz1 : w4.frozen? ⟨w2.heap.size, 1, none⟩ = false := by (first | (go_keep; done) | (go_simp; done))
    go_wp2
    refine bodyPost_ret (v := .agg #[.int .i64 (1 + x0), .int .i64 (x)]) (by simp only [results, Tryz.results75]; (first | (go_simp; done) | (go_simp; omega))) rfl ⟨fun j => [1 + x0, x].getD j 0, rfl, ?_⟩
    (repeat (first | with_reducible assumption | (with_reducible refine Drew.set hlt ?_ ?_; (first | omega | (simp; omega) | simp)) | with_reducible refine Drew.alloc _ ?_ | with_reducible refine Drew.drewN _ ?_ | with_reducible exact Cur.drew_below HC.out (Below.refl _ _)))
  have r0 : w3.cell? ⟨w.heap.size, 0, none⟩ = some (.int .i64 0) := by (first | (go_keep; done) | (go_simp; done))
  have r1 : w3.cell? ⟨w.heap.size, 1, none⟩ = some (.int .i64 0) := by (first | (go_keep; done) | (go_simp; done))
  have q0 : w3.cell? ⟨w2.heap.size, 0, none⟩ = some (.int .i64 (1 + x0)) := by (first | (go_keep; done) | (go_simp; done))
  have q1 : w3.cell? ⟨w2.heap.size, 1, none⟩ = some (.int .i64 (1 + x1)) := by (first | (go_keep; done) | (go_simp; done))
  have rz0 : w3.frozen? ⟨w.heap.size, 0, none⟩ = false := by (first | (go_keep; done) | (go_simp; done))
  have rz1 : w3.frozen? ⟨w.heap.size, 1, none⟩ = false := by (first | (go_keep; done) | (go_simp; done))
  have qz0 : w3.frozen? ⟨w2.heap.size, 0, none⟩ = false := by (first | (go_keep; done) | (go_simp; done))
  have qz1 : w3.frozen? ⟨w2.heap.size, 1, none⟩ = false := by (first | (go_keep; done) | (go_simp; done))
  go_wp2
  refine bodyPost_ret (v := .agg #[.int .i64 (1 + x0), .int .i64 (1 + x1)]) (by simp only [results, Tryz.results75]; (first | (go_simp; done) | (go_simp; omega))) rfl ⟨fun j => [1 + x0, 1 + x1].getD j 0, rfl, ?_⟩
  (repeat (first | with_reducible assumption | (with_reducible refine Drew.set hlt ?_ ?_; (first | omega | (simp; omega) | simp)) | with_reducible refine Drew.alloc _ ?_ | with_reducible refine Drew.drewN _ ?_ | with_reducible exact Cur.drew_below HC.out (Below.refl _ _)))

set_option maxRecDepth 100000 in
set_option maxHeartbeats 4000000 in
theorem l9Pins_any (cb : Nat) (w : World) (h : Cur w cb) :
    Calls Tryz.prog 101 #[.pointer (some ⟨cb, 0, none⟩)] w fun y w' => ∃ v, y = .returned v ∧ ∃ n, n ≤ 7 ∧ (∃ es : List (Nat → Int), es.length = n ∧ w'.ownsRow w.heap.size 87 2 v n (flat 2 es)) ∧ Drew w cb w' := by
  obtain ⟨i0, hi0, hz0, hz1, hz2⟩ := info_parts copyPin_info
  have hlt := h.lt
  have HC := Lib.hid h
  clear h
  go_enter Tryz.func101, Tryz.ntmps101
  go_wp2_with fail
  refine (l1Below_any cb 8 _ (by first | with_reducible exact HC.out | (with_reducible refine HC.out.below ?_; (repeat (first | with_reducible exact Below.refl _ _ | with_reducible refine Below.drew ?_ | with_reducible refine below_drewN ?_ _ | (with_reducible refine bel_alloc ?_ ?_ _; (first | omega | (simp; omega) | simp)) | (with_reducible refine bel_set ?_ ?_ _; (first | omega | (simp; omega) | simp)) | (with_reducible refine bel_tr (by assumption) ?_ ?_; (first | omega | (simp; omega) | simp))))))).mono ?_
  rintro y w1 ⟨x, rfl, ⟨hx0, hx1, _⟩, d1⟩
  have hx8 := hx1 (by omega)
  have s1 := d1.2.size
  (try simp at s1)
  have row0 : w1.ownsRow w.heap.size 87 2 (.slice (some ⟨w.heap.size, 0, none⟩) 0 0) 0 (flat 2 []) := row_drew (rowE w _ 2) d1 hlt
  have D1 : Drew w cb w1 := Drew.trans (by (repeat (first | with_reducible assumption | (with_reducible refine Drew.set hlt ?_ ?_; (first | omega | (simp; omega) | simp)) | with_reducible refine Drew.alloc _ ?_ | with_reducible refine Drew.drewN _ ?_ | with_reducible exact Cur.drew_below HC.out (Below.refl _ _)))) d1
  have HR0 := Lib.hid row0
  clear d1 row0 hx1
  go_wp2
  go_loopw [3, 5] (fun v i wr => ∃ (k : Nat) (es : List (Nat → Int)), (k : Int) ≤ x ∧ i = .int .i64 k ∧ es.length = k ∧ Hid (wr.ownsRow w.heap.size 87 2 v k (flat 2 es)) ∧ Hid (Drew w cb wr) ∧ w.heap.size ≤ wr.heap.size) (fun _ i _ => 8 - (intOf i).toNat)
  case atStart => exact ⟨0, [], by omega, rfl, rfl, HR0.out, D1, by omega⟩
  case round =>
    obtain ⟨k, es, hk, rfl, hl, HO, HD, hs⟩ := hrel
    by_cases hlt2 : (k : Int) < x
    · go_wp2_with fail
      refine (l9Pin_any cb _ HD.out.1).mono ?_
      rintro y w2 ⟨e, rfl, d2⟩
      have D2 : Hid (Drew w cb w2) := HD.out.trans d2
      have s2 := d2.2.size
      have O2 := Lib.hid (row_drew HO.out d2 hlt)
      clear d2
      go_wp2_with (at_builtin; go_must (refine wpList_append_rd _ rfl _ _ 85 rfl w.heap.size 87 i0 _ 2 16 Tryz.underlying85 hi0 hz0 hz1 hz2 rfl (by omega) _ k es rfl (World.ownsRow.alloc O2.out _) (some ⟨w2.heap.size, 0, none⟩) 1 1 [e] rfl (rd_one2 _ _ e) (by unfold maxLen; omega) (by omega) (by simp; omega) ?_); intro v3 w3 hown3 hg3 hat3)
      have D3 : Drew w cb w3 := Drew.grow hlt (by simp; omega) (Drew.alloc _ D2.out) hg3 (row_ge O2.out (Nat.le_refl _))
      have s3 := hg3.size
      (try simp at s3)
      go_roundw
      case rel => exact ⟨k + 1, es ++ [e], by omega, by go_num, by simp [hl], hown3, D3, by omega⟩
      case measure => simp [intOf]; omega
    · go_wp2
      go_ret
      exact ⟨_, rfl, k, by omega, ⟨es, hl, HO.out⟩, HD.out⟩

end Go.Proofs.YtjlmcppkafjniaaGreat


namespace Go.Proofs.YtjlmcppkafjniaaGreat
open Go.RowKit

theorem Own.set_ne {B K n : Nat} {w : World} {A : Option Addr} {es : List (Nat → Int)} {p : Addr} (h : Own B w K A n es) (hne : ∀ a, n ≠ 0 → A = some a → a.block ≠ p.block) (v : Value) : Own B (w.setCell p v) K A n es := by
  refine ⟨h.1, ?_⟩
  rcases Nat.eq_zero_or_pos n with h0 | h0
  · exact .inl h0
  · obtain ⟨b, off, h1, h2, h3, h4, h5⟩ := h.2.resolve_left (by omega)
    have hb : b ≠ p.block := hne _ (by omega) h1
    have hh := Below.heap_setCell w p v b hb
    exact .inr ⟨b, off, h1, by simpa [World.setCell] using h2, h3, fun o => (World.frozen?_of_block (w := w) (w' := w.setCell p v) (a := ⟨b, o, none⟩) hh).trans (h4 o), fun i hi j hj => (World.cell?_of_block (w := w) (w' := w.setCell p v) (a := ⟨b, _, none⟩) hh).trans (h5 i hi j hj)⟩
theorem Sp.ownBlock_of {s : Sp} {a : Addr} (h : s.A = some a) : s.v.ownBlock = some a.block := by
  unfold Sp.v
  rw [h]
  rfl
theorem Sp.addr_of {s : Sp} {k : Nat} (h : s.v.ownBlock = some k) : ∃ a, s.A = some a ∧ a.block = k := by
  unfold Sp.v at h
  rcases hA : s.A with _ | a
  · rw [hA] at h; simp [Value.ownBlock] at h
  · rw [hA] at h
    exact ⟨a, rfl, by simpa [Value.ownBlock] using h⟩
def updS (S : Nat → Sp) (k : Nat) (s : Sp) (i : Nat) : Sp := if i = k then s else S i
theorem Gat.put {B N k c : Nat} {w w' : World} {A : Option Addr} {S : Nat → Sp} {s : Sp} (h : Gat B w (.slice A N c) N S) (hk : k < N) (hg : w.grownBy w' (S k).v.ownBlock) (ho : Own B w' 2 s.A s.n s.es)
    (hc : s.n ≤ s.c ∧ s.c ≤ 9223372036854775807) (hloc : ∀ a, s.n ≠ 0 → s.A = some a → (S k).v.ownBlock = some a.block ∨ w.heap.size ≤ a.block) :
    ∃ b, A = some ⟨b, 0, none⟩ ∧ b < w.heap.size ∧ B ≤ b ∧ (∃ u, w'.cell? ⟨b, k, none⟩ = some u) ∧ w'.frozen? ⟨b, k, none⟩ = false ∧ OwnW B w'.heap.size (w'.setCell ⟨b, k, none⟩ s.v) A N (updS S k s) := by
  have hN : 0 < N := by omega
  rcases h.row.2 with ⟨_, h0⟩ | ⟨b, cap, cur, hv, hgB, hh, hnc, hcm, hsz, htk⟩
  · omega
  injection hv with hv1 _ hv3
  have hbw : b < w.heap.size := (Array.getElem?_eq_some_iff.1 hh).1
  have hrow : ∀ i a, i < N → (S i).v.ownBlock = some a → a ≠ b := fun i a hi ha e => h.nr i a hi ha (by rw [hv1, e]; rfl)
  have hbk : some b ≠ (S k).v.ownBlock := fun e => hrow k b hk e.symm rfl
  have hh' : w'.heap[b]? = some (.cells cur 85 (0, 0)) := (hg.block b hbw hbk).trans hh
  have hcell : ∀ i, i < N → w'.cell? ⟨b, i, none⟩ = some (S i).v := fun i hi => by
    have h3 : ((List.range N).map fun i => (S i).v)[i]? = some (S i).v := by
      rw [List.getElem?_map, List.getElem?_range hi]
      rfl
    rw [← htk, List.getElem?_take, if_pos (by omega)] at h3
    rw [cell_of_heap hh']
    simpa using h3
  have hfz : ∀ o, w'.frozen? ⟨b, o, none⟩ = false := fun o => frozen_of_heap hh'
  have hoth : ∀ i, i < N → i ≠ k → Own B w' 2 (S i).A (S i).n (S i).es := fun i hi hik => by
    obtain ⟨h1, h2⟩ := h.own i hi
    obtain ⟨A', c', he, ho'⟩ := own_of_row h2 (row_grown h1 hg fun a ha e => h.apart i k a a hi hk hik ha e.symm rfl)
    have e1 : (S i).A = A' := by injection he
    rw [e1]
    exact ho'
  have hne : ∀ i, i < N → ∀ a, (updS S k s i).n ≠ 0 → (updS S k s i).A = some a → a.block ≠ b := fun i hi a h0 ha => by
    unfold updS at h0 ha
    by_cases hik : i = k
    · rw [if_pos hik] at h0 ha
      rcases hloc a h0 ha with h1 | h1
      · exact hrow k _ hk h1
      · omega
    · rw [if_neg hik] at h0 ha
      exact hrow i _ hi (Sp.ownBlock_of ha)
  refine ⟨b, hv1, hbw, hgB, ⟨_, hcell k hk⟩, hfz k, ?_⟩
  have hspk : Spk B (w'.setCell ⟨b, k, none⟩ s.v) N (updS S k s) := by
    refine ⟨fun i hi => ?_, fun i hi => ?_, fun i j hi hj hij h1 h2 a a2 ha ha2 => ?_⟩
    · refine Own.set_ne ?_ (hne i hi) _
      unfold updS
      by_cases hik : i = k
      · rw [if_pos hik]; exact ho
      · rw [if_neg hik]; exact hoth i hi hik
    · unfold updS
      by_cases hik : i = k
      · rw [if_pos hik]; exact hc
      · rw [if_neg hik]
        obtain ⟨h1, h2⟩ := h.own i hi
        obtain ⟨A', c', he, h3, h4⟩ := slice_of_row h1
        injection he with _ _ e3
        rw [e3]
        exact ⟨h3, h4⟩
    · unfold updS at h1 h2 ha ha2
      by_cases hik : i = k <;> by_cases hjk : j = k
      · omega
      · rw [if_pos hik] at h1 ha
        rw [if_neg hjk] at h2 ha2
        rcases hloc a h1 ha with h5 | h5
        · exact h.apart k j a.block a2.block hk hj (by omega) h5 (Sp.ownBlock_of ha2)
        · have := row_lt (h.own j hj).1 _ (Sp.ownBlock_of ha2)
          omega
      · rw [if_neg hik] at h1 ha
        rw [if_pos hjk] at h2 ha2
        rcases hloc a2 h2 ha2 with h5 | h5
        · exact h.apart i k a.block a2.block hi hk hik (Sp.ownBlock_of ha) h5
        · have := row_lt (h.own i hi).1 _ (Sp.ownBlock_of ha)
          omega
      · rw [if_neg hik] at h1 ha
        rw [if_neg hjk] at h2 ha2
        exact h.apart i j a.block a2.block hi hj hij (Sp.ownBlock_of ha) (Sp.ownBlock_of ha2)
  have hfin := hspk.ownW (A := A) (.inr ⟨b, 0, hv1, by simp [World.setCell]; have := hg.size; omega, hgB, fun o => (World.frozen?_setCell _ _ _ _).trans (hfz o), fun i hi => ?_⟩) fun i hi h0 a a2 ha ha2 => ?_
  · have e : (w'.setCell ⟨b, k, none⟩ s.v).heap.size = w'.heap.size := by simp [World.setCell]
    rw [e] at hfin
    exact hfin
  · rw [Nat.zero_add]
    unfold updS
    by_cases hik : i = k
    · rw [if_pos hik, hik]
      exact World.cell?_setCell_same' _ _ _ (by rw [hcell k hk]; rfl)
    · rw [if_neg hik]
      exact (World.cell?_setCell_other (w := w') (a := ⟨b, k, none⟩) (b := ⟨b, i, none⟩) (v := s.v) (by simp <;> omega)).trans (hcell i hi)
  · rw [hv1] at ha
    injection ha with ha
    subst ha
    exact fun e => hne i hi a2 h0 ha2 e.symm

/-- Element i is the pin p. -/
def isP (es : List (Nat → Int)) (p : Nat → Int) (i : Nat) : Bool := decide (fld es i 0 = p 0 ∧ fld es i 1 = p 1)

end Go.Proofs.YtjlmcppkafjniaaGreat
