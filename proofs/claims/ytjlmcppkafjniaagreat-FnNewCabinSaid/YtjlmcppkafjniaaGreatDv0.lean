/-
  Small lemmas on boxes. No conditions beyond those stated.
-/
import Derived.Test.YtjlmcppkafjniaaGreatPo
import Derived.Test.YtjlmcppkafjniaaGreatLv
import Derived.Deep.DeepCutAuto
import Derived.Deep.RegionLaw
import Derived.Test.YtjlmcppkafjniaaGreatQa
import Derived.Test.YtjlmcppkafjniaaGreatDu
namespace Go.Proofs.YtjlmcppkafjniaaGreat
open Go.RowKit

theorem Cur.dr {w : World} {cb : Nat} (h : Cur w cb) : Cur w.drew cb := h
theorem Drew.undrew {w w' : World} {cb : Nat} (d : Drew w.drew cb w') : Drew w cb w' := ⟨d.1, d.2.os, d.2.tape, d.2.output, d.2.size, d.2.block⟩
theorem row_set5 {base b o : Nat} {w : World} {e : TypeId} {K n : Nat} {v u : Value} {xs : List Value} (h : w.ownsRow base e K v n xs) (hb : b < base) : (w.setCell ⟨b, o, none⟩ u).ownsRow base e K v n xs :=
  ⟨h.1, h.2.imp id fun ⟨g, cap, cur, h1, h2, hh, h3⟩ => ⟨g, cap, cur, h1, h2, (Below.heap_setCell w ⟨b, o, none⟩ u g (by show g ≠ b; omega)).trans hh, h3⟩⟩
def one5 (x : Int) : Nat → Int := fun _ => x
theorem one5_bd {es : List (Nat → Int)} {k : Nat} {x lo hi : Int} (hl : es.length = k) (h : ∀ i, i < k → lo ≤ fld es i 0 ∧ fld es i 0 ≤ hi) (h1 : lo ≤ x) (h2 : x ≤ hi) : ∀ i, i < k + 1 → lo ≤ fld (es ++ [one5 x]) i 0 ∧ fld (es ++ [one5 x]) i 0 ≤ hi := fun i hi => by
  by_cases hik : i < k
  · have e : fld (es ++ [one5 x]) i 0 = fld es i 0 := by unfold fld; rw [List.getD_eq_getElem?_getD, List.getD_eq_getElem?_getD, List.getElem?_append_left (by omega)]
    rw [e]; exact h i hik
  · obtain rfl : i = k := by omega
    have e : fld (es ++ [one5 x]) i 0 = x := by unfold fld; rw [List.getD_eq_getElem?_getD, List.getElem?_append_right (by omega)]; simp [hl, one5]
    rw [e]; exact ⟨h1, h2⟩
theorem rd_one5 (w : World) (t : TypeId) (x : Int) : Rd (w.alloc (.cells #[.int .i64 x] t)) 1 (some ⟨w.heap.size, 0, none⟩) 1 [one5 x] :=
  ⟨rfl, .inr ⟨w.heap.size, 0, rfl, by simp, fun i hi j hj => by
    obtain rfl : i = 0 := by omega
    obtain rfl : j = 0 := by omega
    simp [fld, one5]⟩⟩
theorem intD_info : (Tryz.prog.info? 3).map (fun i => (i.zero, i.size, i.bytes)) = some (some (.int .i64 0), 1, 8) := by kernel_rfl

def RulD (w : World) (cb : Nat) (y : Ending) (w' : World) : Prop := ∃ (A : Option Addr) (n c : Nat) (r : Nat → Int) (es : List (Nat → Int)), y = .returned (.agg #[.slice A n c, .int .i64 (r 1), .int .i64 (r 2), .int .i64 (r 3), .int .i64 (r 4), .int .i64 (r 5), .int .i64 (r 6), .int .i64 (r 7), .int .i64 (r 8)]) ∧ n ≤ 3 ∧ n ≤ c ∧ ROk n es r ∧ Own w.heap.size w' 1 A n es ∧ Drew w cb w'
set_option maxRecDepth 100000 in
set_option maxHeartbeats 4000000 in
theorem l5Right_any (cb : Nat) (w : World) (h : Cur w cb) :
    Calls Tryz.prog 27 #[.pointer (some ⟨cb, 0, none⟩)] w (RulD w cb) := by
  obtain ⟨i0, hi0, hz0, hz1, hz2⟩ := info_parts intD_info
  have hlt := h.lt
  have HC := Lib.hid h
  clear h
  go_enter Tryz.func27, Tryz.ntmps27
  go_wp2_with fail
  refine (l1Below_any cb 5 _ (by first | with_reducible exact HC.out | (with_reducible refine HC.out.below ?_; (repeat (first | with_reducible exact Below.refl _ _ | with_reducible refine Below.drew ?_ | with_reducible refine below_drewN ?_ _ | (with_reducible refine bel_alloc ?_ ?_ _; (first | omega | (simp; omega) | simp)) | (with_reducible refine bel_set ?_ ?_ _; (first | omega | (simp; omega) | simp)) | (with_reducible refine bel_tr (by assumption) ?_ ?_; (first | omega | (simp; omega) | simp))))))).mono ?_
  rintro y w1 ⟨x1, rfl, ⟨p1, q1, _⟩, d1⟩
  have s1 := d1.2.size
  (try simp at s1)
  have kd1_0 : ∀ o, w1.cell? ⟨w.heap.size, o, none⟩ = _ := fun o => d1.cell (b := w.heap.size) (by (first | omega | (simp; omega) | simp)) (by omega) o
  have kf1_0 : ∀ o, w1.frozen? ⟨w.heap.size, o, none⟩ = _ := fun o => d1.frozen (b := w.heap.size) (by (first | omega | (simp; omega) | simp)) (by omega) o
  have kz1_0 : w.heap.size < w1.heap.size := by (first | omega | (simp; omega) | simp)
  have ky1_0 : ¬ w.heap.size = w1.heap.size := by (first | omega | (simp; omega) | simp)
  have kx1_0 : ¬ w1.heap.size = w.heap.size := by (first | omega | (simp; omega) | simp)
  have kcb1_0 : ¬ w.heap.size = cb := by omega
  have D1 : Drew w cb w1 := Drew.trans (by (repeat (first | with_reducible assumption | (with_reducible refine Drew.set hlt ?_ ?_; (first | omega | (simp; omega) | simp)) | with_reducible refine Drew.alloc _ ?_ | with_reducible refine Drew.drewN _ ?_ | with_reducible exact Cur.drew_below HC.out (Below.refl _ _)))) d1
  have C1 := Lib.hid d1.1
  clear d1
  have b1 := q1 (by omega)
  clear q1
  go_wp2_with fail
  refine (l1Below_any cb 9 _ C1.out).mono ?_
  rintro y w2 ⟨x2, rfl, ⟨p2, q2, _⟩, d2⟩
  have s2 := d2.2.size
  (try simp at s2)
  have kd2_0 : ∀ o, w2.cell? ⟨w.heap.size, o, none⟩ = _ := fun o => d2.cell (b := w.heap.size) (by (first | omega | (simp; omega) | simp)) (by omega) o
  have kf2_0 : ∀ o, w2.frozen? ⟨w.heap.size, o, none⟩ = _ := fun o => d2.frozen (b := w.heap.size) (by (first | omega | (simp; omega) | simp)) (by omega) o
  have kz2_0 : w.heap.size < w2.heap.size := by (first | omega | (simp; omega) | simp)
  have ky2_0 : ¬ w.heap.size = w2.heap.size := by (first | omega | (simp; omega) | simp)
  have kx2_0 : ¬ w2.heap.size = w.heap.size := by (first | omega | (simp; omega) | simp)
  have kcb2_0 : ¬ w.heap.size = cb := by omega
  have D2 : Drew w cb w2 := Drew.trans (by (repeat (first | with_reducible assumption | (with_reducible refine Drew.set hlt ?_ ?_; (first | omega | (simp; omega) | simp)) | with_reducible refine Drew.alloc _ ?_ | with_reducible refine Drew.drewN _ ?_ | with_reducible exact Cur.drew_below HC.out (Below.refl _ _)))) d2
  have C2 := Lib.hid d2.1
  clear d2
  have b2 := q2 (by omega)
  clear q2
  go_wp2_with fail
  refine (l1Below_any cb 6 _ C2.out).mono ?_
  rintro y w3 ⟨x3, rfl, ⟨p3, q3, _⟩, d3⟩
  have s3 := d3.2.size
  (try simp at s3)
  have kd3_0 : ∀ o, w3.cell? ⟨w.heap.size, o, none⟩ = _ := fun o => d3.cell (b := w.heap.size) (by (first | omega | (simp; omega) | simp)) (by omega) o
  have kf3_0 : ∀ o, w3.frozen? ⟨w.heap.size, o, none⟩ = _ := fun o => d3.frozen (b := w.heap.size) (by (first | omega | (simp; omega) | simp)) (by omega) o
  have kz3_0 : w.heap.size < w3.heap.size := by (first | omega | (simp; omega) | simp)
  have ky3_0 : ¬ w.heap.size = w3.heap.size := by (first | omega | (simp; omega) | simp)
  have kx3_0 : ¬ w3.heap.size = w.heap.size := by (first | omega | (simp; omega) | simp)
  have kcb3_0 : ¬ w.heap.size = cb := by omega
  have D3 : Drew w cb w3 := Drew.trans (by (repeat (first | with_reducible assumption | (with_reducible refine Drew.set hlt ?_ ?_; (first | omega | (simp; omega) | simp)) | with_reducible refine Drew.alloc _ ?_ | with_reducible refine Drew.drewN _ ?_ | with_reducible exact Cur.drew_below HC.out (Below.refl _ _)))) d3
  have C3 := Lib.hid d3.1
  clear d3
  have b3 := q3 (by omega)
  clear q3
  go_wp2_with fail
  refine (l1Below_any cb 5 _ C3.out).mono ?_
  rintro y w4 ⟨x4, rfl, ⟨p4, q4, _⟩, d4⟩
  have s4 := d4.2.size
  (try simp at s4)
  have kd4_0 : ∀ o, w4.cell? ⟨w.heap.size, o, none⟩ = _ := fun o => d4.cell (b := w.heap.size) (by (first | omega | (simp; omega) | simp)) (by omega) o
  have kf4_0 : ∀ o, w4.frozen? ⟨w.heap.size, o, none⟩ = _ := fun o => d4.frozen (b := w.heap.size) (by (first | omega | (simp; omega) | simp)) (by omega) o
  have kz4_0 : w.heap.size < w4.heap.size := by (first | omega | (simp; omega) | simp)
  have ky4_0 : ¬ w.heap.size = w4.heap.size := by (first | omega | (simp; omega) | simp)
  have kx4_0 : ¬ w4.heap.size = w.heap.size := by (first | omega | (simp; omega) | simp)
  have kcb4_0 : ¬ w.heap.size = cb := by omega
  have D4 : Drew w cb w4 := Drew.trans (by (repeat (first | with_reducible assumption | (with_reducible refine Drew.set hlt ?_ ?_; (first | omega | (simp; omega) | simp)) | with_reducible refine Drew.alloc _ ?_ | with_reducible refine Drew.drewN _ ?_ | with_reducible exact Cur.drew_below HC.out (Below.refl _ _)))) d4
  have C4 := Lib.hid d4.1
  clear d4
  have b4 := q4 (by omega)
  clear q4
  go_wp2_with fail
  refine (l1Below_any cb 4 _ C4.out).mono ?_
  rintro y w5 ⟨x5, rfl, ⟨p5, q5, _⟩, d5⟩
  have s5 := d5.2.size
  (try simp at s5)
  have kd5_0 : ∀ o, w5.cell? ⟨w.heap.size, o, none⟩ = _ := fun o => d5.cell (b := w.heap.size) (by (first | omega | (simp; omega) | simp)) (by omega) o
  have kf5_0 : ∀ o, w5.frozen? ⟨w.heap.size, o, none⟩ = _ := fun o => d5.frozen (b := w.heap.size) (by (first | omega | (simp; omega) | simp)) (by omega) o
  have kz5_0 : w.heap.size < w5.heap.size := by (first | omega | (simp; omega) | simp)
  have ky5_0 : ¬ w.heap.size = w5.heap.size := by (first | omega | (simp; omega) | simp)
  have kx5_0 : ¬ w5.heap.size = w.heap.size := by (first | omega | (simp; omega) | simp)
  have kcb5_0 : ¬ w.heap.size = cb := by omega
  have D5 : Drew w cb w5 := Drew.trans (by (repeat (first | with_reducible assumption | (with_reducible refine Drew.set hlt ?_ ?_; (first | omega | (simp; omega) | simp)) | with_reducible refine Drew.alloc _ ?_ | with_reducible refine Drew.drewN _ ?_ | with_reducible exact Cur.drew_below HC.out (Below.refl _ _)))) d5
  have C5 := Lib.hid d5.1
  clear d5
  have b5 := q5 (by omega)
  clear q5
  go_wp2_with fail
  refine (l1Below_any cb 4 _ C5.out).mono ?_
  rintro y w6 ⟨x6, rfl, ⟨p6, q6, _⟩, d6⟩
  have s6 := d6.2.size
  (try simp at s6)
  have kd6_0 : ∀ o, w6.cell? ⟨w.heap.size, o, none⟩ = _ := fun o => d6.cell (b := w.heap.size) (by (first | omega | (simp; omega) | simp)) (by omega) o
  have kf6_0 : ∀ o, w6.frozen? ⟨w.heap.size, o, none⟩ = _ := fun o => d6.frozen (b := w.heap.size) (by (first | omega | (simp; omega) | simp)) (by omega) o
  have kz6_0 : w.heap.size < w6.heap.size := by (first | omega | (simp; omega) | simp)
  have ky6_0 : ¬ w.heap.size = w6.heap.size := by (first | omega | (simp; omega) | simp)
  have kx6_0 : ¬ w6.heap.size = w.heap.size := by (first | omega | (simp; omega) | simp)
  have kcb6_0 : ¬ w.heap.size = cb := by omega
  have D6 : Drew w cb w6 := Drew.trans (by (repeat (first | with_reducible assumption | (with_reducible refine Drew.set hlt ?_ ?_; (first | omega | (simp; omega) | simp)) | with_reducible refine Drew.alloc _ ?_ | with_reducible refine Drew.drewN _ ?_ | with_reducible exact Cur.drew_below HC.out (Below.refl _ _)))) d6
  have C6 := Lib.hid d6.1
  clear d6
  have b6 := q6 (by omega)
  clear q6
  go_wp2_with fail
  refine (l1Below_any cb 4 _ C6.out).mono ?_
  rintro y w7 ⟨x7, rfl, ⟨p7, q7, _⟩, d7⟩
  have s7 := d7.2.size
  (try simp at s7)
  have kd7_0 : ∀ o, w7.cell? ⟨w.heap.size, o, none⟩ = _ := fun o => d7.cell (b := w.heap.size) (by (first | omega | (simp; omega) | simp)) (by omega) o
  have kf7_0 : ∀ o, w7.frozen? ⟨w.heap.size, o, none⟩ = _ := fun o => d7.frozen (b := w.heap.size) (by (first | omega | (simp; omega) | simp)) (by omega) o
  have kz7_0 : w.heap.size < w7.heap.size := by (first | omega | (simp; omega) | simp)
  have ky7_0 : ¬ w.heap.size = w7.heap.size := by (first | omega | (simp; omega) | simp)
  have kx7_0 : ¬ w7.heap.size = w.heap.size := by (first | omega | (simp; omega) | simp)
  have kcb7_0 : ¬ w.heap.size = cb := by omega
  have D7 : Drew w cb w7 := Drew.trans (by (repeat (first | with_reducible assumption | (with_reducible refine Drew.set hlt ?_ ?_; (first | omega | (simp; omega) | simp)) | with_reducible refine Drew.alloc _ ?_ | with_reducible refine Drew.drewN _ ?_ | with_reducible exact Cur.drew_below HC.out (Below.refl _ _)))) d7
  have C7 := Lib.hid d7.1
  clear d7
  have b7 := q7 (by omega)
  clear q7
  go_wp2_with fail
  refine (l1Below_any cb 3 _ C7.out).mono ?_
  rintro y w8 ⟨x8, rfl, ⟨p8, q8, _⟩, d8⟩
  have s8 := d8.2.size
  (try simp at s8)
  have kd8_0 : ∀ o, w8.cell? ⟨w.heap.size, o, none⟩ = _ := fun o => d8.cell (b := w.heap.size) (by (first | omega | (simp; omega) | simp)) (by omega) o
  have kf8_0 : ∀ o, w8.frozen? ⟨w.heap.size, o, none⟩ = _ := fun o => d8.frozen (b := w.heap.size) (by (first | omega | (simp; omega) | simp)) (by omega) o
  have kz8_0 : w.heap.size < w8.heap.size := by (first | omega | (simp; omega) | simp)
  have ky8_0 : ¬ w.heap.size = w8.heap.size := by (first | omega | (simp; omega) | simp)
  have kx8_0 : ¬ w8.heap.size = w.heap.size := by (first | omega | (simp; omega) | simp)
  have kcb8_0 : ¬ w.heap.size = cb := by omega
  have D8 : Drew w cb w8 := Drew.trans (by (repeat (first | with_reducible assumption | (with_reducible refine Drew.set hlt ?_ ?_; (first | omega | (simp; omega) | simp)) | with_reducible refine Drew.alloc _ ?_ | with_reducible refine Drew.drewN _ ?_ | with_reducible exact Cur.drew_below HC.out (Below.refl _ _)))) d8
  have C8 := Lib.hid d8.1
  clear d8
  have b8 := q8 (by omega)
  clear q8
  go_wp2_with fail
  refine (l1Below_any cb 3 _ (by first | with_reducible exact C8.out | (refine Drew.cur (w := w) ?_; (repeat (first | with_reducible assumption | (with_reducible refine Drew.set hlt ?_ ?_; (first | omega | (simp; omega) | simp)) | with_reducible refine Drew.alloc _ ?_ | with_reducible refine Drew.drewN _ ?_ | with_reducible exact Cur.drew_below HC.out (Below.refl _ _)))))).mono ?_
  rintro y w9 ⟨x9, rfl, ⟨hx0, hx1, _⟩, d9⟩
  have s9 := d9.2.size
  (try simp at s9)
  have kd9_0 : ∀ o, w9.cell? ⟨w.heap.size, o, none⟩ = _ := fun o => d9.cell (b := w.heap.size) (by (first | omega | (simp; omega) | simp)) (by omega) o
  have kf9_0 : ∀ o, w9.frozen? ⟨w.heap.size, o, none⟩ = _ := fun o => d9.frozen (b := w.heap.size) (by (first | omega | (simp; omega) | simp)) (by omega) o
  have kd9_1 : ∀ o, w9.cell? ⟨w8.heap.size, o, none⟩ = _ := fun o => d9.cell (b := w8.heap.size) (by (first | omega | (simp; omega) | simp)) (by omega) o
  have kf9_1 : ∀ o, w9.frozen? ⟨w8.heap.size, o, none⟩ = _ := fun o => d9.frozen (b := w8.heap.size) (by (first | omega | (simp; omega) | simp)) (by omega) o
  have kz9_0 : w.heap.size < w9.heap.size := by (first | omega | (simp; omega) | simp)
  have ky9_0 : ¬ w.heap.size = w9.heap.size := by (first | omega | (simp; omega) | simp)
  have kx9_0 : ¬ w9.heap.size = w.heap.size := by (first | omega | (simp; omega) | simp)
  have kcb9_0 : ¬ w.heap.size = cb := by omega
  have kz9_1 : w8.heap.size < w9.heap.size := by (first | omega | (simp; omega) | simp)
  have ky9_1 : ¬ w8.heap.size = w9.heap.size := by (first | omega | (simp; omega) | simp)
  have kx9_1 : ¬ w9.heap.size = w8.heap.size := by (first | omega | (simp; omega) | simp)
  have kcb9_1 : ¬ w8.heap.size = cb := by omega
  have D9 : Drew w cb w9 := Drew.trans (by (repeat (first | with_reducible assumption | (with_reducible refine Drew.set hlt ?_ ?_; (first | omega | (simp; omega) | simp)) | with_reducible refine Drew.alloc _ ?_ | with_reducible refine Drew.drewN _ ?_ | with_reducible exact Cur.drew_below HC.out (Below.refl _ _)))) d9
  have C9 := Lib.hid d9.1
  clear d9
  have hx9 := hx1 (by omega)
  clear hx1
  have r0 : w9.cell? ⟨w.heap.size, 0, none⟩ = some (.slice none 0 0) := by (first | (go_keep; done) | (go_simp; done))
  have r1 : w9.cell? ⟨w.heap.size, 1, none⟩ = some (.int .i64 0) := by (first | (go_keep; done) | (go_simp; done))
  have r2 : w9.cell? ⟨w.heap.size, 2, none⟩ = some (.int .i64 0) := by (first | (go_keep; done) | (go_simp; done))
  have r3 : w9.cell? ⟨w.heap.size, 3, none⟩ = some (.int .i64 0) := by (first | (go_keep; done) | (go_simp; done))
  have r4 : w9.cell? ⟨w.heap.size, 4, none⟩ = some (.int .i64 0) := by (first | (go_keep; done) | (go_simp; done))
  have r5 : w9.cell? ⟨w.heap.size, 5, none⟩ = some (.int .i64 0) := by (first | (go_keep; done) | (go_simp; done))
  have r6 : w9.cell? ⟨w.heap.size, 6, none⟩ = some (.int .i64 0) := by (first | (go_keep; done) | (go_simp; done))
  have r7 : w9.cell? ⟨w.heap.size, 7, none⟩ = some (.int .i64 0) := by (first | (go_keep; done) | (go_simp; done))
  have r8 : w9.cell? ⟨w.heap.size, 8, none⟩ = some (.int .i64 0) := by (first | (go_keep; done) | (go_simp; done))
  have q0 : w9.cell? ⟨w8.heap.size, 0, none⟩ = some (.slice none 0 0) := by (first | (go_keep; done) | (go_simp; done))
  have q1 : w9.cell? ⟨w8.heap.size, 1, none⟩ = some (.int .i64 (1 + x1)) := by (first | (go_keep; done) | (go_simp; done))
  have q2 : w9.cell? ⟨w8.heap.size, 2, none⟩ = some (.int .i64 (2 + x2)) := by (first | (go_keep; done) | (go_simp; done))
  have q3 : w9.cell? ⟨w8.heap.size, 3, none⟩ = some (.int .i64 (1 + x3)) := by (first | (go_keep; done) | (go_simp; done))
  have q4 : w9.cell? ⟨w8.heap.size, 4, none⟩ = some (.int .i64 (1 + x4)) := by (first | (go_keep; done) | (go_simp; done))
  have q5 : w9.cell? ⟨w8.heap.size, 5, none⟩ = some (.int .i64 (1 + x5)) := by (first | (go_keep; done) | (go_simp; done))
  have q6 : w9.cell? ⟨w8.heap.size, 6, none⟩ = some (.int .i64 (x6)) := by (first | (go_keep; done) | (go_simp; done))
  have q7 : w9.cell? ⟨w8.heap.size, 7, none⟩ = some (.int .i64 (1 + x7)) := by (first | (go_keep; done) | (go_simp; done))
  have q8 : w9.cell? ⟨w8.heap.size, 8, none⟩ = some (.int .i64 (1 + x8)) := by (first | (go_keep; done) | (go_simp; done))
  have rz : Hid (∀ o, w9.frozen? ⟨w.heap.size, o, none⟩ = false) := fun o => by (first | (simp [*]; done) | (go_simp; done))
  have qz : Hid (∀ o, w9.frozen? ⟨w8.heap.size, o, none⟩ = false) := fun o => by (first | (simp [*]; done) | (go_simp; done))
  clear kd1_0 kf1_0 kd2_0 kf2_0 kd3_0 kf3_0 kd4_0 kf4_0 kd5_0 kf5_0 kd6_0 kf6_0 kd7_0 kf7_0 kd8_0 kf8_0 kd9_0 kf9_0 kd9_1 kf9_1
  have D9' := Lib.hid D9
  clear D1 D2 D3 D4 D5 D6 D7 D8 D9 C1 C2 C3 C4 C5 C6 C7 C8 C9
  go_wp2
  go_loopw [5] (fun i wr => ∃ (k : Nat) (v : Value) (es : List (Nat → Int)), (k : Int) ≤ 1 + x9 ∧ i = .int .i64 k ∧ es.length = k ∧ Hid (∀ i, i < k → 1 ≤ fld es i 0 ∧ fld es i 0 ≤ 60) ∧ wr.cell? ⟨w8.heap.size, 0, none⟩ = some v ∧ wr.cell? ⟨w8.heap.size, 1, none⟩ = some (.int .i64 (1 + x1)) ∧ wr.cell? ⟨w8.heap.size, 2, none⟩ = some (.int .i64 (2 + x2)) ∧ wr.cell? ⟨w8.heap.size, 3, none⟩ = some (.int .i64 (1 + x3)) ∧ wr.cell? ⟨w8.heap.size, 4, none⟩ = some (.int .i64 (1 + x4)) ∧ wr.cell? ⟨w8.heap.size, 5, none⟩ = some (.int .i64 (1 + x5)) ∧ wr.cell? ⟨w8.heap.size, 6, none⟩ = some (.int .i64 (x6)) ∧ wr.cell? ⟨w8.heap.size, 7, none⟩ = some (.int .i64 (1 + x7)) ∧ wr.cell? ⟨w8.heap.size, 8, none⟩ = some (.int .i64 (1 + x8)) ∧ wr.cell? ⟨w.heap.size, 0, none⟩ = some (.slice none 0 0) ∧ wr.cell? ⟨w.heap.size, 1, none⟩ = some (.int .i64 0) ∧ wr.cell? ⟨w.heap.size, 2, none⟩ = some (.int .i64 0) ∧ wr.cell? ⟨w.heap.size, 3, none⟩ = some (.int .i64 0) ∧ wr.cell? ⟨w.heap.size, 4, none⟩ = some (.int .i64 0) ∧ wr.cell? ⟨w.heap.size, 5, none⟩ = some (.int .i64 0) ∧ wr.cell? ⟨w.heap.size, 6, none⟩ = some (.int .i64 0) ∧ wr.cell? ⟨w.heap.size, 7, none⟩ = some (.int .i64 0) ∧ wr.cell? ⟨w.heap.size, 8, none⟩ = some (.int .i64 0) ∧ Hid (∀ o, wr.frozen? ⟨w8.heap.size, o, none⟩ = false) ∧ Hid (∀ o, wr.frozen? ⟨w.heap.size, o, none⟩ = false) ∧ Hid (wr.ownsRow w9.heap.size 3 1 v k (flat 1 es)) ∧ Hid (Drew w cb wr) ∧ w9.heap.size ≤ wr.heap.size) (fun i _ => 4 - (intOf i).toNat)
  case atStart => exact ⟨0, _, [], by omega, rfl, rfl, Lib.hid (fun i hi => absurd hi (by omega)), q0, q1, q2, q3, q4, q5, q6, q7, q8, r0, r1, r2, r3, r4, r5, r6, r7, r8, qz, rz, World.ownsRow_nil _ _ _ _, D9', Nat.le_refl _⟩
  case round =>
    obtain ⟨k, v, es, hk, rfl, hl, HB, q0, q1, q2, q3, q4, q5, q6, q7, q8, r0, r1, r2, r3, r4, r5, r6, r7, r8, HQ, HR, HO, HD, hs⟩ := hrel
    have hz8 : w8.heap.size < wr.heap.size := by omega
    by_cases hlt2 : (k : Int) < 1 + x9
    · obtain ⟨A, c, rfl, h1, h2, ho⟩ := own_of_row_cap hl HO.out
      clear ho
      have z0 := HQ.out 0
      have hcb8 : ¬ w8.heap.size = cb := by omega
      have hcb0 : ¬ w.heap.size = cb := by omega
      have hw80 : ¬ w8.heap.size = w.heap.size := by omega
      have hw08 : ¬ w.heap.size = w8.heap.size := by omega
      go_wp2
      go_region_law (first
        | (refine step_append_rd _ (by rfl) (.tmp 39) (.tmp 43) 35 (by rfl) w9.heap.size 3 i0 _ 1 8 Tryz.underlying35 hi0 hz0 hz1 hz2 (by rfl) (by omega) (.slice A k c) k es (by rfl) (World.ownsRow.alloc O10.out _) (some ⟨w10.heap.size, 0, none⟩) 1 1 [one5 (2 + z)] (by rfl) (rd_one5 w10 _ (2 + z)) (by unfold maxLen; omega) (by omega) (by simp; omega) ?_; intro v11 w11 hown11 hg11 hat11; obtain ⟨A11, c11, rfl, _, _, ho11⟩ := own_of_row_cap (es := es ++ [one5 (2 + z)]) (by simp [hl]) hown11; clear ho11 hat11; have s11 := hg11.size; (try simp at s11); have b11 := Below.grown (Below.refl w9.heap.size _) hg11 (by simp; omega) (row_ge O10.out (Nat.le_refl _)); have a10 : ∀ ob, Below w9.heap.size w10 (w10.alloc ob) := (fun ob => (Below.refl w9.heap.size w10).alloc (show w9.heap.size ≤ w10.heap.size by omega) ob); have kt11 : ∀ o, w11.cell? ⟨w8.heap.size, o, none⟩ = wr.cell? ⟨w8.heap.size, o, none⟩ := (fun (o : Nat) => (b11.cell (p := ⟨w8.heap.size, o, none⟩) (show w8.heap.size < w9.heap.size by omega)).trans (((a10 _).cell (p := ⟨w8.heap.size, o, none⟩) (show w8.heap.size < w9.heap.size by omega)).trans (kt10 o))); have kr11 : ∀ o, w11.cell? ⟨w.heap.size, o, none⟩ = wr.cell? ⟨w.heap.size, o, none⟩ := (fun (o : Nat) => (b11.cell (p := ⟨w.heap.size, o, none⟩) (show w.heap.size < w9.heap.size by omega)).trans (((a10 _).cell (p := ⟨w.heap.size, o, none⟩) (show w.heap.size < w9.heap.size by omega)).trans (kr10 o))); have ft11 : ∀ o, w11.frozen? ⟨w8.heap.size, o, none⟩ = wr.frozen? ⟨w8.heap.size, o, none⟩ := (fun (o : Nat) => (b11.frozen (p := ⟨w8.heap.size, o, none⟩) (show w8.heap.size < w9.heap.size by omega)).trans (((a10 _).frozen (p := ⟨w8.heap.size, o, none⟩) (show w8.heap.size < w9.heap.size by omega)).trans (ft10 o))); have fr11 : ∀ o, w11.frozen? ⟨w.heap.size, o, none⟩ = wr.frozen? ⟨w.heap.size, o, none⟩ := (fun (o : Nat) => (b11.frozen (p := ⟨w.heap.size, o, none⟩) (show w.heap.size < w9.heap.size by omega)).trans (((a10 _).frozen (p := ⟨w.heap.size, o, none⟩) (show w.heap.size < w9.heap.size by omega)).trans (fr10 o))); clear a10)
        | (go_simp; go_at_call 28; refine (l1Below_any cb 12 _ (Cur.dr HD.out.1)).mono ?_; rintro y w10 ⟨z, rfl, ⟨z0, z1, _⟩, e10⟩; have z2 := z1 (by omega); clear z1; have hwz : IntKind.i64.wrap (2 + z) = 2 + z := (by rw [IntKind.wrap_i64]; omega); have d10 : Drew wr cb w10 := Drew.undrew e10; clear e10; have s10 : wr.heap.size ≤ w10.heap.size := d10.2.size; have D10 : Hid (Drew w cb w10) := Lib.hid (HD.out.trans d10); have O10 := Lib.hid (row_drew HO.out d10 (show cb < w9.heap.size by omega)); have kt10 : ∀ o, w10.cell? ⟨w8.heap.size, o, none⟩ = wr.cell? ⟨w8.heap.size, o, none⟩ := (fun o => d10.cell (b := w8.heap.size) hz8 (by omega) o); have kr10 : ∀ o, w10.cell? ⟨w.heap.size, o, none⟩ = wr.cell? ⟨w.heap.size, o, none⟩ := (fun o => d10.cell (b := w.heap.size) (show w.heap.size < wr.heap.size by omega) (by omega) o); have ft10 : ∀ o, w10.frozen? ⟨w8.heap.size, o, none⟩ = wr.frozen? ⟨w8.heap.size, o, none⟩ := (fun o => d10.frozen (b := w8.heap.size) hz8 (by omega) o); have fr10 : ∀ o, w10.frozen? ⟨w.heap.size, o, none⟩ = wr.frozen? ⟨w.heap.size, o, none⟩ := (fun o => d10.frozen (b := w.heap.size) (show w.heap.size < wr.heap.size by omega) (by omega) o); have hzz : w8.heap.size < w10.heap.size := (by omega); have hzn : ¬ w8.heap.size = w10.heap.size := (by omega); have hzm : ¬ w10.heap.size = w8.heap.size := (by omega); clear d10))
      all_goals
        have HB' : Hid (∀ i, i < k + 1 → 1 ≤ fld (es ++ [one5 (2 + z)]) i 0 ∧ fld (es ++ [one5 (2 + z)]) i 0 ≤ 60) := one5_bd hl HB.out (by omega) (by omega)
        have HQ' := HQ.out
        have HR' := HR.out
        go_wp2
        go_roundw
        case rel => exact ⟨k + 1, _, es ++ [one5 (2 + z)], by omega, by go_num, by simp [hl], HB', by (first | (go_keep; done) | (go_simp; done)), by (first | (go_keep; done) | (go_simp; done)), by (first | (go_keep; done) | (go_simp; done)), by (first | (go_keep; done) | (go_simp; done)), by (first | (go_keep; done) | (go_simp; done)), by (first | (go_keep; done) | (go_simp; done)), by (first | (go_keep; done) | (go_simp; done)), by (first | (go_keep; done) | (go_simp; done)), by (first | (go_keep; done) | (go_simp; done)), by (first | (go_keep; done) | (go_simp; done)), by (first | (go_keep; done) | (go_simp; done)), by (first | (go_keep; done) | (go_simp; done)), by (first | (go_keep; done) | (go_simp; done)), by (first | (go_keep; done) | (go_simp; done)), by (first | (go_keep; done) | (go_simp; done)), by (first | (go_keep; done) | (go_simp; done)), by (first | (go_keep; done) | (go_simp; done)), by (first | (go_keep; done) | (go_simp; done)), fun o => by (first | (simp [*]; done) | (go_simp; done)), fun o => by (first | (simp [*]; done) | (go_simp; done)), row_set5 hown11 (by omega), Drew.set hlt (by omega) (Drew.grow hlt (by simp; omega) (Drew.alloc _ D10.out) hg11 (row_ge O10.out (show w.heap.size ≤ w9.heap.size by omega))), by (simp; omega)⟩
        case measure => simp [intOf]; omega
    · obtain ⟨A, c, rfl, h1, h2, ho⟩ := own_of_row_cap hl HO.out
      have HX := Lib.hid ho
      clear ho
      have z0 := HR.out 0
      have z1 := HR.out 1
      have z2 := HR.out 2
      have z3 := HR.out 3
      have z4 := HR.out 4
      have z5 := HR.out 5
      have z6 := HR.out 6
      have z7 := HR.out 7
      have z8 := HR.out 8
      go_wp2
      refine bodyPost_ret (v := .agg #[.slice A k c, .int .i64 (1 + x1), .int .i64 (2 + x2), .int .i64 (1 + x3), .int .i64 (1 + x4), .int .i64 (1 + x5), .int .i64 (x6), .int .i64 (1 + x7), .int .i64 (1 + x8)]) (by simp only [results, Tryz.results27]; (first | (go_simp; done) | (go_simp; omega))) rfl ⟨A, k, c, fun j => [0, 1 + x1, 2 + x2, 1 + x3, 1 + x4, 1 + x5, x6, 1 + x7, 1 + x8].getD j 0, es, rfl, by omega, h1, ⟨by omega, ⟨⟨by show 1 ≤ 1 + x1; omega, by show 1 + x1 ≤ 5; omega⟩, ⟨by show 1 ≤ 2 + x2; omega, by show 2 + x2 ≤ 10; omega⟩, ⟨by show 1 ≤ 1 + x3; omega, by show 1 + x3 ≤ 6; omega⟩, ⟨by show 1 ≤ 1 + x4; omega, by show 1 + x4 ≤ 12; omega⟩, ⟨by show 1 ≤ 1 + x5; omega, by show 1 + x5 ≤ 8; omega⟩, ⟨by show 0 ≤ x6; omega, by show x6 ≤ 8; omega⟩, ⟨by show 1 ≤ 1 + x7; omega, by show 1 + x7 ≤ 4; omega⟩, ⟨by show 1 ≤ 1 + x8; omega, by show 1 + x8 ≤ 3; omega⟩⟩, HB.out⟩, ?_, ?_⟩
      · have HX' := HX.out
        refine Own.mono (B := w9.heap.size) ?_ (by omega)
        (repeat (first | with_reducible assumption | (with_reducible refine Own.set_ ?_ ?_ _; (first | omega | (simp; omega) | simp)) | with_reducible refine Own.alloc_ ?_ _ | with_reducible refine Own.drew_ ?_))
      · have HD' := HD.out
        (repeat (first | with_reducible assumption | (with_reducible refine Drew.set hlt ?_ ?_; (first | omega | (simp; omega) | simp)) | with_reducible refine Drew.alloc _ ?_ | with_reducible refine Drew.drewN _ ?_ | with_reducible exact Cur.drew_below HC.out (Below.refl _ _)))
end Go.Proofs.YtjlmcppkafjniaaGreat

namespace Go.Proofs.YtjlmcppkafjniaaGreat
open Go.RowKit

theorem Bx.alloc {w : World} {b K : Nat} {v : Nat → Value} (h : Bx w b K v) (o : Obj) : Bx (w.alloc o) b K v := h.below ((Below.refl _ _).alloc (Nat.le_refl _) o)
theorem Cur.alc {w : World} {cb : Nat} (h : Cur w cb) (o : Obj) : Cur (w.alloc o) cb := h.below ((Below.refl _ _).alloc (Nat.le_refl _) o)
theorem Bx.party (w : World) (t : TypeId) (p : Nat → Int) : Bx (w.alloc (.cells #[.int .i64 (p 0), .int .i64 (p 1), .int .i64 (p 2), .int .i64 (p 3), .int .i64 (p 4), .int .i64 (p 5), .int .i64 (p 6), .int .i64 (p 7), .int .i64 (p 8), .int .i64 (p 9)] t)) w.heap.size 10 (ints p) :=
  ⟨by simp, fun o => by (first | (simp; done) | (go_simp; done)), all10 (by show _ = some (Value.int .i64 (p 0)); (first | (simp; done) | (go_simp; done))) (by show _ = some (Value.int .i64 (p 1)); (first | (simp; done) | (go_simp; done))) (by show _ = some (Value.int .i64 (p 2)); (first | (simp; done) | (go_simp; done))) (by show _ = some (Value.int .i64 (p 3)); (first | (simp; done) | (go_simp; done))) (by show _ = some (Value.int .i64 (p 4)); (first | (simp; done) | (go_simp; done))) (by show _ = some (Value.int .i64 (p 5)); (first | (simp; done) | (go_simp; done))) (by show _ = some (Value.int .i64 (p 6)); (first | (simp; done) | (go_simp; done))) (by show _ = some (Value.int .i64 (p 7)); (first | (simp; done) | (go_simp; done))) (by show _ = some (Value.int .i64 (p 8)); (first | (simp; done) | (go_simp; done))) (by show _ = some (Value.int .i64 (p 9)); (first | (simp; done) | (go_simp; done)))⟩
theorem Bx.rules (w : World) (t : TypeId) (A : Option Addr) (n c : Nat) (r : Nat → Int) : Bx (w.alloc (.cells #[.slice A n c, .int .i64 (r 1), .int .i64 (r 2), .int .i64 (r 3), .int .i64 (r 4), .int .i64 (r 5), .int .i64 (r 6), .int .i64 (r 7), .int .i64 (r 8)] t)) w.heap.size 9 (rv A n c r) :=
  ⟨by simp, fun o => by (first | (simp; done) | (go_simp; done)), all9 (by show _ = some (Value.slice A n c); (first | (simp; done) | (go_simp; done))) (by show _ = some (Value.int .i64 (r 1)); (first | (simp; done) | (go_simp; done))) (by show _ = some (Value.int .i64 (r 2)); (first | (simp; done) | (go_simp; done))) (by show _ = some (Value.int .i64 (r 3)); (first | (simp; done) | (go_simp; done))) (by show _ = some (Value.int .i64 (r 4)); (first | (simp; done) | (go_simp; done))) (by show _ = some (Value.int .i64 (r 5)); (first | (simp; done) | (go_simp; done))) (by show _ = some (Value.int .i64 (r 6)); (first | (simp; done) | (go_simp; done))) (by show _ = some (Value.int .i64 (r 7)); (first | (simp; done) | (go_simp; done))) (by show _ = some (Value.int .i64 (r 8)); (first | (simp; done) | (go_simp; done)))⟩
theorem Bx.upd {w : World} {b k : Nat} {p : Nat → Int} (h : Bx w b 10 (ints p)) (x : Int) (hk : k < 10) : Bx (w.setCell ⟨b, k, none⟩ (.int .i64 x)) b 10 (ints (upd p k x)) := ints_upd p k x ▸ h.set _ hk
theorem Own.set_nb {B K n : Nat} {w : World} {A : Option Addr} {es : List (Nat → Int)} {b0 o0 : Nat} (h : Own B w K A n es) (hne : ∀ a, n ≠ 0 → A = some a → a.block ≠ b0) (v : Value) : Own B (w.setCell ⟨b0, o0, none⟩ v) K A n es := by
  refine ⟨h.1, ?_⟩
  rcases Nat.eq_zero_or_pos n with h0 | h0
  · exact .inl h0
  · obtain ⟨b, off, h1, h2, h3, h4, h5⟩ := h.2.resolve_left (by omega)
    have hb : b ≠ b0 := hne _ (by omega) h1
    have hh := Below.heap_setCell w ⟨b0, o0, none⟩ v b hb
    exact .inr ⟨b, off, h1, by simpa [World.setCell] using h2, h3, fun o => (World.frozen?_of_block (w := w) (w' := w.setCell ⟨b0, o0, none⟩ v) (a := ⟨b, o, none⟩) hh).trans (h4 o), fun i hi j hj => (World.cell?_of_block (w := w) (w' := w.setCell ⟨b0, o0, none⟩ v) (a := ⟨b, _, none⟩) hh).trans (h5 i hi j hj)⟩
theorem Own.lt {B K n : Nat} {w : World} {A : Option Addr} {es : List (Nat → Int)} (h : Own B w K A n es) : ∀ a, n ≠ 0 → A = some a → a.block < w.heap.size := fun a h0 ha => by
  obtain ⟨b, off, h1, h2, _⟩ := h.2.resolve_left h0
  rw [h1] at ha
  injection ha with ha
  rw [← ha]
  exact h2
theorem l1New_c (cb : Nat) (A : Option Addr) (n c : Nat) (w : World) (hcb : cb = w.heap.size) (hn : n ≤ 1048576) (h : RdB w A n) :
    Calls Tryz.prog 26 #[.slice A n c] w fun y w' => y = .returned (.pointer (some ⟨cb, 0, none⟩)) ∧ Cur w' cb ∧ Below w.heap.size w w' := hcb ▸ l1New_any A n c w hn h
end Go.Proofs.YtjlmcppkafjniaaGreat
