/-
  The function that draws a right party. No conditions beyond those stated.
-/
import Derived.Test.YtjlmcppkafjniaaGreatDt0
namespace Go.Proofs.YtjlmcppkafjniaaGreat
open Go.RowKit

set_option maxRecDepth 100000 in
set_option maxHeartbeats 16000000 in
theorem l6Right_any (cb : Nat) (A : Option Addr) (n c : Nat) (es : List (Nat → Int)) (r : Nat → Int) (now : Int) (w : World) (h : Cur w cb) (hR : ROk n es r) :
    Calls Tryz.prog 29 #[.pointer (some ⟨cb, 0, none⟩), .agg #[.slice A n c, .int .i64 (r 1), .int .i64 (r 2), .int .i64 (r 3), .int .i64 (r 4), .int .i64 (r 5), .int .i64 (r 6), .int .i64 (r 7), .int .i64 (r 8)], .int .i64 now] w (PtyD (PDr n r now) w cb) := by
  obtain ⟨g1, g2, g3, g4, g5, g6, g7, g8, g9, g10, g11, g12, g13, g14, g15, g16, g17, g18⟩ := hR.ints
  have hlt := h.lt
  have HD0 := Lib.hid (Drew.refl h)
  obtain ⟨bo, hbo⟩ : ∃ bo : Bool, bo = true ↔ (0 ≤ now ∧ now ≤ 10000000) := ⟨decide (0 ≤ now ∧ now ≤ 10000000), by simp⟩
  have HB := Lib.hid hbo
  clear h hR hbo
  go_enter Tryz.func29, Tryz.ntmps29
  go_upto_region 1 with fail
  go_cut [7] (fun s7 wx => s7 = .pointer (some ⟨w.heap.size + 1 + 1, 0, none⟩) ∧ ∃ p : Nat → Int, Hid (LR w wx cb A n c r p) ∧ Hid (PDr n r now p) ∧ Hid (p 7 = 1))
  case first =>
    go_region_held3 (fun w' => w'.cell? ⟨w.heap.size, 0, none⟩ = some (.slice A n c) ∧ w'.cell? ⟨w.heap.size, 1, none⟩ = some (.int .i64 (r 1)) ∧ w'.cell? ⟨w.heap.size, 3, none⟩ = some (.int .i64 (r 3)) ∧ w'.cell? ⟨w.heap.size, 7, none⟩ = some (.int .i64 (r 7))) ((first | (go_keep; done) | (go_simp; done))) (first
      | (go_at_call_of 28 (Value.int .i64 12); refine (l1BelowS cb _ _ (Drew.cur (w := w) (by (repeat (first | with_reducible exact HD0.out | with_reducible refine Drew.drw ?_ | with_reducible refine Drew.alloc _ ?_))))).mono ?_; rintro y w1 ⟨x1, rfl, ⟨p1, q1, _⟩, d1, e1⟩; have b1 := q1 (by omega); clear q1; (try simp at e1); have D1 : Hid (Drew w cb w1) := Lib.hid (Drew.trans (by (repeat (first | with_reducible exact HD0.out | with_reducible refine Drew.drw ?_ | with_reducible refine Drew.alloc _ ?_))) d1); have kd1_0 : ∀ o, w1.cell? ⟨w.heap.size, o, none⟩ = _ := (fun o => d1.cell (b := w.heap.size) (by (first | omega | (simp; omega) | simp)) (by omega) o); have kf1_0 : ∀ o, w1.frozen? ⟨w.heap.size, o, none⟩ = _ := (fun o => d1.frozen (b := w.heap.size) (by (first | omega | (simp; omega) | simp)) (by omega) o); have kd1_1 : ∀ o, w1.cell? ⟨w.heap.size + 1, o, none⟩ = _ := (fun o => d1.cell (b := w.heap.size + 1) (by (first | omega | (simp; omega) | simp)) (by omega) o); have kf1_1 : ∀ o, w1.frozen? ⟨w.heap.size + 1, o, none⟩ = _ := (fun o => d1.frozen (b := w.heap.size + 1) (by (first | omega | (simp; omega) | simp)) (by omega) o); have kd1_2 := (fun (hh : w.heap.size + 1 + 1 < _) (o : Nat) => d1.cell (b := w.heap.size + 1 + 1) hh (by omega) o); have kf1_2 := (fun (hh : w.heap.size + 1 + 1 < _) (o : Nat) => d1.frozen (b := w.heap.size + 1 + 1) hh (by omega) o); clear d1)
      | (go_at_call_of 28 (Value.int .i64 ↑n); refine (l1BelowS cb _ _ (Drew.cur (w := w) (by (repeat (first | with_reducible exact D1.out | with_reducible refine Drew.drw ?_ | with_reducible refine Drew.alloc _ ?_))))).mono ?_; rintro y w2 ⟨x2, rfl, ⟨p2, q2, _⟩, d2, e2⟩; have b2 := q2 (by omega); clear q2; (try simp at e2); have D2 : Hid (Drew w cb w2) := Lib.hid (Drew.trans (by (repeat (first | with_reducible exact D1.out | with_reducible refine Drew.drw ?_ | with_reducible refine Drew.alloc _ ?_))) d2); have kd2_0 : ∀ o, w2.cell? ⟨w.heap.size, o, none⟩ = _ := (fun o => d2.cell (b := w.heap.size) (by (first | omega | (simp; omega) | simp)) (by omega) o); have kf2_0 : ∀ o, w2.frozen? ⟨w.heap.size, o, none⟩ = _ := (fun o => d2.frozen (b := w.heap.size) (by (first | omega | (simp; omega) | simp)) (by omega) o); have kd2_1 : ∀ o, w2.cell? ⟨w.heap.size + 1, o, none⟩ = _ := (fun o => d2.cell (b := w.heap.size + 1) (by (first | omega | (simp; omega) | simp)) (by omega) o); have kf2_1 : ∀ o, w2.frozen? ⟨w.heap.size + 1, o, none⟩ = _ := (fun o => d2.frozen (b := w.heap.size + 1) (by (first | omega | (simp; omega) | simp)) (by omega) o); have kd2_2 := (fun (hh : w.heap.size + 1 + 1 < _) (o : Nat) => d2.cell (b := w.heap.size + 1 + 1) hh (by omega) o); have kf2_2 := (fun (hh : w.heap.size + 1 + 1 < _) (o : Nat) => d2.frozen (b := w.heap.size + 1 + 1) hh (by omega) o); clear d2)
      | (go_at_call_of 28 (Value.int .i64 (r 3)); refine (l1BelowS cb _ _ (Drew.cur (w := w) (by (repeat (first | with_reducible exact D2.out | with_reducible refine Drew.drw ?_ | with_reducible refine Drew.alloc _ ?_))))).mono ?_; rintro y w3 ⟨x3, rfl, ⟨p3, q3, _⟩, d3, e3⟩; have b3 := q3 (by omega); clear q3; (try simp at e3); have D3 : Hid (Drew w cb w3) := Lib.hid (Drew.trans (by (repeat (first | with_reducible exact D2.out | with_reducible refine Drew.drw ?_ | with_reducible refine Drew.alloc _ ?_))) d3); have kd3_0 : ∀ o, w3.cell? ⟨w.heap.size, o, none⟩ = _ := (fun o => d3.cell (b := w.heap.size) (by (first | omega | (simp; omega) | simp)) (by omega) o); have kf3_0 : ∀ o, w3.frozen? ⟨w.heap.size, o, none⟩ = _ := (fun o => d3.frozen (b := w.heap.size) (by (first | omega | (simp; omega) | simp)) (by omega) o); have kd3_1 : ∀ o, w3.cell? ⟨w.heap.size + 1, o, none⟩ = _ := (fun o => d3.cell (b := w.heap.size + 1) (by (first | omega | (simp; omega) | simp)) (by omega) o); have kf3_1 : ∀ o, w3.frozen? ⟨w.heap.size + 1, o, none⟩ = _ := (fun o => d3.frozen (b := w.heap.size + 1) (by (first | omega | (simp; omega) | simp)) (by omega) o); have kd3_2 := (fun (hh : w.heap.size + 1 + 1 < _) (o : Nat) => d3.cell (b := w.heap.size + 1 + 1) hh (by omega) o); have kf3_2 := (fun (hh : w.heap.size + 1 + 1 < _) (o : Nat) => d3.frozen (b := w.heap.size + 1 + 1) hh (by omega) o); clear d3)
      | (go_at_call_of 28 (Value.int .i64 (r 1)); refine (l1BelowS cb _ _ (Drew.cur (w := w) (by (repeat (first | with_reducible exact D3.out | with_reducible refine Drew.drw ?_ | with_reducible refine Drew.alloc _ ?_))))).mono ?_; rintro y w4 ⟨x4, rfl, ⟨p4, q4, _⟩, d4, e4⟩; have b4 := q4 (by omega); clear q4; (try simp at e4); have D4 : Hid (Drew w cb w4) := Lib.hid (Drew.trans (by (repeat (first | with_reducible exact D3.out | with_reducible refine Drew.drw ?_ | with_reducible refine Drew.alloc _ ?_))) d4); have kd4_0 : ∀ o, w4.cell? ⟨w.heap.size, o, none⟩ = _ := (fun o => d4.cell (b := w.heap.size) (by (first | omega | (simp; omega) | simp)) (by omega) o); have kf4_0 : ∀ o, w4.frozen? ⟨w.heap.size, o, none⟩ = _ := (fun o => d4.frozen (b := w.heap.size) (by (first | omega | (simp; omega) | simp)) (by omega) o); have kd4_1 : ∀ o, w4.cell? ⟨w.heap.size + 1, o, none⟩ = _ := (fun o => d4.cell (b := w.heap.size + 1) (by (first | omega | (simp; omega) | simp)) (by omega) o); have kf4_1 : ∀ o, w4.frozen? ⟨w.heap.size + 1, o, none⟩ = _ := (fun o => d4.frozen (b := w.heap.size + 1) (by (first | omega | (simp; omega) | simp)) (by omega) o); have kd4_2 := (fun (hh : w.heap.size + 1 + 1 < _) (o : Nat) => d4.cell (b := w.heap.size + 1 + 1) hh (by omega) o); have kf4_2 := (fun (hh : w.heap.size + 1 + 1 < _) (o : Nat) => d4.frozen (b := w.heap.size + 1 + 1) hh (by omega) o); clear d4)
      | (go_at_call_of 28 (Value.int .i64 40); refine (l1BelowS cb _ _ (Drew.cur (w := w) (by (repeat (first | with_reducible exact D4.out | with_reducible refine Drew.drw ?_ | with_reducible refine Drew.alloc _ ?_))))).mono ?_; rintro y w5 ⟨x5, rfl, ⟨p5, q5, _⟩, d5, e5⟩; have b5 := q5 (by omega); clear q5; (try simp at e5); have D5 : Hid (Drew w cb w5) := Lib.hid (Drew.trans (by (repeat (first | with_reducible exact D4.out | with_reducible refine Drew.drw ?_ | with_reducible refine Drew.alloc _ ?_))) d5); have kd5_0 : ∀ o, w5.cell? ⟨w.heap.size, o, none⟩ = _ := (fun o => d5.cell (b := w.heap.size) (by (first | omega | (simp; omega) | simp)) (by omega) o); have kf5_0 : ∀ o, w5.frozen? ⟨w.heap.size, o, none⟩ = _ := (fun o => d5.frozen (b := w.heap.size) (by (first | omega | (simp; omega) | simp)) (by omega) o); have kd5_1 : ∀ o, w5.cell? ⟨w.heap.size + 1, o, none⟩ = _ := (fun o => d5.cell (b := w.heap.size + 1) (by (first | omega | (simp; omega) | simp)) (by omega) o); have kf5_1 : ∀ o, w5.frozen? ⟨w.heap.size + 1, o, none⟩ = _ := (fun o => d5.frozen (b := w.heap.size + 1) (by (first | omega | (simp; omega) | simp)) (by omega) o); have kd5_2 := (fun (hh : w.heap.size + 1 + 1 < _) (o : Nat) => d5.cell (b := w.heap.size + 1 + 1) hh (by omega) o); have kf5_2 := (fun (hh : w.heap.size + 1 + 1 < _) (o : Nat) => d5.frozen (b := w.heap.size + 1 + 1) hh (by omega) o); clear d5)
      | (go_at_call_of 28 (Value.int .i64 (r 7)); refine (l1BelowS cb _ _ (Drew.cur (w := w) (by (repeat (first | with_reducible exact D5.out | with_reducible refine Drew.drw ?_ | with_reducible refine Drew.alloc _ ?_))))).mono ?_; rintro y w6 ⟨x6, rfl, ⟨p6, q6, _⟩, d6, e6⟩; have b6 := q6 (by omega); clear q6; (try simp at e6); have D6 : Hid (Drew w cb w6) := Lib.hid (Drew.trans (by (repeat (first | with_reducible exact D5.out | with_reducible refine Drew.drw ?_ | with_reducible refine Drew.alloc _ ?_))) d6); have kd6_0 : ∀ o, w6.cell? ⟨w.heap.size, o, none⟩ = _ := (fun o => d6.cell (b := w.heap.size) (by (first | omega | (simp; omega) | simp)) (by omega) o); have kf6_0 : ∀ o, w6.frozen? ⟨w.heap.size, o, none⟩ = _ := (fun o => d6.frozen (b := w.heap.size) (by (first | omega | (simp; omega) | simp)) (by omega) o); have kd6_1 : ∀ o, w6.cell? ⟨w.heap.size + 1, o, none⟩ = _ := (fun o => d6.cell (b := w.heap.size + 1) (by (first | omega | (simp; omega) | simp)) (by omega) o); have kf6_1 : ∀ o, w6.frozen? ⟨w.heap.size + 1, o, none⟩ = _ := (fun o => d6.frozen (b := w.heap.size + 1) (by (first | omega | (simp; omega) | simp)) (by omega) o); have kd6_2 := (fun (hh : w.heap.size + 1 + 1 < _) (o : Nat) => d6.cell (b := w.heap.size + 1 + 1) hh (by omega) o); have kf6_2 := (fun (hh : w.heap.size + 1 + 1 < _) (o : Nat) => d6.frozen (b := w.heap.size + 1 + 1) hh (by omega) o); clear d6))
    all_goals
      go_wp2_with fail
      go_meet
      have hw1 : IntKind.i64.wrap (1 + x1) = 1 + x1 := by (rw [IntKind.wrap_i64]; omega)
      have hw3 : IntKind.i64.wrap (1 + x3) = 1 + x3 := by (rw [IntKind.wrap_i64]; omega)
      have hw5 : IntKind.i64.wrap (1 + x5) = 1 + x5 := by (rw [IntKind.wrap_i64]; omega)
      exact ⟨by first | rfl | (simp [*]; done), fun j => [1 + x1, x2, -1, 1 + x3, x4, 0, 1 + x5, 1, 0, x6].getD j 0, ⟨⟨by (first | omega | (simp; omega) | simp), fun o => by (first | (go_keep; done) | (go_simp; done)), all10 (by show _ = some (Value.int .i64 (1 + x1)); (first | (go_keep; done) | (go_simp; done))) (by show _ = some (Value.int .i64 (x2)); (first | (go_keep; done) | (go_simp; done))) (by show _ = some (Value.int .i64 (-1)); (first | (go_keep; done) | (go_simp; done))) (by show _ = some (Value.int .i64 (1 + x3)); (first | (go_keep; done) | (go_simp; done))) (by show _ = some (Value.int .i64 (x4)); (first | (go_keep; done) | (go_simp; done))) (by show _ = some (Value.int .i64 (0)); (first | (go_keep; done) | (go_simp; done))) (by show _ = some (Value.int .i64 (1 + x5)); (first | (go_keep; done) | (go_simp; done))) (by show _ = some (Value.int .i64 (1)); (first | (go_keep; done) | (go_simp; done))) (by show _ = some (Value.int .i64 (0)); (first | (go_keep; done) | (go_simp; done))) (by show _ = some (Value.int .i64 (x6)); (first | (go_keep; done) | (go_simp; done)))⟩,
        ⟨by (first | omega | (simp; omega) | simp), fun o => by (first | (go_keep; done) | (go_simp; done)), all9 (by show _ = some (Value.slice A n c); (first | (go_keep; done) | (go_simp; done))) (by show _ = some (Value.int .i64 (r 1)); (first | (go_keep; done) | (go_simp; done))) (by show _ = some (Value.int .i64 (r 2)); (first | (go_keep; done) | (go_simp; done))) (by show _ = some (Value.int .i64 (r 3)); (first | (go_keep; done) | (go_simp; done))) (by show _ = some (Value.int .i64 (r 4)); (first | (go_keep; done) | (go_simp; done))) (by show _ = some (Value.int .i64 (r 5)); (first | (go_keep; done) | (go_simp; done))) (by show _ = some (Value.int .i64 (r 6)); (first | (go_keep; done) | (go_simp; done))) (by show _ = some (Value.int .i64 (r 7)); (first | (go_keep; done) | (go_simp; done))) (by show _ = some (Value.int .i64 (r 8)); (first | (go_keep; done) | (go_simp; done)))⟩,
        ⟨by (first | omega | (simp; omega) | simp), fun o => by (first | (go_keep; done) | (go_simp; done)), all10 (by show _ = some (Value.int .i64 0); (first | (go_keep; done) | (go_simp; done))) (by show _ = some (Value.int .i64 0); (first | (go_keep; done) | (go_simp; done))) (by show _ = some (Value.int .i64 0); (first | (go_keep; done) | (go_simp; done))) (by show _ = some (Value.int .i64 0); (first | (go_keep; done) | (go_simp; done))) (by show _ = some (Value.int .i64 0); (first | (go_keep; done) | (go_simp; done))) (by show _ = some (Value.int .i64 0); (first | (go_keep; done) | (go_simp; done))) (by show _ = some (Value.int .i64 0); (first | (go_keep; done) | (go_simp; done))) (by show _ = some (Value.int .i64 0); (first | (go_keep; done) | (go_simp; done))) (by show _ = some (Value.int .i64 0); (first | (go_keep; done) | (go_simp; done))) (by show _ = some (Value.int .i64 0); (first | (go_keep; done) | (go_simp; done)))⟩,
        by (repeat (first | with_reducible exact D6.out | with_reducible refine Drew.drw ?_ | with_reducible refine Drew.alloc _ ?_ | (with_reducible refine Drew.set hlt ?_ ?_; (first | omega | (simp; omega) | simp))))⟩,
        ⟨by show 1 ≤ 1 + x1 ∧ 1 + x1 ≤ 12; omega, by show 0 ≤ x2 ∧ x2 < n; omega, .inl rfl, by show 1 ≤ 1 + x3 ∧ 1 + x3 ≤ r 3; omega, by show 0 ≤ x4 ∧ x4 < r 1; omega, by show 1 ≤ 1 + x5 ∧ 1 + x5 ≤ 40; omega, by show 0 ≤ x6 ∧ x6 < r 7; omega, fun hn => ⟨by show (0 : Int) ≤ 0; omega, by show (0 : Int) ≤ now; omega, .inl ⟨rfl, by show (0 : Int) ≤ 0; omega, by show (0 : Int) ≤ now + r 6; omega⟩⟩⟩, rfl⟩
  case rest =>
    obtain ⟨rfl, p, HL, HP, H7⟩ := hcut
    go_upto_if 34 with (go_at_call 44; refine (l1In_b now 0 10000000 bo _ HB.out).mono ?_; rintro y wz ⟨rfl, rfl⟩)
    go_cut [] (fun wx => ∃ p : Nat → Int, Hid (LR w wx cb A n c r p) ∧ Hid (PDr n r now p))
    case first =>
      cases bo with
      | false =>
        go_wp2
        go_meet
        exact ⟨_, HL, HP⟩
      | true =>
        have hin := HB.out.1 rfl
        obtain ⟨hn0, hn1⟩ := hin
        go_wp2_with fail
        refine (l1BelowS cb _ _ (Drew.cur (HL.out).2.2.2)).mono ?_
        rintro y w2 ⟨x2, rfl, ⟨p2, q2, _⟩, d2, _⟩
        have b2 := q2 (by omega)
        clear q2
        have L2 := Lib.hid (HL.out.drew hlt d2)
        clear d2
        have c5 := L2.out.1.2.2 5 (by omega)
        have f5 := L2.out.1.2.1 5
        simp only [ints] at c5
        have L3 := Lib.hid (L2.out.set hlt x2 (show 5 < 10 by omega))
        have P3 : Hid (PDr n r now (upd p 5 x2)) := Lib.hid (HP.out.up5 (by omega) (by omega))
        go_upto_if 41 with (go_at_call 67; refine (l1OnceS cb 3 _ (Drew.cur L3.out.2.2.2)).mono ?_; rintro y w4 ⟨b4, rfl, d4, _⟩)
        have L4 := Lib.hid (L3.out.drew hlt d4)
        clear d4
        go_cut [] (fun wx => ∃ p : Nat → Int, Hid (LR w wx cb A n c r p) ∧ Hid (PDr n r now p))
        case first =>
          cases b4 with
          | false =>
            go_wp2
            go_meet
            exact ⟨_, L4, P3⟩
          | true =>
            have rc6 : _ = some (Value.int .i64 (r 6)) := (L4.out).2.1.2.2 6 (by omega)
            go_wp2_with fail
            refine (l1BelowS cb _ _ (Drew.cur (L4.out).2.2.2)).mono ?_
            rintro y w5 ⟨x5, rfl, ⟨p5, q5, _⟩, d5, _⟩
            have b5 := q5 (by omega)
            clear q5
            have L5 := Lib.hid (L4.out.drew hlt d5)
            clear d5
            have c8 := L5.out.1.2.2 8 (by omega)
            have f8 := L5.out.1.2.1 8
            simp only [ints] at c8
            have L6 := Lib.hid (L5.out.set hlt x5 (show 8 < 10 by omega))
            have P6 : Hid (PDr n r now (upd (upd p 5 x2) 8 x5)) := Lib.hid (P3.out.up8 H7.out (by omega) (by omega))
            go_wp2
            go_meet
            exact ⟨_, L6, P6⟩
        case rest =>
          obtain ⟨p', HL', HP'⟩ := hcut
          go_upto_if 51 with (go_at_call 67; refine (l1OnceS cb 3 _ (Drew.cur HL'.out.2.2.2)).mono ?_; rintro y w7 ⟨b7, rfl, d7, _⟩)
          have L7 := Lib.hid (HL'.out.drew hlt d7)
          clear d7
          go_cut [] (fun wx => ∃ p : Nat → Int, Hid (LR w wx cb A n c r p) ∧ Hid (PDr n r now p))
          case first =>
            cases b7 with
            | false =>
              go_wp2
              go_meet
              exact ⟨_, L7, HP'⟩
            | true =>
              have c7 := L7.out.1.2.2 7 (by omega)
              have f7 := L7.out.1.2.1 7
              simp only [ints] at c7
              have L8 := Lib.hid (L7.out.set hlt 2 (show 7 < 10 by omega))
              have rc5 : _ = some (Value.int .i64 (r 5)) := (L8.out).2.1.2.2 5 (by omega)
              go_wp2_with fail
              refine (l1BelowS cb _ _ (Drew.cur (L8.out).2.2.2)).mono ?_
              rintro y w9 ⟨x9, rfl, ⟨p9, q9, _⟩, d9, _⟩
              have b9 := q9 (by omega)
              clear q9
              have L9 := Lib.hid (L8.out.drew hlt d9)
              clear d9
              have c8 := L9.out.1.2.2 8 (by omega)
              have f8 := L9.out.1.2.1 8
              simp only [ints] at c8
              have L10 := Lib.hid (L9.out.set hlt (1 + x9) (show 8 < 10 by omega))
              have P10 : Hid (PDr n r now (upd (upd p' 7 2) 8 (1 + x9))) := Lib.hid (HP'.out.up78 (by omega) (by omega))
              go_wp2
              go_meet
              exact ⟨_, L10, P10⟩
          case rest =>
            obtain ⟨p'', HL'', HP''⟩ := hcut
            go_wp2
            go_meet
            exact ⟨_, HL'', HP''⟩
    case rest =>
      obtain ⟨p', HL', HP'⟩ := hcut
      go_upto_if 62 with (go_at_call 67; refine (l1OnceS cb 4 _ (Drew.cur HL'.out.2.2.2)).mono ?_; rintro y w7 ⟨b7, rfl, d7, _⟩)
      have L7 := Lib.hid (HL'.out.drew hlt d7)
      clear d7
      go_cut [] (fun wx => ∃ p : Nat → Int, Hid (LR w wx cb A n c r p) ∧ Hid (PDr n r now p))
      case first =>
        cases b7 with
        | false =>
          go_wp2
          go_meet
          exact ⟨_, L7, HP'⟩
        | true =>
          have rc0 : _ = some (Value.slice A n c) := L7.out.2.1.2.2 0 (by omega)
          go_wp2_with fail
          refine (l1BelowS cb _ _ (Drew.cur (L7.out).2.2.2)).mono ?_
          rintro y w9 ⟨x9, rfl, ⟨p9, q9, _⟩, d9, _⟩
          have b9 := q9 (by omega)
          clear q9
          have L9 := Lib.hid (L7.out.drew hlt d9)
          clear d9
          have c8 := L9.out.1.2.2 2 (by omega)
          have f8 := L9.out.1.2.1 2
          simp only [ints] at c8
          have L10 := Lib.hid (L9.out.set hlt x9 (show 2 < 10 by omega))
          have P10 : Hid (PDr n r now (upd p' 2 x9)) := Lib.hid (HP'.out.up2 (by omega) (by omega))
          go_wp2
          go_meet
          exact ⟨_, L10, P10⟩
      case rest =>
        obtain ⟨p2, HL2, HP2⟩ := hcut
        have c0 : _ = some (Value.int .i64 (p2 0)) := HL2.out.1.2.2 0 (by omega)
        have c1 : _ = some (Value.int .i64 (p2 1)) := HL2.out.1.2.2 1 (by omega)
        have c2 : _ = some (Value.int .i64 (p2 2)) := HL2.out.1.2.2 2 (by omega)
        have c3 : _ = some (Value.int .i64 (p2 3)) := HL2.out.1.2.2 3 (by omega)
        have c4 : _ = some (Value.int .i64 (p2 4)) := HL2.out.1.2.2 4 (by omega)
        have c5 : _ = some (Value.int .i64 (p2 5)) := HL2.out.1.2.2 5 (by omega)
        have c6 : _ = some (Value.int .i64 (p2 6)) := HL2.out.1.2.2 6 (by omega)
        have c7 : _ = some (Value.int .i64 (p2 7)) := HL2.out.1.2.2 7 (by omega)
        have c8 : _ = some (Value.int .i64 (p2 8)) := HL2.out.1.2.2 8 (by omega)
        have c9 : _ = some (Value.int .i64 (p2 9)) := HL2.out.1.2.2 9 (by omega)
        have z0 : _ = some (Value.int .i64 0) := HL2.out.2.2.1.2.2 0 (by omega)
        have z1 : _ = some (Value.int .i64 0) := HL2.out.2.2.1.2.2 1 (by omega)
        have z2 : _ = some (Value.int .i64 0) := HL2.out.2.2.1.2.2 2 (by omega)
        have z3 : _ = some (Value.int .i64 0) := HL2.out.2.2.1.2.2 3 (by omega)
        have z4 : _ = some (Value.int .i64 0) := HL2.out.2.2.1.2.2 4 (by omega)
        have z5 : _ = some (Value.int .i64 0) := HL2.out.2.2.1.2.2 5 (by omega)
        have z6 : _ = some (Value.int .i64 0) := HL2.out.2.2.1.2.2 6 (by omega)
        have z7 : _ = some (Value.int .i64 0) := HL2.out.2.2.1.2.2 7 (by omega)
        have z8 : _ = some (Value.int .i64 0) := HL2.out.2.2.1.2.2 8 (by omega)
        have z9 : _ = some (Value.int .i64 0) := HL2.out.2.2.1.2.2 9 (by omega)
        have y0 := HL2.out.2.2.1.2.1 0
        have y1 := HL2.out.2.2.1.2.1 1
        have y2 := HL2.out.2.2.1.2.1 2
        have y3 := HL2.out.2.2.1.2.1 3
        have y4 := HL2.out.2.2.1.2.1 4
        have y5 := HL2.out.2.2.1.2.1 5
        have y6 := HL2.out.2.2.1.2.1 6
        have y7 := HL2.out.2.2.1.2.1 7
        have y8 := HL2.out.2.2.1.2.1 8
        have y9 := HL2.out.2.2.1.2.1 9
        go_wp2
        refine bodyPost_ret (v := .agg #[.int .i64 (p2 0), .int .i64 (p2 1), .int .i64 (p2 2), .int .i64 (p2 3), .int .i64 (p2 4), .int .i64 (p2 5), .int .i64 (p2 6), .int .i64 (p2 7), .int .i64 (p2 8), .int .i64 (p2 9)]) (by simp only [results, Tryz.results29]; (first | (go_simp; done) | (go_simp; omega))) rfl ⟨p2, rfl, HP2.out, ?_⟩
        have HD := HL2.out.2.2.2
        (repeat (first | with_reducible exact HD | (with_reducible refine Drew.set hlt ?_ ?_; (first | omega | (simp; omega) | simp))))
end Go.Proofs.YtjlmcppkafjniaaGreat
