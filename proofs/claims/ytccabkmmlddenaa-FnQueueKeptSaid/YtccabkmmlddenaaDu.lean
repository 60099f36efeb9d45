/-
  The function that draws a party that may be bent. No conditions beyond those stated.
-/
import Derived.Test.YtccabkmmlddenaaDt
import Derived.Deep.CutBlock
namespace Go.Proofs.Ytccabkmmlddenaa
open Go.RowKit

theorem tfb_b {P : Program} {f : FuncId} {args : Array Value} {w : World} {A : Prop} {bo : Bool} (h : bo = true ↔ A) (c : Calls P f args w (TFB A w)) : Calls P f args w fun e w' => e = .returned (.bool bo) ∧ Below w.heap.size w w' := by
  cases bo
  · exact tn c (fun ha => by cases h.2 ha)
  · exact ty c (h.1 rfl)
theorem LR.below {w wx wy : World} {cb : Nat} {A : Option Addr} {n c : Nat} {r p : Nat → Int} (h : LR w wx cb A n c r p) (d : Below wx.heap.size wx wy) : LR w wy cb A n c r p :=
  ⟨h.1.below d, h.2.1.below d, h.2.2.1.below d, h.2.2.2.of_below d⟩

set_option maxRecDepth 100000 in
set_option maxHeartbeats 16000000 in
theorem l6Bent_any (cb B : Nat) (A : Option Addr) (n c : Nat) (es : List (Nat → Int)) (r : Nat → Int) (now : Int) (w : World) (hn : n ≤ 4194304) (_hcb : cb < B) (_hB : B ≤ w.heap.size) (h : Cur w cb) (ho : Own B w 1 A n es) :
    Calls Try.prog 63 #[.pointer (some ⟨cb, 0, none⟩), .agg #[.slice A n c, .int .i64 (r 1), .int .i64 (r 2), .int .i64 (r 3), .int .i64 (r 4), .int .i64 (r 5), .int .i64 (r 6), .int .i64 (r 7), .int .i64 (r 8)], .int .i64 now] w (PtyD (fun _ => True) w cb) := by
  have hlt := h.lt
  have HD0 := Lib.hid (Drew.refl h)
  have HO := Lib.hid ho
  clear h ho
  go_enter Try.func63, Try.ntmps63
  go_wp2_with fail
  obtain ⟨bo, hbo⟩ : ∃ bo : Bool, bo = true ↔ ROk n es r := by classical exact ⟨decide (ROk n es r), by simp⟩
  have HB := Lib.hid hbo
  clear hbo
  refine (tfb_b HB.out (spec_RulesOk A n c es r _ hn (HO.out.rd.below (by (repeat (first | with_reducible exact Below.refl _ _ | with_reducible refine Below.drew ?_ | with_reducible refine below_drewN ?_ _ | (with_reducible refine bel_alloc ?_ ?_ _; (first | omega | (simp; omega) | simp)) | (with_reducible refine bel_set ?_ ?_ _; (first | omega | (simp; omega) | simp)) | (with_reducible refine bel_tr (by assumption) ?_ ?_; (first | omega | (simp; omega) | simp)))))))).mono ?_
  rintro y w1 ⟨rfl, hb1⟩
  have L1 : Hid (LR w w1 cb A n c r (fun j => [3, 0, -1, 1, 0, 0, 1, 1, 0, 0].getD j 0)) := Lib.hid (LR.below (wx := _) ⟨⟨by (first | omega | (simp; omega) | simp), fun o => by (first | (go_keep; done) | (go_simp; done)), all10 (by show _ = some (Value.int .i64 (3)); (first | (go_keep; done) | (go_simp; done))) (by show _ = some (Value.int .i64 (0)); (first | (go_keep; done) | (go_simp; done))) (by show _ = some (Value.int .i64 (-1)); (first | (go_keep; done) | (go_simp; done))) (by show _ = some (Value.int .i64 (1)); (first | (go_keep; done) | (go_simp; done))) (by show _ = some (Value.int .i64 (0)); (first | (go_keep; done) | (go_simp; done))) (by show _ = some (Value.int .i64 (0)); (first | (go_keep; done) | (go_simp; done))) (by show _ = some (Value.int .i64 (1)); (first | (go_keep; done) | (go_simp; done))) (by show _ = some (Value.int .i64 (1)); (first | (go_keep; done) | (go_simp; done))) (by show _ = some (Value.int .i64 (0)); (first | (go_keep; done) | (go_simp; done))) (by show _ = some (Value.int .i64 (0)); (first | (go_keep; done) | (go_simp; done)))⟩, ⟨by (first | omega | (simp; omega) | simp), fun o => by (first | (go_keep; done) | (go_simp; done)), all9 (by show _ = some (Value.slice A n c); (first | (go_keep; done) | (go_simp; done))) (by show _ = some (Value.int .i64 (r 1)); (first | (go_keep; done) | (go_simp; done))) (by show _ = some (Value.int .i64 (r 2)); (first | (go_keep; done) | (go_simp; done))) (by show _ = some (Value.int .i64 (r 3)); (first | (go_keep; done) | (go_simp; done))) (by show _ = some (Value.int .i64 (r 4)); (first | (go_keep; done) | (go_simp; done))) (by show _ = some (Value.int .i64 (r 5)); (first | (go_keep; done) | (go_simp; done))) (by show _ = some (Value.int .i64 (r 6)); (first | (go_keep; done) | (go_simp; done))) (by show _ = some (Value.int .i64 (r 7)); (first | (go_keep; done) | (go_simp; done))) (by show _ = some (Value.int .i64 (r 8)); (first | (go_keep; done) | (go_simp; done)))⟩, ⟨by (first | omega | (simp; omega) | simp), fun o => by (first | (go_keep; done) | (go_simp; done)), all10 (by show _ = some (Value.int .i64 0); (first | (go_keep; done) | (go_simp; done))) (by show _ = some (Value.int .i64 0); (first | (go_keep; done) | (go_simp; done))) (by show _ = some (Value.int .i64 0); (first | (go_keep; done) | (go_simp; done))) (by show _ = some (Value.int .i64 0); (first | (go_keep; done) | (go_simp; done))) (by show _ = some (Value.int .i64 0); (first | (go_keep; done) | (go_simp; done))) (by show _ = some (Value.int .i64 0); (first | (go_keep; done) | (go_simp; done))) (by show _ = some (Value.int .i64 0); (first | (go_keep; done) | (go_simp; done))) (by show _ = some (Value.int .i64 0); (first | (go_keep; done) | (go_simp; done))) (by show _ = some (Value.int .i64 0); (first | (go_keep; done) | (go_simp; done))) (by show _ = some (Value.int .i64 0); (first | (go_keep; done) | (go_simp; done)))⟩, by (repeat (first | with_reducible exact HD0.out | with_reducible refine Drew.alloc _ ?_ | (with_reducible refine Drew.set hlt ?_ ?_; (first | omega | (simp; omega) | simp))))⟩ hb1)
  clear hb1
  go_upto_if 11 with fail
  go_cut [] (fun wx => ∃ p : Nat → Int, Hid (LR w wx cb A n c r p))
  case first =>
    cases bo with
    | false =>
      go_wp2
      go_meet
      exact ⟨_, L1⟩
    | true =>
      have hR := Lib.hid (HB.out.1 rfl)
      have rc0 : _ = some (Value.slice A n c) := L1.out.2.1.2.2 0 (by omega)
      have rc1 : _ = some (Value.int .i64 (r 1)) := L1.out.2.1.2.2 1 (by omega)
      have rc2 : _ = some (Value.int .i64 (r 2)) := L1.out.2.1.2.2 2 (by omega)
      have rc3 : _ = some (Value.int .i64 (r 3)) := L1.out.2.1.2.2 3 (by omega)
      have rc4 : _ = some (Value.int .i64 (r 4)) := L1.out.2.1.2.2 4 (by omega)
      have rc5 : _ = some (Value.int .i64 (r 5)) := L1.out.2.1.2.2 5 (by omega)
      have rc6 : _ = some (Value.int .i64 (r 6)) := L1.out.2.1.2.2 6 (by omega)
      have rc7 : _ = some (Value.int .i64 (r 7)) := L1.out.2.1.2.2 7 (by omega)
      have rc8 : _ = some (Value.int .i64 (r 8)) := L1.out.2.1.2.2 8 (by omega)
      go_wp2_with fail
      refine (l6Right_any cb A n c es r now _ (Drew.cur L1.out.2.2.2) hR.out).mono ?_
      rintro y w2 ⟨q, rfl, _, d2⟩
      have L2 := Lib.hid (L1.out.drew hlt d2)
      clear d2
      have c0 := L2.out.1.2.2 0 (by omega)
      have c1 := L2.out.1.2.2 1 (by omega)
      have c2 := L2.out.1.2.2 2 (by omega)
      have c3 := L2.out.1.2.2 3 (by omega)
      have c4 := L2.out.1.2.2 4 (by omega)
      have c5 := L2.out.1.2.2 5 (by omega)
      have c6 := L2.out.1.2.2 6 (by omega)
      have c7 := L2.out.1.2.2 7 (by omega)
      have c8 := L2.out.1.2.2 8 (by omega)
      have c9 := L2.out.1.2.2 9 (by omega)
      have f0 := L2.out.1.2.1 0
      have f1 := L2.out.1.2.1 1
      have f2 := L2.out.1.2.1 2
      have f3 := L2.out.1.2.1 3
      have f4 := L2.out.1.2.1 4
      have f5 := L2.out.1.2.1 5
      have f6 := L2.out.1.2.1 6
      have f7 := L2.out.1.2.1 7
      have f8 := L2.out.1.2.1 8
      have f9 := L2.out.1.2.1 9
      simp only [ints] at c0 c1 c2 c3 c4 c5 c6 c7 c8 c9
      go_wp2
      go_meet
      exact ⟨_, Lib.hid ((((((((((L2.out.set hlt (q 0) (show 0 < 10 by omega)).set hlt (q 1) (show 1 < 10 by omega)).set hlt (q 2) (show 2 < 10 by omega)).set hlt (q 3) (show 3 < 10 by omega)).set hlt (q 4) (show 4 < 10 by omega)).set hlt (q 5) (show 5 < 10 by omega)).set hlt (q 6) (show 6 < 10 by omega)).set hlt (q 7) (show 7 < 10 by omega)).set hlt (q 8) (show 8 < 10 by omega)).set hlt (q 9) (show 9 < 10 by omega))⟩
  case rest =>
    obtain ⟨p, HL⟩ := hcut
    go_wp2_with fail
    refine (l1PickIntS cb _ 9 9 _ _ (Drew.cur (Drew.alloc _ HL.out.2.2.2)) (rd_litsb _ _ [-1, 0, 2, 5, 7, 1000000, 1000001, 9223372036854775807, -9223372036854775808] _ (by (first | omega | (simp; omega) | simp))) (by omega) (by omega) (by rintro a ⟨⟩; have hs := HL.out.2.2.2.2.size; dsimp only; omega)).mono ?_
    rintro y w3 ⟨x, rfl, -, d3, -⟩
    have L3 := Lib.hid ((HL.out.below ((Below.refl _ _).alloc (Nat.le_refl _) _)).drew hlt d3)
    clear d3
    go_wp2_with fail
    refine (l1BelowS cb 24 _ (Drew.cur L3.out.2.2.2)).mono ?_
    rintro y w4 ⟨v, rfl, ⟨v0, v1, _⟩, d4, -⟩
    have v2 := v1 (by omega)
    clear v1
    have L4 := Lib.hid (L3.out.drew hlt d4)
    clear d4
    go_upto_block 0 with fail
    go_cut [] (fun wx => ∃ p : Nat → Int, Hid (LR w wx cb A n c r p))
    case first =>
      have c0 := L4.out.1.2.2 0 (by omega)
      have c1 := L4.out.1.2.2 1 (by omega)
      have c2 := L4.out.1.2.2 2 (by omega)
      have c3 := L4.out.1.2.2 3 (by omega)
      have c4 := L4.out.1.2.2 4 (by omega)
      have c5 := L4.out.1.2.2 5 (by omega)
      have c6 := L4.out.1.2.2 6 (by omega)
      have c7 := L4.out.1.2.2 7 (by omega)
      have c8 := L4.out.1.2.2 8 (by omega)
      have c9 := L4.out.1.2.2 9 (by omega)
      have f0 := L4.out.1.2.1 0
      have f1 := L4.out.1.2.1 1
      have f2 := L4.out.1.2.1 2
      have f3 := L4.out.1.2.1 3
      have f4 := L4.out.1.2.1 4
      have f5 := L4.out.1.2.1 5
      have f6 := L4.out.1.2.1 6
      have f7 := L4.out.1.2.1 7
      have f8 := L4.out.1.2.1 8
      have f9 := L4.out.1.2.1 9
      simp only [ints] at c0 c1 c2 c3 c4 c5 c6 c7 c8 c9
      by_cases e0 : v = 0
      · subst e0
        clear c1 f1 c2 f2 c3 f3 c4 f4 c5 f5 c6 f6 c7 f7 c8 f8 c9 f9 c0 f0
        go_wp2_with fail
        refine (l1PickIntS cb _ 4 4 _ _ (Drew.cur (Drew.alloc _ L4.out.2.2.2)) (rd_litsb _ _ [0, 999, 1000, -1] _ (by (first | omega | (simp; omega) | simp))) (by omega) (by omega) (by rintro a ⟨⟩; have hs := L4.out.2.2.2.2.size; dsimp only; omega)).mono ?_
        rintro y w5 ⟨z, rfl, -, d5, -⟩
        have L5 := Lib.hid ((L4.out.below ((Below.refl _ _).alloc (Nat.le_refl _) _)).drew hlt d5)
        clear d5
        have c0 := L5.out.1.2.2 0 (by omega)
        have f0 := L5.out.1.2.1 0
        simp only [ints] at c0
        go_wp2
        go_meet
        exact ⟨_, Lib.hid (L5.out.set hlt z (show 0 < 10 by omega))⟩
      by_cases e1 : v = 1
      · subst e1
        clear c0 f0 c2 f2 c3 f3 c4 f4 c5 f5 c6 f6 c7 f7 c8 f8 c9 f9
        go_wp2
        go_meet
        exact ⟨_, Lib.hid (L4.out.set hlt x (show 1 < 10 by omega))⟩
      by_cases e2 : v = 2
      · subst e2
        clear c0 f0 c1 f1 c3 f3 c4 f4 c5 f5 c6 f6 c7 f7 c8 f8 c9 f9
        go_wp2
        go_meet
        exact ⟨_, Lib.hid (L4.out.set hlt x (show 2 < 10 by omega))⟩
      by_cases e3 : v = 3
      · subst e3
        clear c0 f0 c1 f1 c2 f2 c4 f4 c5 f5 c6 f6 c7 f7 c8 f8 c9 f9
        go_wp2
        go_meet
        exact ⟨_, Lib.hid (L4.out.set hlt x (show 3 < 10 by omega))⟩
      by_cases e4 : v = 4
      · subst e4
        clear c0 f0 c1 f1 c2 f2 c3 f3 c5 f5 c6 f6 c7 f7 c8 f8 c9 f9
        go_wp2
        go_meet
        exact ⟨_, Lib.hid (L4.out.set hlt x (show 4 < 10 by omega))⟩
      by_cases e5 : v = 5
      · subst e5
        clear c0 f0 c1 f1 c2 f2 c3 f3 c4 f4 c6 f6 c7 f7 c8 f8 c9 f9
        go_wp2
        go_meet
        exact ⟨_, Lib.hid (L4.out.set hlt x (show 5 < 10 by omega))⟩
      by_cases e6 : v = 6
      · subst e6
        clear c0 f0 c1 f1 c2 f2 c3 f3 c4 f4 c5 f5 c7 f7 c8 f8 c9 f9
        go_wp2
        go_meet
        exact ⟨_, Lib.hid (L4.out.set hlt x (show 6 < 10 by omega))⟩
      by_cases e7 : v = 7
      · subst e7
        clear c0 f0 c1 f1 c2 f2 c3 f3 c4 f4 c5 f5 c6 f6 c8 f8 c9 f9
        go_wp2
        go_meet
        exact ⟨_, Lib.hid (L4.out.set hlt x (show 7 < 10 by omega))⟩
      by_cases e8 : v = 8
      · subst e8
        clear c0 f0 c1 f1 c2 f2 c3 f3 c4 f4 c5 f5 c6 f6 c7 f7 c9 f9
        go_wp2
        go_meet
        exact ⟨_, Lib.hid (L4.out.set hlt x (show 8 < 10 by omega))⟩
      by_cases e9 : v = 9
      · subst e9
        clear c0 f0 c1 f1 c2 f2 c3 f3 c4 f4 c5 f5 c6 f6 c7 f7 c8 f8
        go_wp2
        go_meet
        exact ⟨_, Lib.hid (L4.out.set hlt x (show 9 < 10 by omega))⟩
      clear c0 f0 c1 f1 c2 f2 c3 f3 c4 f4 c5 f5 c6 f6 c7 f7 c8 f8 c9 f9
      go_wp2
      go_meet
      exact ⟨_, L4⟩
    case rest =>
      obtain ⟨p2, HL2⟩ := hcut
      have c0 : _ = some (Value.int .i64 (p2 0)) := HL2.out.1.2.2 0 (by omega)
      have c1 : _ = some (Value.int .i64 (p2 1)) := HL2.out.1.2.2 1 (by omega)
      have c2 : _ = some (Value.int .i64 (p2 2)) := HL2.out.1.2.2 2 (by omega)
      have c3 : _ = some (Value.int .i64 (p2 3)) := HL2.out.1.2.2 3 (by omega)
      have c4 : _ = some (Value.int .i64 (p2 4)) := HL2.out.1.2.2 4 (by omega)
      have c5 : _ = some (Value.int .i64 (p2 5)) := HL2.out.1.2.2 5 (by omega)
      have c6 : _ = some (Value.int .i64 (p2 6)) := HL2.out.1.2.2 6 (by omega)
      have c7 : _ = some (Value.int .i64 (p2 7)) := HL2.out.1.2.2 7 (by omega)
      have c8 : _ = some (Value.int .i64 (p2 8)) := HL2.out.1.2.2 8 (by omega)
      have c9 : _ = some (Value.int .i64 (p2 9)) := HL2.out.1.2.2 9 (by omega)
      have z0 : _ = some (Value.int .i64 0) := HL2.out.2.2.1.2.2 0 (by omega)
      have z1 : _ = some (Value.int .i64 0) := HL2.out.2.2.1.2.2 1 (by omega)
      have z2 : _ = some (Value.int .i64 0) := HL2.out.2.2.1.2.2 2 (by omega)
      have z3 : _ = some (Value.int .i64 0) := HL2.out.2.2.1.2.2 3 (by omega)
      have z4 : _ = some (Value.int .i64 0) := HL2.out.2.2.1.2.2 4 (by omega)
      have z5 : _ = some (Value.int .i64 0) := HL2.out.2.2.1.2.2 5 (by omega)
      have z6 : _ = some (Value.int .i64 0) := HL2.out.2.2.1.2.2 6 (by omega)
      have z7 : _ = some (Value.int .i64 0) := HL2.out.2.2.1.2.2 7 (by omega)
      have z8 : _ = some (Value.int .i64 0) := HL2.out.2.2.1.2.2 8 (by omega)
      have z9 : _ = some (Value.int .i64 0) := HL2.out.2.2.1.2.2 9 (by omega)
      have y0 := HL2.out.2.2.1.2.1 0
      have y1 := HL2.out.2.2.1.2.1 1
      have y2 := HL2.out.2.2.1.2.1 2
      have y3 := HL2.out.2.2.1.2.1 3
      have y4 := HL2.out.2.2.1.2.1 4
      have y5 := HL2.out.2.2.1.2.1 5
      have y6 := HL2.out.2.2.1.2.1 6
      have y7 := HL2.out.2.2.1.2.1 7
      have y8 := HL2.out.2.2.1.2.1 8
      have y9 := HL2.out.2.2.1.2.1 9
      go_wp2
      refine bodyPost_ret (v := .agg #[.int .i64 (p2 0), .int .i64 (p2 1), .int .i64 (p2 2), .int .i64 (p2 3), .int .i64 (p2 4), .int .i64 (p2 5), .int .i64 (p2 6), .int .i64 (p2 7), .int .i64 (p2 8), .int .i64 (p2 9)]) (by simp only [results, Try.results63]; (first | (go_simp; done) | (go_simp; omega))) rfl ⟨p2, rfl, trivial, ?_⟩
      have HD := HL2.out.2.2.2
      (repeat (first | with_reducible exact HD | (with_reducible refine Drew.set hlt ?_ ?_; (first | omega | (simp; omega) | simp))))
end Go.Proofs.Ytccabkmmlddenaa
