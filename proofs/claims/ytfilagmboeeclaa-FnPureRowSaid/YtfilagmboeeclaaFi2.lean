/-
  Weak contracts of the functions that draw lists. No conditions beyond those stated.
-/
import Derived.Test.YtfilagmboeeclaaFi1
import Derived.Test.YtfilagmboeeclaaTp
namespace Go.Proofs.Ytfilagmboeeclaa
open Go.RowKit

set_option maxRecDepth 100000 in
set_option maxHeartbeats 4000000 in
theorem l7Right_any (cb : Nat) (w : World) (h : Cur w cb) :
    Calls Try.prog 21 #[.pointer (some ⟨cb, 0, none⟩)] w fun y w' => ∃ v, y = .returned v ∧ ∃ n, n ≤ 14 ∧ (∃ es : List (Nat → Int), es.length = n ∧ w'.ownsRow w.heap.size 26 4 v n (flat 4 es)) ∧ Drew w cb w' := by
  have hlt := h.lt
  have HC := Lib.hid h
  clear h
  go_enter Try.func21, Try.ntmps21
  go_wp2_with fail
  refine (l1Below_any cb 9 _ (by first | with_reducible exact HC.out | (with_reducible refine HC.out.below ?_; (repeat (first | with_reducible exact Below.refl _ _ | with_reducible refine Below.drew ?_ | with_reducible refine below_drewN ?_ _ | (with_reducible refine bel_alloc ?_ ?_ _; (first | omega | (simp; omega) | simp)) | (with_reducible refine bel_set ?_ ?_ _; (first | omega | (simp; omega) | simp)) | (with_reducible refine bel_tr (by assumption) ?_ ?_; (first | omega | (simp; omega) | simp))))))).mono ?_
  rintro y w1 ⟨x, rfl, ⟨hx0, hx1, _⟩, d1⟩
  have hx9 := hx1 (by omega)
  have s1 := d1.2.size
  (try simp at s1)
  have row0 : w1.ownsRow w.heap.size 26 4 (.slice (some ⟨w.heap.size, 0, none⟩) 0 0) 0 (flat 4 []) := row_drew (row_empty w _ 4) d1 hlt
  have D1 : Hid (Drew w cb w1) := Drew.trans (by (repeat (first | with_reducible assumption | (with_reducible refine Drew.set hlt ?_ ?_; (first | omega | (simp; omega) | simp)) | with_reducible refine Drew.alloc _ ?_ | with_reducible refine Drew.drewN _ ?_ | with_reducible exact Cur.drew_below HC.out (Below.refl _ _)))) d1
  have R1 := Lib.hid row0
  have C1 := Lib.hid d1.1
  clear d1 row0 hx1
  go_wp2_with fail
  refine (l1Once_any cb 12 _ C1.out).mono ?_
  rintro y w2 ⟨b, rfl, d2⟩
  have s2 := d2.2.size
  have D2 : Hid (Drew w cb w2) := D1.out.trans d2
  have R2 := Lib.hid (row_drew R1.out d2 hlt)
  have C2 := Lib.hid d2.1
  clear d2
  cases b
  · go_wp2
    go_loopw [3, 5] (fun v i wr => ∃ (k N : Nat) (es : List (Nat → Int)), (k : Int) ≤ x ∧ i = .int .i64 k ∧ N ≤ k ∧ es.length = N ∧ Hid (wr.ownsRow w.heap.size 26 4 v N (flat 4 es)) ∧ Hid (Drew w cb wr) ∧ w.heap.size ≤ wr.heap.size) (fun _ i _ => 14 - (intOf i).toNat)
    case atStart => exact ⟨0, 0, [], by omega, rfl, by omega, rfl, R2, D2, by omega⟩
    case round =>
      obtain ⟨k, N, es, hk, rfl, hNk, hl, HO, HD, hs⟩ := hrel
      obtain ⟨A, c, rfl, h1, h2, ho⟩ := own_of_row_cap hl HO.out
      have HX := Lib.hid ho
      clear ho
      by_cases hlt2 : (k : Int) < x
      · go_wp2_with fail
        refine (l7Entry_any cb _ HD.out.1).mono ?_
        rintro y w4 ⟨e, rfl, d4⟩
        have D4 : Hid (Drew w cb w4) := HD.out.trans d4
        have s4 := d4.2.size
        have RD4 : Hid (Rd w4 4 A N es) := (HX.out.drew_c d4 hlt).rd
        clear d4
        have h9 : ¬ 9 < x := by omega
        go_wp2_with fail
        obtain ⟨T', N', bv, hR, hN, hlen⟩ := putR_ex es e N hl
        have HR := Lib.hid hR
        clear hR
        refine (sQueuePut_row A N c N' es T' e bv _ (by omega) h1 h2 HR.out (RD4.out.below (by (repeat (first | with_reducible exact Below.refl _ _ | with_reducible refine Below.drew ?_ | with_reducible refine below_drewN ?_ _ | (with_reducible refine bel_alloc ?_ ?_ _; (first | omega | (simp; omega) | simp)) | (with_reducible refine bel_set ?_ ?_ _; (first | omega | (simp; omega) | simp)) | (with_reducible refine bel_tr (by assumption) ?_ ?_; (first | omega | (simp; omega) | simp))))))).mono ?_
        rintro y w5 ⟨v5, rfl, r5, b5⟩
        have s5 := b5.size
        (try simp at s5)
        have D5 : Hid (Drew w cb w5) := Drew.below hlt (show Drew w cb _ by (have D4' := D4.out; (repeat (first | with_reducible assumption | (with_reducible refine Drew.set hlt ?_ ?_; (first | omega | (simp; omega) | simp)) | with_reducible refine Drew.alloc _ ?_ | with_reducible refine Drew.drewN _ ?_ | with_reducible exact Cur.drew_below HC.out (Below.refl _ _))))) (b5.mono (by (first | omega | (simp; omega) | simp)))
        have R5 : Hid (w5.ownsRow w.heap.size 26 4 v5 N' (flat 4 T')) := World.ownsRow.lower r5 (by (first | omega | (simp; omega) | simp))
        clear r5
        go_wp2
        go_roundw
        case rel => exact ⟨k + 1, N', T', by omega, by go_num, by omega, hN, R5, D5, by omega⟩
        case measure => simp [intOf]; omega
      · go_wp2
        go_ret
        exact ⟨.slice A N c, rfl, N, by omega, ⟨es, hl, HO.out⟩, HD.out⟩
  · go_wp2_with fail
    refine (l1Below_any cb 4 _ C2.out).mono ?_
    rintro y w3 ⟨x3, rfl, ⟨hy0, hy1, _⟩, d3⟩
    have hy4 := hy1 (by omega)
    have s3 := d3.2.size
    have D3 : Hid (Drew w cb w3) := D2.out.trans d3
    have R3 := Lib.hid (row_drew R2.out d3 hlt)
    clear d3 hy1
    go_wp2
    go_loopw [3, 5] (fun v i wr => ∃ (k N : Nat) (es : List (Nat → Int)), (k : Int) ≤ 10 + x3 ∧ i = .int .i64 k ∧ N ≤ k ∧ es.length = N ∧ Hid (wr.ownsRow w.heap.size 26 4 v N (flat 4 es)) ∧ Hid (Drew w cb wr) ∧ w.heap.size ≤ wr.heap.size) (fun _ i _ => 14 - (intOf i).toNat)
    case atStart => exact ⟨0, 0, [], by omega, rfl, by omega, rfl, R3, D3, by omega⟩
    case round =>
      obtain ⟨k, N, es, hk, rfl, hNk, hl, HO, HD, hs⟩ := hrel
      obtain ⟨A, c, rfl, h1, h2, ho⟩ := own_of_row_cap hl HO.out
      have HX := Lib.hid ho
      clear ho
      by_cases hlt2 : (k : Int) < 10 + x3
      · go_wp2_with fail
        refine (l7Entry_any cb _ HD.out.1).mono ?_
        rintro y w4 ⟨e, rfl, d4⟩
        have D4 : Hid (Drew w cb w4) := HD.out.trans d4
        have s4 := d4.2.size
        have RD4 : Hid (Rd w4 4 A N es) := (HX.out.drew_c d4 hlt).rd
        clear d4
        have h9 : 9 < 10 + x3 := by omega
        go_wp2_with fail
        obtain ⟨T', N', bv, hR, hN, hlen⟩ := putR_ex es (fun j => [e 0, e 1, 100 + (k : Int), e 3].getD j 0) N hl
        have HR := Lib.hid hR
        clear hR
        refine (sQueuePut_row A N c N' es T' (fun j => [e 0, e 1, 100 + (k : Int), e 3].getD j 0) bv _ (by omega) h1 h2 HR.out (RD4.out.below (by (repeat (first | with_reducible exact Below.refl _ _ | with_reducible refine Below.drew ?_ | with_reducible refine below_drewN ?_ _ | (with_reducible refine bel_alloc ?_ ?_ _; (first | omega | (simp; omega) | simp)) | (with_reducible refine bel_set ?_ ?_ _; (first | omega | (simp; omega) | simp)) | (with_reducible refine bel_tr (by assumption) ?_ ?_; (first | omega | (simp; omega) | simp))))))).mono ?_
        rintro y w5 ⟨v5, rfl, r5, b5⟩
        have s5 := b5.size
        (try simp at s5)
        have D5 : Hid (Drew w cb w5) := Drew.below hlt (show Drew w cb _ by (have D4' := D4.out; (repeat (first | with_reducible assumption | (with_reducible refine Drew.set hlt ?_ ?_; (first | omega | (simp; omega) | simp)) | with_reducible refine Drew.alloc _ ?_ | with_reducible refine Drew.drewN _ ?_ | with_reducible exact Cur.drew_below HC.out (Below.refl _ _))))) (b5.mono (by (first | omega | (simp; omega) | simp)))
        have R5 : Hid (w5.ownsRow w.heap.size 26 4 v5 N' (flat 4 T')) := World.ownsRow.lower r5 (by (first | omega | (simp; omega) | simp))
        clear r5
        go_wp2
        go_roundw
        case rel => exact ⟨k + 1, N', T', by omega, by go_num, by omega, hN, R5, D5, by omega⟩
        case measure => simp [intOf]; omega
      · go_wp2
        go_ret
        exact ⟨.slice A N c, rfl, N, by omega, ⟨es, hl, HO.out⟩, HD.out⟩
end Go.Proofs.Ytfilagmboeeclaa
