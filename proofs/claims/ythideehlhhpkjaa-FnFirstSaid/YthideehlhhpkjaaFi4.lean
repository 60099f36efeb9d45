/-
  Contracts of times, hasInt, DrawFirstFit and the walk of the law FnFirst. No conditions beyond those stated.
-/
import Derived.Test.YthideehlhhpkjaaFi3
import Derived.Test.YthideehlhhpkjaaFf
import Derived.Test.YthideehlhhpkjaaBy
namespace Go.Proofs.Ythideehlhhpkjaa
open Go.RowKit

theorem hasN_succ (ss : List (Nat → Int)) (k : Nat) (x : Int) : hasN ss (k + 1) x = (hasN ss k x || fld ss k 0 == x) := by
  unfold hasN
  rw [List.range_succ, List.any_append]
  simp

set_option maxHeartbeats 1000000 in
theorem times_any (A : Option Addr) (m c : Nat) (x : Int) (ss : List (Nat → Int)) (w : World) (hm : m ≤ 4194304) (h : Rd w 1 A m ss) :
    Calls Try.prog 74 #[.slice A m c, .int .i64 x] w fun y w' => (∃ r : Int, y = .returned (.int .i64 r) ∧ decide (0 < r) = hasN ss m x) ∧ w = w' := by
  have hcases := h.2
  clear h
  go_enter Try.func74, Try.ntmps74
  go_wp2
  go_loop [5, 6] (fun a i => ∃ (k : Nat) (r : Int), k ≤ m ∧ i = .int .i64 k ∧ a = .int .i64 r ∧ 0 ≤ r ∧ r ≤ k ∧ Hid (decide (0 < r) = hasN ss k x)) (fun _ i => m - (intOf i).toNat)
  case atStart => exact ⟨0, 0, Nat.zero_le _, rfl, rfl, by omega, by omega, by simp [Hid, hasN]⟩
  case round =>
    obtain ⟨k, r, hk, rfl, rfl, hr0, hr1, HQ⟩ := hrel
    by_cases hlt : k < m
    · obtain ⟨b, off, rfl, hb, hc⟩ := hcases.resolve_left (by omega)
      have c0 : w.cell? ⟨b, off + k, none⟩ = some (.int .i64 (fld ss k 0)) := by
        have := hc k hlt 0 (by omega)
        simpa using this
      have hki : (k : Int) < (m : Int) := by omega
      clear hcases hc
      rcases Bool.eq_false_or_eq_true (fld ss k 0 == x) with hp | hp
      · have HQ1 : Hid (decide (0 < r + 1) = hasN ss (k + 1) x) := by
          rw [hasN_succ, hp]
          simp [Hid]
          omega
        clear HQ
        go_wp2
        go_round
        case rel => exact ⟨k + 1, r + 1, by omega, by go_num, by go_num, by omega, by omega, HQ1⟩
        case measure => simp [intOf]; omega
      · have HQ1 : Hid (decide (0 < r) = hasN ss (k + 1) x) := by
          rw [hasN_succ, hp, HQ.out]
          simp [Hid]
        clear HQ
        go_wp2
        go_round
        case rel => exact ⟨k + 1, r, by omega, by go_num, rfl, by omega, by omega, HQ1⟩
        case measure => simp [intOf]; omega
    · have hkm : k = m := by omega
      have HQ1 : Hid (decide (0 < r) = hasN ss m x) := hkm ▸ HQ
      have hki : ¬ (k : Int) < (m : Int) := by omega
      clear HQ
      go_wp2
      go_ret
      exact ⟨⟨r, rfl, HQ1.out⟩, rfl⟩

set_option maxHeartbeats 400000 in
theorem hasInt_any (A : Option Addr) (m c : Nat) (x : Int) (ss : List (Nat → Int)) (w : World) (hm : m ≤ 4194304) (h : Rd w 1 A m ss) :
    Calls Try.prog 35 #[.slice A m c, .int .i64 x] w fun y w' => y = .returned (.bool (hasN ss m x)) ∧ w = w' := by
  have H := Lib.hid h
  clear h
  go_enter Try.func35, Try.ntmps35
  go_wp2_with fail
  refine (times_any A m c x ss _ hm H.out).mono ?_
  rintro y w1 ⟨⟨r, rfl, hr⟩, rfl⟩
  have HR := Lib.hid hr
  clear hr
  go_wp2
  go_ret
  exact ⟨by rw [← HR.out]; rfl, rfl⟩

theorem hasInt_is (A : Option Addr) (m c : Nat) (x : Int) (ss : List (Nat → Int)) (w : World) (bv : Bool) (hm : m ≤ 4194304) (h : Rd w 1 A m ss) (hb : hasN ss m x = bv) :
    Calls Try.prog 35 #[.slice A m c, .int .i64 x] w fun y w' => y = .returned (.bool bv) ∧ w = w' := hb ▸ hasInt_any A m c x ss w hm h

set_option maxRecDepth 100000 in
set_option maxHeartbeats 4000000 in
theorem drawFF_any (A : Option Addr) (n c : Nat) (w : World) (hn : n ≤ 1048576) (h : RdB w A n) :
    Calls Try.prog 34 #[.slice A n c] w fun y w' => ∃ A1 N c1 x A2 m c2, y = .returned (.tuple #[.slice A1 N c1, .int .i64 x, .slice A2 m c2]) ∧ N ≤ 15 ∧ m ≤ 4 ∧ (∃ es, Rd w' 4 A1 N es) ∧ (∃ ss, Rd w' 1 A2 m ss) ∧ Below w.heap.size w w' := by
  have HB := Lib.hid h
  clear h
  go_enter Try.func34, Try.ntmps34
  go_wp2_with fail
  refine (l1New_any A n c _ hn HB.out).mono ?_
  rintro y w1 ⟨rfl, hc1, b1⟩
  have s1 := b1.size
  have hlt1 := hc1.lt
  have C1 := Lib.hid hc1
  clear hc1
  go_wp2_with fail
  refine (l7Draw_any _ _ C1.out).mono ?_
  rintro y w2 ⟨A1, N, c1, rfl, hN, hc1, hc1', ⟨es, o2⟩, d2⟩
  have s2 := d2.2.size
  have O2 := Lib.hid o2
  have D2 := Lib.hid d2
  clear o2 d2
  go_wp2_with fail
  refine (l1PickInt_any _ _ 10 10 _ _ (D2.out.1.below (by (repeat (first | with_reducible exact Below.refl _ _ | with_reducible refine Below.drew ?_ | with_reducible refine below_drewN ?_ _ | (with_reducible refine bel_alloc ?_ ?_ _; (first | omega | (simp; omega) | simp)) | (with_reducible refine bel_set ?_ ?_ _; (first | omega | (simp; omega) | simp)) | (with_reducible refine bel_tr (by assumption) ?_ ?_; (first | omega | (simp; omega) | simp)))))) (rd_litsb _ _ [0, 1, 2, 3, 4, 5, 6, 60, -1, 9223372036854775807] _ (by (first | omega | (simp; omega) | simp))) (by omega) (by omega) (by rintro a ⟨⟩; show _ ≠ _; (first | omega | (simp; omega) | simp))).mono ?_
  rintro y w3 ⟨x, rfl, _, d3⟩
  have s3 := d3.2.size
  (try simp at s3)
  have D3 := Lib.hid d3
  clear d3
  go_wp2_with fail
  refine (l7Skip_any _ _ D3.out.1).mono ?_
  rintro y w4 ⟨A2, m, c2, rfl, hm, _, _, ⟨ss, o4⟩, d4⟩
  have s4 := d4.2.size
  have O4 := Lib.hid o4
  have D4 := Lib.hid d4
  clear o4 d4
  go_wp2
  go_ret3
  have b4 : Below w.heap.size w w4 := ((b1.trans (D2.out.toBelow s1 (Nat.le_refl _))).trans (Below.trans (Below.alloc (Below.refl _ _) (by omega) _) (D3.out.toBelow (by simp; omega) (Nat.le_refl _)))).trans (D4.out.toBelow (by omega) (Nat.le_refl _))
  have r2 : Rd w4 4 A1 N es := ((Own.alloc_ O2.out _).drew_c D3.out hlt1 |>.drew_c D4.out hlt1).rd
  exact ⟨A1, N, c1, x, A2, m, c2, rfl, hN, hm, ⟨es, r2⟩, ⟨ss, O4.out.rd⟩, b4⟩
end Go.Proofs.Ythideehlhhpkjaa
