/-
  Contracts of the functions that copy, compare, mark and check slices of structs. No conditions beyond those stated.
-/
import Derived.Test.YtjlmcppkafjniaaGreatMk
namespace Go.Proofs.YtjlmcppkafjniaaGreat
open Go.RowKit

set_option maxHeartbeats 400000 in
theorem toParty_any (e : Nat → Int) (w : World) :
    Calls Tryz.prog 59 #[.agg #[.int .i64 (e 0), .int .i64 (e 1), .int .i64 (e 2), .int .i64 (e 3), .int .i64 (e 4), .int .i64 (e 5), .int .i64 (e 6), .int .i64 (e 7), .int .i64 (e 8), .int .i64 (e 9)]] w fun x w' => x = .returned (.agg #[.int .i64 (e 0), .int .i64 (e 1), .int .i64 (e 2), .int .i64 (e 3), .int .i64 (e 4), .int .i64 (e 5), .int .i64 (e 6), .int .i64 (e 7), .int .i64 (e 8), .int .i64 (e 9)]) ∧ Below w.heap.size w w' := by
  go_enter Tryz.func59, Tryz.ntmps59
  go_wp2
  refine bodyPost_ret (v := .agg #[.int .i64 (e 0), .int .i64 (e 1), .int .i64 (e 2), .int .i64 (e 3), .int .i64 (e 4), .int .i64 (e 5), .int .i64 (e 6), .int .i64 (e 7), .int .i64 (e 8), .int .i64 (e 9)]) (by simp [results, Tryz.results59, go_sem]) rfl ⟨rfl, ?_⟩
  (repeat (first | with_reducible exact Below.refl _ _ | with_reducible refine Below.drew ?_ | with_reducible refine below_drewN ?_ _ | (with_reducible refine bel_alloc ?_ ?_ _; (first | omega | (simp; omega) | simp)) | (with_reducible refine bel_set ?_ ?_ _; (first | omega | (simp; omega) | simp)) | (with_reducible refine bel_tr (by assumption) ?_ ?_; (first | omega | (simp; omega) | simp))))

theorem toPartyS_info : (Tryz.prog.info? 71).map (fun i => (i.zero, i.size, i.bytes)) = some (some (.agg #[.int .i64 0, .int .i64 0, .int .i64 0, .int .i64 0, .int .i64 0, .int .i64 0, .int .i64 0, .int .i64 0, .int .i64 0, .int .i64 0]), 10, 80) := by kernel_rfl
set_option maxRecDepth 100000 in
set_option maxHeartbeats 1000000 in
theorem toPartyS_n (A : Option Addr) (n c : Nat) (es : List (Nat → Int)) (w : World) (hn : n ≤ 1048576) (h : Rd w 10 A n es) :
    Calls Tryz.prog 19 #[.slice A n c] w fun x w' => ∃ A', x = .returned (.slice A' n n) ∧ Own w.heap.size w' 10 A' n es ∧ Below w.heap.size w w' := by
  obtain ⟨i0, hi0, hz0, hz1, hz2⟩ := info_parts toPartyS_info
  have hb0 : i0.bytes * n ≤ 281474976710656 := by rw [hz2]; omega
  have HL := Lib.hid h.1
  have hcases := h.2
  clear h
  go_enter Tryz.func19, Tryz.ntmps19
  go_wp2_with (at_make; refine wpList_make_full _ rfl _ _ 38 rfl w.heap.size 71 i0 _ 10 Tryz.underlying38 hi0 hz0 hz1 .i64 .i64 _ _ n rfl rfl rfl rfl hb0 (by unfold maxLen; omega) (by simp) ?_; intro w1 hown hgr)
  have hfill0 := Fill.start (g := w.heap.size) (es := es) (Below.refl w.heap.size w) (Nat.le_refl _) rfl hown hgr
  clear hown hgr hi0 hz0 hz1 hz2 hb0
  go_wp2
  go_loopw [4] (fun i wr => ∃ k : Nat, k ≤ n ∧ i = .int .i64 k ∧ Fill w.heap.size w.heap.size 10 n w wr k es) (fun i _ => n - (intOf i).toNat)
  case atStart => exact ⟨0, Nat.zero_le _, rfl, hfill0⟩
  case round =>
    obtain ⟨k, hk, rfl, hfill⟩ := hrel
    clear hfill0
    by_cases hlt : k < n
    · obtain ⟨b, off, rfl, hb, hc⟩ := hcases.resolve_left (by omega)
      have c0 : wr.cell? ⟨b, off + k * 10, none⟩ = some (.int .i64 (fld es k 0)) := (hfill.below.cell (p := ⟨b, off + k * 10, none⟩) hb).trans (hc k hlt 0 (by omega))
      have c1 : wr.cell? ⟨b, off + k * 10 + 1, none⟩ = some (.int .i64 (fld es k 1)) := (hfill.below.cell (p := ⟨b, off + k * 10 + 1, none⟩) hb).trans (hc k hlt 1 (by omega))
      have c2 : wr.cell? ⟨b, off + k * 10 + 2, none⟩ = some (.int .i64 (fld es k 2)) := (hfill.below.cell (p := ⟨b, off + k * 10 + 2, none⟩) hb).trans (hc k hlt 2 (by omega))
      have c3 : wr.cell? ⟨b, off + k * 10 + 3, none⟩ = some (.int .i64 (fld es k 3)) := (hfill.below.cell (p := ⟨b, off + k * 10 + 3, none⟩) hb).trans (hc k hlt 3 (by omega))
      have c4 : wr.cell? ⟨b, off + k * 10 + 4, none⟩ = some (.int .i64 (fld es k 4)) := (hfill.below.cell (p := ⟨b, off + k * 10 + 4, none⟩) hb).trans (hc k hlt 4 (by omega))
      have c5 : wr.cell? ⟨b, off + k * 10 + 5, none⟩ = some (.int .i64 (fld es k 5)) := (hfill.below.cell (p := ⟨b, off + k * 10 + 5, none⟩) hb).trans (hc k hlt 5 (by omega))
      have c6 : wr.cell? ⟨b, off + k * 10 + 6, none⟩ = some (.int .i64 (fld es k 6)) := (hfill.below.cell (p := ⟨b, off + k * 10 + 6, none⟩) hb).trans (hc k hlt 6 (by omega))
      have c7 : wr.cell? ⟨b, off + k * 10 + 7, none⟩ = some (.int .i64 (fld es k 7)) := (hfill.below.cell (p := ⟨b, off + k * 10 + 7, none⟩) hb).trans (hc k hlt 7 (by omega))
      have c8 : wr.cell? ⟨b, off + k * 10 + 8, none⟩ = some (.int .i64 (fld es k 8)) := (hfill.below.cell (p := ⟨b, off + k * 10 + 8, none⟩) hb).trans (hc k hlt 8 (by omega))
      have c9 : wr.cell? ⟨b, off + k * 10 + 9, none⟩ = some (.int .i64 (fld es k 9)) := (hfill.below.cell (p := ⟨b, off + k * 10 + 9, none⟩) hb).trans (hc k hlt 9 (by omega))
      clear hcases hc
      go_wp2_with fail
      refine (toParty_any (fld es k) _).mono ?_
      rintro x w2 ⟨rfl, hb2⟩
      have hfill1 := hfill.call (by have := hfill.below.size; omega) hb2
      have hset := hfill1.set (vs := [.int .i64 (fld es k 0), .int .i64 (fld es k 1), .int .i64 (fld es k 2), .int .i64 (fld es k 3), .int .i64 (fld es k 4), .int .i64 (fld es k 5), .int .i64 (fld es k 6), .int .i64 (fld es k 7), .int .i64 (fld es k 8), .int .i64 (fld es k 9)]) (Nat.le_refl _) hlt rfl (by intro j hj; match j, hj with | 0, _ => rfl | 1, _ => rfl | 2, _ => rfl | 3, _ => rfl | 4, _ => rfl | 5, _ => rfl | 6, _ => rfl | 7, _ => rfl | 8, _ => rfl | 9, _ => rfl)
      obtain ⟨r0, q0⟩ := Option.isSome_iff_exists.1 (hfill1.room (k * 10) (by omega))
      obtain ⟨r1, q1⟩ := Option.isSome_iff_exists.1 (hfill1.room (k * 10 + 1) (by omega))
      obtain ⟨r2, q2⟩ := Option.isSome_iff_exists.1 (hfill1.room (k * 10 + 2) (by omega))
      obtain ⟨r3, q3⟩ := Option.isSome_iff_exists.1 (hfill1.room (k * 10 + 3) (by omega))
      obtain ⟨r4, q4⟩ := Option.isSome_iff_exists.1 (hfill1.room (k * 10 + 4) (by omega))
      obtain ⟨r5, q5⟩ := Option.isSome_iff_exists.1 (hfill1.room (k * 10 + 5) (by omega))
      obtain ⟨r6, q6⟩ := Option.isSome_iff_exists.1 (hfill1.room (k * 10 + 6) (by omega))
      obtain ⟨r7, q7⟩ := Option.isSome_iff_exists.1 (hfill1.room (k * 10 + 7) (by omega))
      obtain ⟨r8, q8⟩ := Option.isSome_iff_exists.1 (hfill1.room (k * 10 + 8) (by omega))
      obtain ⟨r9, q9⟩ := Option.isSome_iff_exists.1 (hfill1.room (k * 10 + 9) (by omega))
      have z0 := hfill1.fz (k * 10)
      have z1 := hfill1.fz (k * 10 + 1)
      have z2 := hfill1.fz (k * 10 + 2)
      have z3 := hfill1.fz (k * 10 + 3)
      have z4 := hfill1.fz (k * 10 + 4)
      have z5 := hfill1.fz (k * 10 + 5)
      have z6 := hfill1.fz (k * 10 + 6)
      have z7 := hfill1.fz (k * 10 + 7)
      have z8 := hfill1.fz (k * 10 + 8)
      have z9 := hfill1.fz (k * 10 + 9)
      clear hfill hfill1 hb2
      go_wp2
      go_roundw
      case rel => exact ⟨k + 1, by omega, by go_num, hset⟩
      case measure => simp [intOf]; omega
    · have hkn : k = n := by omega
      subst hkn
      have hown := hfill.own (Nat.le_refl _) HL.out
      have hbel := hfill.below
      clear hfill hcases
      go_wp2
      go_ret
      exact ⟨_, rfl, hown, hbel⟩
theorem toPartyS_any (A : Option Addr) (n c : Nat) (es : List (Nat → Int)) (w : World) (hn : n ≤ 1048576) (h : Rd w 10 A n es) :
    Calls Tryz.prog 19 #[.slice A n c] w fun x w' => ∃ A' c', x = .returned (.slice A' n c') ∧ Own w.heap.size w' 10 A' n es ∧ Below w.heap.size w w' :=
  (toPartyS_n A n c es w hn h).mono fun _ _ ⟨A', h1, h2, h3⟩ => ⟨A', n, h1, h2, h3⟩

set_option maxHeartbeats 400000 in
theorem szPartyS_any (A : Option Addr) (n c : Nat) (l : Int) (w : World) (hn : n ≤ 9223372036854775807) (h0 : 0 ≤ l) (h1 : l ≤ 1048576) :
    Calls Tryz.prog 15 #[.slice A n c, .int .i64 l] w fun x w' => x = .returned (.int .i64 (if (n : Int) ≤ l then l - n else -1)) ∧ w = w' := by
  by_cases h : (n : Int) ≤ l
  · rw [if_pos h]
    go_enter Tryz.func15, Tryz.ntmps15
    go_wp2
    go_ret
    exact ⟨rfl, rfl⟩
  · rw [if_neg h]
    go_enter Tryz.func15, Tryz.ntmps15
    go_wp2
    go_ret
    exact ⟨rfl, rfl⟩

set_option maxHeartbeats 400000 in
theorem eqParty_same (e : Nat → Int) (w : World) :
    Calls Tryz.prog 64 #[.agg #[.int .i64 (e 0), .int .i64 (e 1), .int .i64 (e 2), .int .i64 (e 3), .int .i64 (e 4), .int .i64 (e 5), .int .i64 (e 6), .int .i64 (e 7), .int .i64 (e 8), .int .i64 (e 9)], .agg #[.int .i64 (e 0), .int .i64 (e 1), .int .i64 (e 2), .int .i64 (e 3), .int .i64 (e 4), .int .i64 (e 5), .int .i64 (e 6), .int .i64 (e 7), .int .i64 (e 8), .int .i64 (e 9)]] w fun x w' => x = .returned (.bool true) ∧ Below w.heap.size w w' := by
  go_enter Tryz.func64, Tryz.ntmps64
  go_wp2
  go_ret
  refine ⟨rfl, ?_⟩
  (repeat (first | with_reducible exact Below.refl _ _ | with_reducible refine Below.drew ?_ | with_reducible refine below_drewN ?_ _ | (with_reducible refine bel_alloc ?_ ?_ _; (first | omega | (simp; omega) | simp)) | (with_reducible refine bel_set ?_ ?_ _; (first | omega | (simp; omega) | simp)) | (with_reducible refine bel_tr (by assumption) ?_ ?_; (first | omega | (simp; omega) | simp))))

set_option maxRecDepth 100000 in
set_option maxHeartbeats 1000000 in
theorem eqPartyS_same (A A2 : Option Addr) (n c c2 : Nat) (es : List (Nat → Int)) (w : World) (hn : n ≤ 4194304) (h : Rd w 10 A n es) (h2 : Rd w 10 A2 n es) :
    Calls Tryz.prog 22 #[.slice A n c, .slice A2 n c2] w fun x w' => x = .returned (.bool true) ∧ Below w.heap.size w w' := by
  have hcases := h.2
  have hcases2 := h2.2
  clear h h2
  go_enter Tryz.func22, Tryz.ntmps22
  go_wp2
  go_loopw [5] (fun i wr => ∃ k : Nat, k ≤ n ∧ i = .int .i64 k ∧ Below w.heap.size w wr) (fun i _ => n - (intOf i).toNat)
  case atStart => exact ⟨0, Nat.zero_le _, rfl, Below.refl _ _⟩
  case round =>
    obtain ⟨k, hk, rfl, hbel⟩ := hrel
    by_cases hlt : k < n
    · obtain ⟨b, off, rfl, hb, hc⟩ := hcases.resolve_left (by omega)
      obtain ⟨b2, off2, rfl, hb2, hc2⟩ := hcases2.resolve_left (by omega)
      have c0 : wr.cell? ⟨b, off + k * 10, none⟩ = some (.int .i64 (fld es k 0)) := (hbel.cell (p := ⟨b, off + k * 10, none⟩) hb).trans (hc k hlt 0 (by omega))
      have c1 : wr.cell? ⟨b, off + k * 10 + 1, none⟩ = some (.int .i64 (fld es k 1)) := (hbel.cell (p := ⟨b, off + k * 10 + 1, none⟩) hb).trans (hc k hlt 1 (by omega))
      have c2 : wr.cell? ⟨b, off + k * 10 + 2, none⟩ = some (.int .i64 (fld es k 2)) := (hbel.cell (p := ⟨b, off + k * 10 + 2, none⟩) hb).trans (hc k hlt 2 (by omega))
      have c3 : wr.cell? ⟨b, off + k * 10 + 3, none⟩ = some (.int .i64 (fld es k 3)) := (hbel.cell (p := ⟨b, off + k * 10 + 3, none⟩) hb).trans (hc k hlt 3 (by omega))
      have c4 : wr.cell? ⟨b, off + k * 10 + 4, none⟩ = some (.int .i64 (fld es k 4)) := (hbel.cell (p := ⟨b, off + k * 10 + 4, none⟩) hb).trans (hc k hlt 4 (by omega))
      have c5 : wr.cell? ⟨b, off + k * 10 + 5, none⟩ = some (.int .i64 (fld es k 5)) := (hbel.cell (p := ⟨b, off + k * 10 + 5, none⟩) hb).trans (hc k hlt 5 (by omega))
      have c6 : wr.cell? ⟨b, off + k * 10 + 6, none⟩ = some (.int .i64 (fld es k 6)) := (hbel.cell (p := ⟨b, off + k * 10 + 6, none⟩) hb).trans (hc k hlt 6 (by omega))
      have c7 : wr.cell? ⟨b, off + k * 10 + 7, none⟩ = some (.int .i64 (fld es k 7)) := (hbel.cell (p := ⟨b, off + k * 10 + 7, none⟩) hb).trans (hc k hlt 7 (by omega))
      have c8 : wr.cell? ⟨b, off + k * 10 + 8, none⟩ = some (.int .i64 (fld es k 8)) := (hbel.cell (p := ⟨b, off + k * 10 + 8, none⟩) hb).trans (hc k hlt 8 (by omega))
      have c9 : wr.cell? ⟨b, off + k * 10 + 9, none⟩ = some (.int .i64 (fld es k 9)) := (hbel.cell (p := ⟨b, off + k * 10 + 9, none⟩) hb).trans (hc k hlt 9 (by omega))
      have d0 : wr.cell? ⟨b2, off2 + k * 10, none⟩ = some (.int .i64 (fld es k 0)) := (hbel.cell (p := ⟨b2, off2 + k * 10, none⟩) hb2).trans (hc2 k hlt 0 (by omega))
      have d1 : wr.cell? ⟨b2, off2 + k * 10 + 1, none⟩ = some (.int .i64 (fld es k 1)) := (hbel.cell (p := ⟨b2, off2 + k * 10 + 1, none⟩) hb2).trans (hc2 k hlt 1 (by omega))
      have d2 : wr.cell? ⟨b2, off2 + k * 10 + 2, none⟩ = some (.int .i64 (fld es k 2)) := (hbel.cell (p := ⟨b2, off2 + k * 10 + 2, none⟩) hb2).trans (hc2 k hlt 2 (by omega))
      have d3 : wr.cell? ⟨b2, off2 + k * 10 + 3, none⟩ = some (.int .i64 (fld es k 3)) := (hbel.cell (p := ⟨b2, off2 + k * 10 + 3, none⟩) hb2).trans (hc2 k hlt 3 (by omega))
      have d4 : wr.cell? ⟨b2, off2 + k * 10 + 4, none⟩ = some (.int .i64 (fld es k 4)) := (hbel.cell (p := ⟨b2, off2 + k * 10 + 4, none⟩) hb2).trans (hc2 k hlt 4 (by omega))
      have d5 : wr.cell? ⟨b2, off2 + k * 10 + 5, none⟩ = some (.int .i64 (fld es k 5)) := (hbel.cell (p := ⟨b2, off2 + k * 10 + 5, none⟩) hb2).trans (hc2 k hlt 5 (by omega))
      have d6 : wr.cell? ⟨b2, off2 + k * 10 + 6, none⟩ = some (.int .i64 (fld es k 6)) := (hbel.cell (p := ⟨b2, off2 + k * 10 + 6, none⟩) hb2).trans (hc2 k hlt 6 (by omega))
      have d7 : wr.cell? ⟨b2, off2 + k * 10 + 7, none⟩ = some (.int .i64 (fld es k 7)) := (hbel.cell (p := ⟨b2, off2 + k * 10 + 7, none⟩) hb2).trans (hc2 k hlt 7 (by omega))
      have d8 : wr.cell? ⟨b2, off2 + k * 10 + 8, none⟩ = some (.int .i64 (fld es k 8)) := (hbel.cell (p := ⟨b2, off2 + k * 10 + 8, none⟩) hb2).trans (hc2 k hlt 8 (by omega))
      have d9 : wr.cell? ⟨b2, off2 + k * 10 + 9, none⟩ = some (.int .i64 (fld es k 9)) := (hbel.cell (p := ⟨b2, off2 + k * 10 + 9, none⟩) hb2).trans (hc2 k hlt 9 (by omega))
      clear hcases hc hcases2 hc2
      have hsz := hbel.size
      have hbr : b < wr.heap.size := by omega
      have hb2r : b2 < wr.heap.size := by omega
      go_wp2
      go_region_held3 (fun w' => w'.cell? ⟨b, off + k * 10, none⟩ = some (.int .i64 (fld es k 0)) ∧ w'.cell? ⟨b, off + k * 10 + 1, none⟩ = some (.int .i64 (fld es k 1)) ∧ w'.cell? ⟨b, off + k * 10 + 2, none⟩ = some (.int .i64 (fld es k 2)) ∧ w'.cell? ⟨b, off + k * 10 + 3, none⟩ = some (.int .i64 (fld es k 3)) ∧ w'.cell? ⟨b, off + k * 10 + 4, none⟩ = some (.int .i64 (fld es k 4)) ∧ w'.cell? ⟨b, off + k * 10 + 5, none⟩ = some (.int .i64 (fld es k 5)) ∧ w'.cell? ⟨b, off + k * 10 + 6, none⟩ = some (.int .i64 (fld es k 6)) ∧ w'.cell? ⟨b, off + k * 10 + 7, none⟩ = some (.int .i64 (fld es k 7)) ∧ w'.cell? ⟨b, off + k * 10 + 8, none⟩ = some (.int .i64 (fld es k 8)) ∧ w'.cell? ⟨b, off + k * 10 + 9, none⟩ = some (.int .i64 (fld es k 9)) ∧ w'.cell? ⟨b2, off2 + k * 10, none⟩ = some (.int .i64 (fld es k 0)) ∧ w'.cell? ⟨b2, off2 + k * 10 + 1, none⟩ = some (.int .i64 (fld es k 1)) ∧ w'.cell? ⟨b2, off2 + k * 10 + 2, none⟩ = some (.int .i64 (fld es k 2)) ∧ w'.cell? ⟨b2, off2 + k * 10 + 3, none⟩ = some (.int .i64 (fld es k 3)) ∧ w'.cell? ⟨b2, off2 + k * 10 + 4, none⟩ = some (.int .i64 (fld es k 4)) ∧ w'.cell? ⟨b2, off2 + k * 10 + 5, none⟩ = some (.int .i64 (fld es k 5)) ∧ w'.cell? ⟨b2, off2 + k * 10 + 6, none⟩ = some (.int .i64 (fld es k 6)) ∧ w'.cell? ⟨b2, off2 + k * 10 + 7, none⟩ = some (.int .i64 (fld es k 7)) ∧ w'.cell? ⟨b2, off2 + k * 10 + 8, none⟩ = some (.int .i64 (fld es k 8)) ∧ w'.cell? ⟨b2, off2 + k * 10 + 9, none⟩ = some (.int .i64 (fld es k 9))) (go_keep) ((go_at_call 64; refine (eqParty_same (fld es k) _).mono ?_; rintro x w2 ⟨rfl, hbw⟩; have hcw0 := bcell hbw; obtain ⟨hcw, hfw⟩ := hcw0; have kcb : ∀ o, w2.cell? ⟨b, o, none⟩ = _ := (fun o => hbw.cell (p := ⟨b, o, none⟩) (by simpa using hbr)); have kcb2 : ∀ o, w2.cell? ⟨b2, o, none⟩ = _ := (fun o => hbw.cell (p := ⟨b2, o, none⟩) (by simpa using hb2r))))
      go_wp2
      go_roundw
      case rel => exact ⟨k + 1, by omega, by go_num, hbel.drew.trans (hbw.mono (by simpa using hsz))⟩
      case measure => simp [intOf]; omega
    · go_wp2
      go_ret
      exact ⟨rfl, hbel⟩

end Go.Proofs.YtjlmcppkafjniaaGreat
