/-
  Contracts of FirstFit of the program and of the reference. No conditions beyond those stated.
-/
import Derived.Test.YthideehlhhpkjaaQa
import Derived.Test.YthideehlhhpkjaaIs
namespace Go.Proofs.Ythideehlhhpkjaa
open Go.RowKit

/-- x is among the integers. -/
def hasN (ss : List (Nat → Int)) (m : Nat) (x : Int) : Bool := (List.range m).any fun i => fld ss i 0 == x
theorem hasN_of {ss : List (Nat → Int)} {m k : Nat} {x : Int} (hk : k < m) (h : (fld ss k 0 == x) = true) : hasN ss m x = true := by
  unfold hasN
  rw [List.any_eq_true]
  exact ⟨k, List.mem_range.2 hk, h⟩
theorem hasN_no {ss : List (Nat → Int)} {m : Nat} {x : Int} (h : ∀ i, i < m → (fld ss i 0 == x) = false) : hasN ss m x = false := by
  unfold hasN
  rw [List.any_eq_false]
  intro i hi
  rw [h i (List.mem_range.1 hi)]
  simp

/-- The element fits: its size is at most free, and its Id is not to be skipped. -/
def fits (free : Int) (ss : List (Nat → Int)) (m : Nat) (e : Nat → Int) : Bool := decide (e 3 ≤ free) && !hasN ss m (e 2)

set_option maxHeartbeats 400000 in
theorem l1Has_any (A : Option Addr) (m c : Nat) (x : Int) (ss : List (Nat → Int)) (w : World) (hm : m ≤ 4194304) (h : Rd w 1 A m ss) :
    Calls Try.prog 57 #[.slice A m c, .int .i64 x] w fun e w' => e = .returned (.bool (hasN ss m x)) ∧ w = w' := by
  have hcases := h.2
  clear h
  go_enter Try.func57, Try.ntmps57
  go_wp2
  go_loop [5] (fun i => ∃ k : Nat, k ≤ m ∧ i = .int .i64 k ∧ Hid (∀ i, i < k → (fld ss i 0 == x) = false)) (fun i => m - (intOf i).toNat)
  case atStart => exact ⟨0, Nat.zero_le _, rfl, fun i hi => absurd hi (by omega)⟩
  case round =>
    obtain ⟨k, hk, rfl, hno⟩ := hrel
    by_cases hlt : k < m
    · obtain ⟨b, off, rfl, hb, hc⟩ := hcases.resolve_left (by omega)
      have c0 : w.cell? ⟨b, off + k, none⟩ = some (.int .i64 (fld ss k 0)) := by simpa using hc k hlt 0 (by omega)
      clear hcases hc
      rcases Bool.eq_false_or_eq_true (fld ss k 0 == x) with hp | hp
      · have hq : (x == fld ss k 0) = true := by rw [beq_iff_eq] at hp ⊢; exact hp.symm
        go_wp2
        go_ret
        exact ⟨by rw [hasN_of hlt hp]; rfl, rfl⟩
      · have hq : (x == fld ss k 0) = false := by rw [beq_eq_false_iff_ne] at hp ⊢; exact fun e => hp e.symm
        have hno' : Hid (∀ i, i < k + 1 → (fld ss i 0 == x) = false) := fun i hi => by
          rcases Nat.lt_or_ge i k with h | h
          · exact hno.out i h
          · obtain rfl : i = k := by omega
            exact hp
        clear hno
        go_wp2
        go_round
        case rel => exact ⟨k + 1, by omega, by go_num, hno'⟩
        case measure => simp [intOf]; omega
    · have hkn : k = m := by omega
      subst hkn
      go_wp2
      go_ret
      exact ⟨by rw [hasN_no hno.out]; rfl, rfl⟩

set_option maxHeartbeats 400000 in
theorem idxInt_any (A : Option Addr) (m c : Nat) (x : Int) (ss : List (Nat → Int)) (w : World) (hm : m ≤ 4194304) (h : Rd w 1 A m ss) :
    Calls Try.prog 82 #[.slice A m c, .int .i64 x] w fun e w' => ∃ q : Int, ((hasN ss m x = true ∧ 0 ≤ q) ∨ (hasN ss m x = false ∧ q < 0)) ∧ e = .returned (.int .i64 q) ∧ w = w' := by
  have hcases := h.2
  clear h
  go_enter Try.func82, Try.ntmps82
  go_wp2
  go_loop [5, 8] (fun j i => ∃ k : Nat, k ≤ m ∧ i = .int .i64 k ∧ Hid (∀ i, i < k → (fld ss i 0 == x) = false)) (fun _ i => m - (intOf i).toNat)
  case atStart => exact ⟨0, Nat.zero_le _, rfl, fun i hi => absurd hi (by omega)⟩
  case round =>
    obtain ⟨k, hk, rfl, hno⟩ := hrel
    by_cases hlt : k < m
    · obtain ⟨b, off, rfl, hb, hc⟩ := hcases.resolve_left (by omega)
      have c0 : w.cell? ⟨b, off + k, none⟩ = some (.int .i64 (fld ss k 0)) := by simpa using hc k hlt 0 (by omega)
      clear hcases hc
      rcases Bool.eq_false_or_eq_true (fld ss k 0 == x) with hp | hp
      · have hq : (x == fld ss k 0) = true := by rw [beq_iff_eq] at hp ⊢; exact hp.symm
        go_wp2
        go_ret
        exact ⟨_, .inl ⟨hasN_of hlt hp, Int.natCast_nonneg _⟩, rfl, rfl⟩
      · have hq : (x == fld ss k 0) = false := by rw [beq_eq_false_iff_ne] at hp ⊢; exact fun e => hp e.symm
        have hno' : Hid (∀ i, i < k + 1 → (fld ss i 0 == x) = false) := fun i hi => by
          rcases Nat.lt_or_ge i k with h | h
          · exact hno.out i h
          · obtain rfl : i = k := by omega
            exact hp
        clear hno
        go_wp2
        go_round
        case rel => exact ⟨k + 1, by omega, by go_num, hno'⟩
        case measure => simp [intOf]; omega
    · have hkn : k = m := by omega
      subst hkn
      go_wp2
      go_ret
      exact ⟨_, .inr ⟨hasN_no hno.out, by omega⟩, rfl, rfl⟩

set_option maxHeartbeats 400000 in
theorem contains_any (A : Option Addr) (m c : Nat) (x : Int) (ss : List (Nat → Int)) (w : World) (hm : m ≤ 4194304) (h : Rd w 1 A m ss) :
    Calls Try.prog 59 #[.slice A m c, .int .i64 x] w fun e w' => e = .returned (.bool (hasN ss m x)) ∧ w = w' := by
  have H := Lib.hid h
  clear h
  go_enter Try.func59, Try.ntmps59
  go_wp2_with fail
  refine (idxInt_any A m c x ss w hm H.out).mono ?_
  rintro e w1 ⟨q, hq | hq, rfl, rfl⟩
  · obtain ⟨h1, h2⟩ := hq
    go_wp2
    go_ret
    exact ⟨by rw [h1]; first | rfl | (simp; done) | (simp; omega), rfl⟩
  · obtain ⟨h1, h2⟩ := hq
    go_wp2
    go_ret
    exact ⟨by rw [h1]; first | rfl | (simp; done) | (simp; omega), rfl⟩

set_option maxHeartbeats 1000000 in
theorem indexFunc_fit (p0 p1 : Nat) (p : (Nat → Int) → Bool) (A : Option Addr) (n c : Nat) (es : List (Nat → Int)) (w : World) (hn : n ≤ 4194304) (h : Rd w 4 A n es)
    (hp : ∀ (w1 : World) (e : Nat → Int), Below w.heap.size w w1 → Calls Try.prog 58 #[.agg #[.int .i64 (e 0), .int .i64 (e 1), .int .i64 (e 2), .int .i64 (e 3)], .pointer (some ⟨p0, 0, none⟩), .pointer (some ⟨p1, 0, none⟩)] w1 fun x w' => x = .returned (.bool (p e)) ∧ Below w1.heap.size w1 w') :
    Calls Try.prog 54 #[.slice A n c, .func (.func 58) #[] #[.pointer (some ⟨p0, 0, none⟩), .pointer (some ⟨p1, 0, none⟩)]] w (IntP (FirstAt (fun i => p (fld es i)) n) w) := by
  have hcases := h.2
  have HP := Lib.hid hp
  clear h hp
  go_enter Try.func54, Try.ntmps54
  go_wp2
  go_loopw [5, 8] (fun j i wr => ∃ k : Nat, k ≤ n ∧ i = .int .i64 k ∧ Below w.heap.size w wr ∧ Hid (∀ i, i < k → p (fld es i) = false)) (fun _ i _ => n - (intOf i).toNat)
  case atStart => exact ⟨0, Nat.zero_le _, rfl, Below.refl _ _, fun i hi => absurd hi (by omega)⟩
  case round =>
    obtain ⟨k, hk, rfl, hbel, hno⟩ := hrel
    by_cases hlt : k < n
    · obtain ⟨b, off, rfl, hb, hc⟩ := hcases.resolve_left (by omega)
      have c0 : wr.cell? ⟨b, off + k * 4, none⟩ = some (.int .i64 (fld es k 0)) := (hbel.cell (p := ⟨b, off + k * 4, none⟩) hb).trans (hc k hlt 0 (by omega))
      have c1 : wr.cell? ⟨b, off + k * 4 + 1, none⟩ = some (.int .i64 (fld es k 1)) := (hbel.cell (p := ⟨b, off + k * 4 + 1, none⟩) hb).trans (hc k hlt 1 (by omega))
      have c2 : wr.cell? ⟨b, off + k * 4 + 2, none⟩ = some (.int .i64 (fld es k 2)) := (hbel.cell (p := ⟨b, off + k * 4 + 2, none⟩) hb).trans (hc k hlt 2 (by omega))
      have c3 : wr.cell? ⟨b, off + k * 4 + 3, none⟩ = some (.int .i64 (fld es k 3)) := (hbel.cell (p := ⟨b, off + k * 4 + 3, none⟩) hb).trans (hc k hlt 3 (by omega))
      clear hcases hc
      have hsz := hbel.size
      go_wp2_with fail
      refine (HP.out wr (fld es k) hbel).mono ?_
      rintro x w2 ⟨rfl, hb2⟩
      have hbel2 := hbel.trans (hb2.mono hsz)
      rcases Bool.eq_false_or_eq_true (p (fld es k)) with hpk | hpk
      · clear hbel hb2
        go_wp2
        go_ret
        exact ⟨k, .inl ⟨k, hlt, rfl, hpk, hno.out⟩, rfl, hbel2⟩
      · have hno' : Hid (∀ i, i < k + 1 → p (fld es i) = false) := fun i hi => by
          rcases Nat.lt_or_ge i k with h | h
          · exact hno.out i h
          · obtain rfl : i = k := by omega
            exact hpk
        clear hno hbel hb2
        go_wp2
        go_roundw
        case rel => exact ⟨k + 1, by omega, by go_num, hbel2, hno'⟩
        case measure => simp [intOf]; omega
    · have hkn : k = n := by omega
      subst hkn
      go_wp2
      go_ret
      exact ⟨-1, .inr ⟨rfl, hno.out⟩, rfl, hbel⟩

set_option maxHeartbeats 1000000 in
theorem fitClo_any (p0 p1 : Nat) (free : Int) (A : Option Addr) (m c : Nat) (ss : List (Nat → Int)) (e : Nat → Int) (w : World) (hm : m ≤ 4194304) (h : Rd w 1 A m ss) (hb0 : p0 < w.heap.size) (hb1 : p1 < w.heap.size)
    (hc0 : w.cell? ⟨p0, 0, none⟩ = some (.int .i64 free)) (hc1 : w.cell? ⟨p1, 0, none⟩ = some (.slice A m c)) :
    Calls Try.prog 58 #[.agg #[.int .i64 (e 0), .int .i64 (e 1), .int .i64 (e 2), .int .i64 (e 3)], .pointer (some ⟨p0, 0, none⟩), .pointer (some ⟨p1, 0, none⟩)] w fun x w' => x = .returned (.bool (fits free ss m e)) ∧ Below w.heap.size w w' := by
  have H := Lib.hid h
  clear h
  by_cases ht : e 3 ≤ free
  · rw [show fits free ss m e = !hasN ss m (e 2) from by unfold fits; simp [ht]]
    go_enter Try.func58, Try.ntmps58
    go_wp2_with (go_at_call 59; refine (contains_any _ _ _ _ ss _ hm (H.out.below (by (repeat (first | with_reducible exact Below.refl _ _ | with_reducible refine Below.drew ?_ | with_reducible refine below_drewN ?_ _ | (with_reducible refine bel_alloc ?_ ?_ _; (first | omega | (simp; omega) | simp)) | (with_reducible refine bel_set ?_ ?_ _; (first | omega | (simp; omega) | simp)) | (with_reducible refine bel_tr (by assumption) ?_ ?_; (first | omega | (simp; omega) | simp))))))).mono ?_; rintro x w1 ⟨rfl, rfl⟩)
    go_ret
    exact ⟨rfl, by (repeat (first | with_reducible exact Below.refl _ _ | with_reducible refine Below.drew ?_ | with_reducible refine below_drewN ?_ _ | (with_reducible refine bel_alloc ?_ ?_ _; (first | omega | (simp; omega) | simp)) | (with_reducible refine bel_set ?_ ?_ _; (first | omega | (simp; omega) | simp)) | (with_reducible refine bel_tr (by assumption) ?_ ?_; (first | omega | (simp; omega) | simp))))⟩
  · rw [show fits free ss m e = false from by unfold fits; simp [ht]]
    go_enter Try.func58, Try.ntmps58
    go_wp2
    go_ret
    exact ⟨rfl, by (repeat (first | with_reducible exact Below.refl _ _ | with_reducible refine Below.drew ?_ | with_reducible refine below_drewN ?_ _ | (with_reducible refine bel_alloc ?_ ?_ _; (first | omega | (simp; omega) | simp)) | (with_reducible refine bel_set ?_ ?_ _; (first | omega | (simp; omega) | simp)) | (with_reducible refine bel_tr (by assumption) ?_ ?_; (first | omega | (simp; omega) | simp))))⟩

set_option maxHeartbeats 1000000 in
theorem iFirstFit_any (A A2 : Option Addr) (n c m c2 : Nat) (free : Int) (es ss : List (Nat → Int)) (w : World) (hn : n ≤ 4194304) (hm : m ≤ 4194304) (h : Rd w 4 A n es) (h2 : Rd w 1 A2 m ss) :
    Calls Try.prog 22 #[.slice A n c, .int .i64 free, .slice A2 m c2] w (IntP (FirstAt (fun i => fits free ss m (fld es i)) n) w) := by
  have H := Lib.hid h
  have H2 := Lib.hid h2
  clear h h2
  go_enter Try.func22, Try.ntmps22
  go_wp2_with fail
  refine (indexFunc_fit w.heap.size (w.heap.size + 1) (fits free ss m) A n c es _ hn (H.out.below (by (repeat (first | with_reducible exact Below.refl _ _ | with_reducible refine Below.drew ?_ | with_reducible refine below_drewN ?_ _ | (with_reducible refine bel_alloc ?_ ?_ _; (first | omega | (simp; omega) | simp)) | (with_reducible refine bel_set ?_ ?_ _; (first | omega | (simp; omega) | simp)) | (with_reducible refine bel_tr (by assumption) ?_ ?_; (first | omega | (simp; omega) | simp)))))) ?_).mono ?_
  · intro w1 e hb
    have hlt : w.heap.size + 1 < w1.heap.size := by have := hb.size; simp at this; omega
    refine fitClo_any w.heap.size (w.heap.size + 1) free A2 m c2 ss e w1 hm (H2.out.below (by (repeat (first | with_reducible exact Below.refl _ _ | with_reducible refine Below.drew ?_ | with_reducible refine below_drewN ?_ _ | (with_reducible refine bel_alloc ?_ ?_ _; (first | omega | (simp; omega) | simp)) | (with_reducible refine bel_set ?_ ?_ _; (first | omega | (simp; omega) | simp)) | (with_reducible refine bel_tr (by assumption) ?_ ?_; (first | omega | (simp; omega) | simp)))))) (by omega) hlt ?_ ?_
    · rw [hb.cell (p := ⟨w.heap.size, 0, none⟩) (by simp; omega)]
      go_simp
    · rw [hb.cell (p := ⟨w.heap.size + 1, 0, none⟩) (by simp)]
      go_simp
  · rintro x w1 ⟨r, hr, rfl, hb1⟩
    have HR := Lib.hid hr
    clear hr
    go_wp2
    go_ret
    exact ⟨r, HR.out, rfl, by (repeat (first | with_reducible exact Below.refl _ _ | with_reducible refine Below.drew ?_ | with_reducible refine below_drewN ?_ _ | (with_reducible refine bel_alloc ?_ ?_ _; (first | omega | (simp; omega) | simp)) | (with_reducible refine bel_set ?_ ?_ _; (first | omega | (simp; omega) | simp)) | (with_reducible refine bel_tr (by assumption) ?_ ?_; (first | omega | (simp; omega) | simp))))⟩

set_option maxHeartbeats 1000000 in
theorem sFirstFit_any (A A2 : Option Addr) (n c m c2 : Nat) (free : Int) (es ss : List (Nat → Int)) (w : World) (hn : n ≤ 4194304) (hm : m ≤ 4194304) (h : Rd w 4 A n es) (h2 : Rd w 1 A2 m ss) :
    Calls Try.prog 20 #[.slice A n c, .int .i64 free, .slice A2 m c2] w (IntP (FirstAt (fun i => fits free ss m (fld es i)) n) w) := by
  have hcases := h.2
  have H2 := Lib.hid h2
  clear h h2
  go_enter Try.func20, Try.ntmps20
  go_wp2
  go_loop [7] (fun i => ∃ k : Nat, k ≤ n ∧ i = .int .i64 k ∧ Hid (∀ i, i < k → fits free ss m (fld es i) = false)) (fun i => n - (intOf i).toNat)
  case atStart => exact ⟨0, Nat.zero_le _, rfl, fun i hi => absurd hi (by omega)⟩
  case round =>
    obtain ⟨k, hk, rfl, hno⟩ := hrel
    by_cases hlt : k < n
    · obtain ⟨b, off, rfl, hb, hc⟩ := hcases.resolve_left (by omega)
      have c2' : w.cell? ⟨b, off + k * 4 + 2, none⟩ = some (.int .i64 (fld es k 2)) := hc k hlt 2 (by omega)
      have c3' : w.cell? ⟨b, off + k * 4 + 3, none⟩ = some (.int .i64 (fld es k 3)) := hc k hlt 3 (by omega)
      clear hcases hc
      rcases Bool.eq_false_or_eq_true (fits free ss m (fld es k)) with hp | hp
      · have hp' := hp
        unfold fits at hp'
        rw [Bool.and_eq_true, decide_eq_true_eq] at hp'
        obtain ⟨ht, hh⟩ := hp'
        have hh' : hasN ss m (fld es k 2) = false := by simpa using hh
        have HP := Lib.hid hp
        clear hp hh
        go_wp2_with (go_at_call 57; refine (l1Has_any _ _ _ _ ss _ hm H2.out).mono ?_; rintro x w1 ⟨rfl, rfl⟩)
        go_ret
        exact ⟨k, .inl ⟨k, hlt, rfl, HP.out, hno.out⟩, rfl, Below.refl _ _⟩
      · have hno' : Hid (∀ i, i < k + 1 → fits free ss m (fld es i) = false) := fun i hi => by
          rcases Nat.lt_or_ge i k with h | h
          · exact hno.out i h
          · obtain rfl : i = k := by omega
            exact hp
        unfold fits at hp
        rw [Bool.and_eq_false_iff] at hp
        clear hno
        by_cases ht : fld es k 3 ≤ free
        · have hh : hasN ss m (fld es k 2) = true := by simpa [ht] using hp
          clear hp
          go_wp2_with (go_at_call 57; refine (l1Has_any _ _ _ _ ss _ hm H2.out).mono ?_; rintro x w1 ⟨rfl, rfl⟩)
          go_round
          case rel => exact ⟨k + 1, by omega, by go_num, hno'⟩
          case measure => simp [intOf]; omega
        · clear hp
          go_wp2
          go_round
          case rel => exact ⟨k + 1, by omega, by go_num, hno'⟩
          case measure => simp [intOf]; omega
    · have hkn : k = n := by omega
      subst hkn
      go_wp2
      go_ret
      exact ⟨-1, .inr ⟨rfl, hno.out⟩, rfl, Below.refl _ _⟩

end Go.Proofs.Ythideehlhhpkjaa
