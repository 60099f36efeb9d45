/-
  What draws leave alone (for wheels). No conditions beyond those stated.
-/
import Derived.Test.YtjlmcppkafjniaaGreatPs
import Derived.Test.YtjlmcppkafjniaaGreatKo
import Derived.Test.YtjlmcppkafjniaaGreatSe
import Derived.Test.YtjlmcppkafjniaaGreatIs
import Derived.Test.YtjlmcppkafjniaaGreatQfS
import Derived.Test.YtjlmcppkafjniaaGreatPos
import Derived.Test.YtjlmcppkafjniaaGreatPnS
import Derived.Deep.RegionHeld3
import Derived.Test.YtjlmcppkafjniaaGreatPo
import Derived.Test.YtjlmcppkafjniaaGreatMk
namespace Go.Proofs.YtjlmcppkafjniaaGreat
open Go.RowKit

def sumTo (f : Nat → Int) : Nat → Int
  | 0 => 0
  | k + 1 => sumTo f k + f k
theorem sumTo_le (f : Nat → Int) (b : Int) (h : ∀ i, 0 ≤ f i ∧ f i ≤ b) : ∀ k, 0 ≤ sumTo f k ∧ sumTo f k ≤ k * b
  | 0 => by simp [sumTo]
  | k + 1 => by
    have h1 := sumTo_le f b h k
    have h2 := h k
    have h3 : ((k + 1 : Nat) : Int) * b = k * b + b := by rw [Int.natCast_add, Int.add_mul]; simp
    simp only [sumTo]
    rw [h3]
    omega

def cntF (es : List (Nat → Int)) (cab : Int) (i : Nat) : Int := if (fld es i 1 == cab) = true then 1 else 0
def heldF (es : List (Nat → Int)) (cab : Int) (i : Nat) : Int := if (fld es i 7 == 2) = true ∧ (fld es i 1 == cab) = true ∧ (1 ≤ fld es i 3 ∧ fld es i 3 ≤ 6) then fld es i 3 else 0
def tiedF (es : List (Nat → Int)) (cab : Int) (i : Nat) : Int := if (fld es i 2 == cab) = true ∧ (1 ≤ fld es i 3 ∧ fld es i 3 ≤ 6) then fld es i 3 else 0
theorem cntF_b (es : List (Nat → Int)) (cab : Int) (i : Nat) : 0 ≤ cntF es cab i ∧ cntF es cab i ≤ 6 := by unfold cntF; split <;> omega
theorem heldF_b (es : List (Nat → Int)) (cab : Int) (i : Nat) : 0 ≤ heldF es cab i ∧ heldF es cab i ≤ 6 := by unfold heldF; split <;> omega
theorem tiedF_b (es : List (Nat → Int)) (cab : Int) (i : Nat) : 0 ≤ tiedF es cab i ∧ tiedF es cab i ≤ 6 := by unfold tiedF; split <;> omega

set_option maxHeartbeats 1000000 in
theorem spec_CountIn (A : Option Addr) (n c : Nat) (cab : Int) (es : List (Nat → Int)) (w : World) (hn : n ≤ 4194304) (h : Rd w 10 A n es) :
    Calls Tryz.prog 11 #[.slice A n c, .int .i64 cab] w fun x w' => x = .returned (.int .i64 (sumTo (cntF es cab) n)) ∧ Below w.heap.size w w' := by
  have hcases := h.2
  clear h
  go_enter Tryz.func11, Tryz.ntmps11
  go_wp2
  go_loopw [5, 6] (fun v i wr => ∃ k : Nat, k ≤ n ∧ i = .int .i64 k ∧ v = .int .i64 (sumTo (cntF es cab) k) ∧ Below w.heap.size w wr) (fun _ i _ => n - (intOf i).toNat)
  case atStart => exact ⟨0, Nat.zero_le _, rfl, rfl, Below.refl _ _⟩
  case round =>
    obtain ⟨k, hk, rfl, rfl, hbel⟩ := hrel
    have hs := sumTo_le (cntF es cab) 6 (cntF_b es cab) k
    have hs1 := hs.1
    have hs2 : sumTo (cntF es cab) k ≤ 25165824 := by have := hs.2; omega
    clear hs
    have hsz := hbel.size
    by_cases hlt : k < n
    · obtain ⟨b, off, rfl, hb, hc⟩ := hcases.resolve_left (by omega)
      have c1 : wr.cell? ⟨b, off + k * 10 + 1, none⟩ = some (.int .i64 (fld es k 1)) := (hbel.cell (p := ⟨b, off + k * 10 + 1, none⟩) hb).trans (hc k hlt 1 (by omega))
      clear hcases hc
      rcases Bool.eq_false_or_eq_true (fld es k 1 == cab) with t0 | t0
      · have hf : cntF es cab k = 1 := by unfold cntF; simp [t0]
        have hnext : sumTo (cntF es cab) (k + 1) = sumTo (cntF es cab) k + 1 := by rw [sumTo, hf]
        have HN := Lib.hid hnext
        clear hf hnext
        go_wp2
        go_roundw
        case rel => exact ⟨k + 1, by omega, by go_num, by first | (rw [HN.out]; done) | (rw [HN.out, Int.add_zero]; done), by (repeat (first | with_reducible exact Below.refl _ _ | with_reducible refine Below.drew ?_ | with_reducible refine below_drewN ?_ _ | (with_reducible refine bel_alloc ?_ ?_ _; (first | omega | (simp; omega) | simp)) | (with_reducible refine bel_set ?_ ?_ _; (first | omega | (simp; omega) | simp)) | (with_reducible refine bel_tr (by assumption) ?_ ?_; (first | omega | (simp; omega) | simp))))⟩
        case measure => simp [intOf]; omega
      · have hf : cntF es cab k = 0 := by unfold cntF; simp [t0]
        have hnext : sumTo (cntF es cab) (k + 1) = sumTo (cntF es cab) k + 0 := by rw [sumTo, hf]
        have HN := Lib.hid hnext
        clear hf hnext
        go_wp2
        go_roundw
        case rel => exact ⟨k + 1, by omega, by go_num, by first | (rw [HN.out]; done) | (rw [HN.out, Int.add_zero]; done), by (repeat (first | with_reducible exact Below.refl _ _ | with_reducible refine Below.drew ?_ | with_reducible refine below_drewN ?_ _ | (with_reducible refine bel_alloc ?_ ?_ _; (first | omega | (simp; omega) | simp)) | (with_reducible refine bel_set ?_ ?_ _; (first | omega | (simp; omega) | simp)) | (with_reducible refine bel_tr (by assumption) ?_ ?_; (first | omega | (simp; omega) | simp))))⟩
        case measure => simp [intOf]; omega
    · have hkn : k = n := by omega
      subst hkn
      go_wp2
      go_ret
      exact ⟨rfl, hbel⟩

set_option maxHeartbeats 1000000 in
theorem spec_HeldIn (A : Option Addr) (n c : Nat) (cab : Int) (es : List (Nat → Int)) (w : World) (hn : n ≤ 4194304) (h : Rd w 10 A n es) :
    Calls Tryz.prog 54 #[.slice A n c, .int .i64 cab] w fun x w' => x = .returned (.int .i64 (sumTo (heldF es cab) n)) ∧ Below w.heap.size w w' := by
  have hcases := h.2
  clear h
  go_enter Tryz.func54, Tryz.ntmps54
  go_wp2
  go_loopw [5, 6] (fun v i wr => ∃ k : Nat, k ≤ n ∧ i = .int .i64 k ∧ v = .int .i64 (sumTo (heldF es cab) k) ∧ Below w.heap.size w wr) (fun _ i _ => n - (intOf i).toNat)
  case atStart => exact ⟨0, Nat.zero_le _, rfl, rfl, Below.refl _ _⟩
  case round =>
    obtain ⟨k, hk, rfl, rfl, hbel⟩ := hrel
    have hs := sumTo_le (heldF es cab) 6 (heldF_b es cab) k
    have hs1 := hs.1
    have hs2 : sumTo (heldF es cab) k ≤ 25165824 := by have := hs.2; omega
    clear hs
    have hsz := hbel.size
    by_cases hlt : k < n
    · obtain ⟨b, off, rfl, hb, hc⟩ := hcases.resolve_left (by omega)
      have c7 : wr.cell? ⟨b, off + k * 10 + 7, none⟩ = some (.int .i64 (fld es k 7)) := (hbel.cell (p := ⟨b, off + k * 10 + 7, none⟩) hb).trans (hc k hlt 7 (by omega))
      have c1 : wr.cell? ⟨b, off + k * 10 + 1, none⟩ = some (.int .i64 (fld es k 1)) := (hbel.cell (p := ⟨b, off + k * 10 + 1, none⟩) hb).trans (hc k hlt 1 (by omega))
      have c3 : wr.cell? ⟨b, off + k * 10 + 3, none⟩ = some (.int .i64 (fld es k 3)) := (hbel.cell (p := ⟨b, off + k * 10 + 3, none⟩) hb).trans (hc k hlt 3 (by omega))
      clear hcases hc
      rcases Bool.eq_false_or_eq_true (fld es k 7 == 2) with t0 | t0
      · rcases Bool.eq_false_or_eq_true (fld es k 1 == cab) with t1 | t1
        · by_cases t2 : 1 ≤ fld es k 3 ∧ fld es k 3 ≤ 6
          · have hf : heldF es cab k = fld es k 3 := by unfold heldF; simp [t0, t1, t2]
            have hnext : sumTo (heldF es cab) (k + 1) = sumTo (heldF es cab) k + fld es k 3 := by rw [sumTo, hf]
            have HN := Lib.hid hnext
            clear hf hnext
            have ta := t2.1
            have tb := t2.2
            go_wp2_with (go_at_call 44; refine (sy (l1In_any _ _ _ _) t2).mono ?_; rintro e w2 ⟨rfl, rfl⟩)
            go_roundw
            case rel => exact ⟨k + 1, by omega, by go_num, by first | (rw [HN.out]; done) | (rw [HN.out, Int.add_zero]; done), by (repeat (first | with_reducible exact Below.refl _ _ | with_reducible refine Below.drew ?_ | with_reducible refine below_drewN ?_ _ | (with_reducible refine bel_alloc ?_ ?_ _; (first | omega | (simp; omega) | simp)) | (with_reducible refine bel_set ?_ ?_ _; (first | omega | (simp; omega) | simp)) | (with_reducible refine bel_tr (by assumption) ?_ ?_; (first | omega | (simp; omega) | simp))))⟩
            case measure => simp [intOf]; omega
          · have hf : heldF es cab k = 0 := by unfold heldF; simp [t0, t1, t2]
            have hnext : sumTo (heldF es cab) (k + 1) = sumTo (heldF es cab) k + 0 := by rw [sumTo, hf]
            have HN := Lib.hid hnext
            clear hf hnext
            go_wp2_with (go_at_call 44; refine (sn (l1In_any _ _ _ _) t2).mono ?_; rintro e w2 ⟨rfl, rfl⟩)
            go_roundw
            case rel => exact ⟨k + 1, by omega, by go_num, by first | (rw [HN.out]; done) | (rw [HN.out, Int.add_zero]; done), by (repeat (first | with_reducible exact Below.refl _ _ | with_reducible refine Below.drew ?_ | with_reducible refine below_drewN ?_ _ | (with_reducible refine bel_alloc ?_ ?_ _; (first | omega | (simp; omega) | simp)) | (with_reducible refine bel_set ?_ ?_ _; (first | omega | (simp; omega) | simp)) | (with_reducible refine bel_tr (by assumption) ?_ ?_; (first | omega | (simp; omega) | simp))))⟩
            case measure => simp [intOf]; omega
        · have hf : heldF es cab k = 0 := by unfold heldF; simp [t0, t1]
          have hnext : sumTo (heldF es cab) (k + 1) = sumTo (heldF es cab) k + 0 := by rw [sumTo, hf]
          have HN := Lib.hid hnext
          clear hf hnext
          go_wp2
          go_roundw
          case rel => exact ⟨k + 1, by omega, by go_num, by first | (rw [HN.out]; done) | (rw [HN.out, Int.add_zero]; done), by (repeat (first | with_reducible exact Below.refl _ _ | with_reducible refine Below.drew ?_ | with_reducible refine below_drewN ?_ _ | (with_reducible refine bel_alloc ?_ ?_ _; (first | omega | (simp; omega) | simp)) | (with_reducible refine bel_set ?_ ?_ _; (first | omega | (simp; omega) | simp)) | (with_reducible refine bel_tr (by assumption) ?_ ?_; (first | omega | (simp; omega) | simp))))⟩
          case measure => simp [intOf]; omega
      · have hf : heldF es cab k = 0 := by unfold heldF; simp [t0]
        have hnext : sumTo (heldF es cab) (k + 1) = sumTo (heldF es cab) k + 0 := by rw [sumTo, hf]
        have HN := Lib.hid hnext
        clear hf hnext
        go_wp2
        go_roundw
        case rel => exact ⟨k + 1, by omega, by go_num, by first | (rw [HN.out]; done) | (rw [HN.out, Int.add_zero]; done), by (repeat (first | with_reducible exact Below.refl _ _ | with_reducible refine Below.drew ?_ | with_reducible refine below_drewN ?_ _ | (with_reducible refine bel_alloc ?_ ?_ _; (first | omega | (simp; omega) | simp)) | (with_reducible refine bel_set ?_ ?_ _; (first | omega | (simp; omega) | simp)) | (with_reducible refine bel_tr (by assumption) ?_ ?_; (first | omega | (simp; omega) | simp))))⟩
        case measure => simp [intOf]; omega
    · have hkn : k = n := by omega
      subst hkn
      go_wp2
      go_ret
      exact ⟨rfl, hbel⟩

set_option maxHeartbeats 1000000 in
theorem impl_HeldIn (A : Option Addr) (n c : Nat) (cab : Int) (es : List (Nat → Int)) (w : World) (hn : n ≤ 4194304) (h : Rd w 10 A n es) :
    Calls Tryz.prog 42 #[.slice A n c, .int .i64 cab] w fun x w' => x = .returned (.int .i64 (sumTo (heldF es cab) n)) ∧ Below w.heap.size w w' := by
  have hcases := h.2
  clear h
  go_enter Tryz.func42, Tryz.ntmps42
  go_wp2
  go_loopw [5, 10] (fun v i wr => ∃ k : Nat, k ≤ n ∧ i = .int .i64 k ∧ v = .int .i64 (sumTo (heldF es cab) k) ∧ Below w.heap.size w wr) (fun _ i _ => n - (intOf i).toNat)
  case atStart => exact ⟨0, Nat.zero_le _, rfl, rfl, Below.refl _ _⟩
  case round =>
    obtain ⟨k, hk, rfl, rfl, hbel⟩ := hrel
    have hs := sumTo_le (heldF es cab) 6 (heldF_b es cab) k
    have hs1 := hs.1
    have hs2 : sumTo (heldF es cab) k ≤ 25165824 := by have := hs.2; omega
    clear hs
    have hsz := hbel.size
    by_cases hlt : k < n
    · obtain ⟨b, off, rfl, hb, hc⟩ := hcases.resolve_left (by omega)
      have c0 : wr.cell? ⟨b, off + k * 10, none⟩ = some (.int .i64 (fld es k 0)) := (hbel.cell (p := ⟨b, off + k * 10, none⟩) hb).trans (hc k hlt 0 (by omega))
      have c1 : wr.cell? ⟨b, off + k * 10 + 1, none⟩ = some (.int .i64 (fld es k 1)) := (hbel.cell (p := ⟨b, off + k * 10 + 1, none⟩) hb).trans (hc k hlt 1 (by omega))
      have c2 : wr.cell? ⟨b, off + k * 10 + 2, none⟩ = some (.int .i64 (fld es k 2)) := (hbel.cell (p := ⟨b, off + k * 10 + 2, none⟩) hb).trans (hc k hlt 2 (by omega))
      have c3 : wr.cell? ⟨b, off + k * 10 + 3, none⟩ = some (.int .i64 (fld es k 3)) := (hbel.cell (p := ⟨b, off + k * 10 + 3, none⟩) hb).trans (hc k hlt 3 (by omega))
      have c4 : wr.cell? ⟨b, off + k * 10 + 4, none⟩ = some (.int .i64 (fld es k 4)) := (hbel.cell (p := ⟨b, off + k * 10 + 4, none⟩) hb).trans (hc k hlt 4 (by omega))
      have c5 : wr.cell? ⟨b, off + k * 10 + 5, none⟩ = some (.int .i64 (fld es k 5)) := (hbel.cell (p := ⟨b, off + k * 10 + 5, none⟩) hb).trans (hc k hlt 5 (by omega))
      have c6 : wr.cell? ⟨b, off + k * 10 + 6, none⟩ = some (.int .i64 (fld es k 6)) := (hbel.cell (p := ⟨b, off + k * 10 + 6, none⟩) hb).trans (hc k hlt 6 (by omega))
      have c7 : wr.cell? ⟨b, off + k * 10 + 7, none⟩ = some (.int .i64 (fld es k 7)) := (hbel.cell (p := ⟨b, off + k * 10 + 7, none⟩) hb).trans (hc k hlt 7 (by omega))
      have c8 : wr.cell? ⟨b, off + k * 10 + 8, none⟩ = some (.int .i64 (fld es k 8)) := (hbel.cell (p := ⟨b, off + k * 10 + 8, none⟩) hb).trans (hc k hlt 8 (by omega))
      have c9 : wr.cell? ⟨b, off + k * 10 + 9, none⟩ = some (.int .i64 (fld es k 9)) := (hbel.cell (p := ⟨b, off + k * 10 + 9, none⟩) hb).trans (hc k hlt 9 (by omega))
      clear hcases hc
      rcases Bool.eq_false_or_eq_true (fld es k 7 == 2) with t0 | t0
      · rcases Bool.eq_false_or_eq_true (fld es k 1 == cab) with t1 | t1
        · by_cases t2 : 1 ≤ fld es k 3 ∧ fld es k 3 ≤ 6
          · have hf : heldF es cab k = fld es k 3 := by unfold heldF; simp [t0, t1, t2]
            have hnext : sumTo (heldF es cab) (k + 1) = sumTo (heldF es cab) k + fld es k 3 := by rw [sumTo, hf]
            have HN := Lib.hid hnext
            clear hf hnext
            have ta := t2.1
            have tb := t2.2
            go_wp2_with (go_at_call 76; refine (sy (within_any _ _ _ _) t2).mono ?_; rintro e w2 ⟨rfl, rfl⟩)
            go_roundw
            case rel => exact ⟨k + 1, by omega, by go_num, by first | (rw [HN.out]; done) | (rw [HN.out, Int.add_zero]; done), by (repeat (first | with_reducible exact Below.refl _ _ | with_reducible refine Below.drew ?_ | with_reducible refine below_drewN ?_ _ | (with_reducible refine bel_alloc ?_ ?_ _; (first | omega | (simp; omega) | simp)) | (with_reducible refine bel_set ?_ ?_ _; (first | omega | (simp; omega) | simp)) | (with_reducible refine bel_tr (by assumption) ?_ ?_; (first | omega | (simp; omega) | simp))))⟩
            case measure => simp [intOf]; omega
          · have hf : heldF es cab k = 0 := by unfold heldF; simp [t0, t1, t2]
            have hnext : sumTo (heldF es cab) (k + 1) = sumTo (heldF es cab) k + 0 := by rw [sumTo, hf]
            have HN := Lib.hid hnext
            clear hf hnext
            go_wp2_with (go_at_call 76; refine (sn (within_any _ _ _ _) t2).mono ?_; rintro e w2 ⟨rfl, rfl⟩)
            go_roundw
            case rel => exact ⟨k + 1, by omega, by go_num, by first | (rw [HN.out]; done) | (rw [HN.out, Int.add_zero]; done), by (repeat (first | with_reducible exact Below.refl _ _ | with_reducible refine Below.drew ?_ | with_reducible refine below_drewN ?_ _ | (with_reducible refine bel_alloc ?_ ?_ _; (first | omega | (simp; omega) | simp)) | (with_reducible refine bel_set ?_ ?_ _; (first | omega | (simp; omega) | simp)) | (with_reducible refine bel_tr (by assumption) ?_ ?_; (first | omega | (simp; omega) | simp))))⟩
            case measure => simp [intOf]; omega
        · have hf : heldF es cab k = 0 := by unfold heldF; simp [t0, t1]
          have hnext : sumTo (heldF es cab) (k + 1) = sumTo (heldF es cab) k + 0 := by rw [sumTo, hf]
          have HN := Lib.hid hnext
          clear hf hnext
          go_wp2
          go_roundw
          case rel => exact ⟨k + 1, by omega, by go_num, by first | (rw [HN.out]; done) | (rw [HN.out, Int.add_zero]; done), by (repeat (first | with_reducible exact Below.refl _ _ | with_reducible refine Below.drew ?_ | with_reducible refine below_drewN ?_ _ | (with_reducible refine bel_alloc ?_ ?_ _; (first | omega | (simp; omega) | simp)) | (with_reducible refine bel_set ?_ ?_ _; (first | omega | (simp; omega) | simp)) | (with_reducible refine bel_tr (by assumption) ?_ ?_; (first | omega | (simp; omega) | simp))))⟩
          case measure => simp [intOf]; omega
      · have hf : heldF es cab k = 0 := by unfold heldF; simp [t0]
        have hnext : sumTo (heldF es cab) (k + 1) = sumTo (heldF es cab) k + 0 := by rw [sumTo, hf]
        have HN := Lib.hid hnext
        clear hf hnext
        go_wp2
        go_roundw
        case rel => exact ⟨k + 1, by omega, by go_num, by first | (rw [HN.out]; done) | (rw [HN.out, Int.add_zero]; done), by (repeat (first | with_reducible exact Below.refl _ _ | with_reducible refine Below.drew ?_ | with_reducible refine below_drewN ?_ _ | (with_reducible refine bel_alloc ?_ ?_ _; (first | omega | (simp; omega) | simp)) | (with_reducible refine bel_set ?_ ?_ _; (first | omega | (simp; omega) | simp)) | (with_reducible refine bel_tr (by assumption) ?_ ?_; (first | omega | (simp; omega) | simp))))⟩
        case measure => simp [intOf]; omega
    · have hkn : k = n := by omega
      subst hkn
      go_wp2
      go_ret
      exact ⟨rfl, hbel⟩

set_option maxHeartbeats 1000000 in
theorem spec_TiedIn (A : Option Addr) (n c : Nat) (cab : Int) (es : List (Nat → Int)) (w : World) (hn : n ≤ 4194304) (h : Rd w 10 A n es) :
    Calls Tryz.prog 12 #[.slice A n c, .int .i64 cab] w fun x w' => x = .returned (.int .i64 (sumTo (tiedF es cab) n)) ∧ Below w.heap.size w w' := by
  have hcases := h.2
  clear h
  go_enter Tryz.func12, Tryz.ntmps12
  go_wp2
  go_loopw [5, 6] (fun v i wr => ∃ k : Nat, k ≤ n ∧ i = .int .i64 k ∧ v = .int .i64 (sumTo (tiedF es cab) k) ∧ Below w.heap.size w wr) (fun _ i _ => n - (intOf i).toNat)
  case atStart => exact ⟨0, Nat.zero_le _, rfl, rfl, Below.refl _ _⟩
  case round =>
    obtain ⟨k, hk, rfl, rfl, hbel⟩ := hrel
    have hs := sumTo_le (tiedF es cab) 6 (tiedF_b es cab) k
    have hs1 := hs.1
    have hs2 : sumTo (tiedF es cab) k ≤ 25165824 := by have := hs.2; omega
    clear hs
    have hsz := hbel.size
    by_cases hlt : k < n
    · obtain ⟨b, off, rfl, hb, hc⟩ := hcases.resolve_left (by omega)
      have c2 : wr.cell? ⟨b, off + k * 10 + 2, none⟩ = some (.int .i64 (fld es k 2)) := (hbel.cell (p := ⟨b, off + k * 10 + 2, none⟩) hb).trans (hc k hlt 2 (by omega))
      have c3 : wr.cell? ⟨b, off + k * 10 + 3, none⟩ = some (.int .i64 (fld es k 3)) := (hbel.cell (p := ⟨b, off + k * 10 + 3, none⟩) hb).trans (hc k hlt 3 (by omega))
      clear hcases hc
      rcases Bool.eq_false_or_eq_true (fld es k 2 == cab) with t0 | t0
      · by_cases t1 : 1 ≤ fld es k 3 ∧ fld es k 3 ≤ 6
        · have hf : tiedF es cab k = fld es k 3 := by unfold tiedF; simp [t0, t1]
          have hnext : sumTo (tiedF es cab) (k + 1) = sumTo (tiedF es cab) k + fld es k 3 := by rw [sumTo, hf]
          have HN := Lib.hid hnext
          clear hf hnext
          have ta := t1.1
          have tb := t1.2
          go_wp2_with (go_at_call 44; refine (sy (l1In_any _ _ _ _) t1).mono ?_; rintro e w2 ⟨rfl, rfl⟩)
          go_roundw
          case rel => exact ⟨k + 1, by omega, by go_num, by first | (rw [HN.out]; done) | (rw [HN.out, Int.add_zero]; done), by (repeat (first | with_reducible exact Below.refl _ _ | with_reducible refine Below.drew ?_ | with_reducible refine below_drewN ?_ _ | (with_reducible refine bel_alloc ?_ ?_ _; (first | omega | (simp; omega) | simp)) | (with_reducible refine bel_set ?_ ?_ _; (first | omega | (simp; omega) | simp)) | (with_reducible refine bel_tr (by assumption) ?_ ?_; (first | omega | (simp; omega) | simp))))⟩
          case measure => simp [intOf]; omega
        · have hf : tiedF es cab k = 0 := by unfold tiedF; simp [t0, t1]
          have hnext : sumTo (tiedF es cab) (k + 1) = sumTo (tiedF es cab) k + 0 := by rw [sumTo, hf]
          have HN := Lib.hid hnext
          clear hf hnext
          go_wp2_with (go_at_call 44; refine (sn (l1In_any _ _ _ _) t1).mono ?_; rintro e w2 ⟨rfl, rfl⟩)
          go_roundw
          case rel => exact ⟨k + 1, by omega, by go_num, by first | (rw [HN.out]; done) | (rw [HN.out, Int.add_zero]; done), by (repeat (first | with_reducible exact Below.refl _ _ | with_reducible refine Below.drew ?_ | with_reducible refine below_drewN ?_ _ | (with_reducible refine bel_alloc ?_ ?_ _; (first | omega | (simp; omega) | simp)) | (with_reducible refine bel_set ?_ ?_ _; (first | omega | (simp; omega) | simp)) | (with_reducible refine bel_tr (by assumption) ?_ ?_; (first | omega | (simp; omega) | simp))))⟩
          case measure => simp [intOf]; omega
      · have hf : tiedF es cab k = 0 := by unfold tiedF; simp [t0]
        have hnext : sumTo (tiedF es cab) (k + 1) = sumTo (tiedF es cab) k + 0 := by rw [sumTo, hf]
        have HN := Lib.hid hnext
        clear hf hnext
        go_wp2
        go_roundw
        case rel => exact ⟨k + 1, by omega, by go_num, by first | (rw [HN.out]; done) | (rw [HN.out, Int.add_zero]; done), by (repeat (first | with_reducible exact Below.refl _ _ | with_reducible refine Below.drew ?_ | with_reducible refine below_drewN ?_ _ | (with_reducible refine bel_alloc ?_ ?_ _; (first | omega | (simp; omega) | simp)) | (with_reducible refine bel_set ?_ ?_ _; (first | omega | (simp; omega) | simp)) | (with_reducible refine bel_tr (by assumption) ?_ ?_; (first | omega | (simp; omega) | simp))))⟩
        case measure => simp [intOf]; omega
    · have hkn : k = n := by omega
      subst hkn
      go_wp2
      go_ret
      exact ⟨rfl, hbel⟩

set_option maxHeartbeats 1000000 in
theorem impl_TiedIn (A : Option Addr) (n c : Nat) (cab : Int) (es : List (Nat → Int)) (w : World) (hn : n ≤ 4194304) (h : Rd w 10 A n es) :
    Calls Tryz.prog 43 #[.slice A n c, .int .i64 cab] w fun x w' => x = .returned (.int .i64 (sumTo (tiedF es cab) n)) ∧ Below w.heap.size w w' := by
  have hcases := h.2
  clear h
  go_enter Tryz.func43, Tryz.ntmps43
  go_wp2
  go_loopw [5, 10] (fun v i wr => ∃ k : Nat, k ≤ n ∧ i = .int .i64 k ∧ v = .int .i64 (sumTo (tiedF es cab) k) ∧ Below w.heap.size w wr) (fun _ i _ => n - (intOf i).toNat)
  case atStart => exact ⟨0, Nat.zero_le _, rfl, rfl, Below.refl _ _⟩
  case round =>
    obtain ⟨k, hk, rfl, rfl, hbel⟩ := hrel
    have hs := sumTo_le (tiedF es cab) 6 (tiedF_b es cab) k
    have hs1 := hs.1
    have hs2 : sumTo (tiedF es cab) k ≤ 25165824 := by have := hs.2; omega
    clear hs
    have hsz := hbel.size
    by_cases hlt : k < n
    · obtain ⟨b, off, rfl, hb, hc⟩ := hcases.resolve_left (by omega)
      have c0 : wr.cell? ⟨b, off + k * 10, none⟩ = some (.int .i64 (fld es k 0)) := (hbel.cell (p := ⟨b, off + k * 10, none⟩) hb).trans (hc k hlt 0 (by omega))
      have c1 : wr.cell? ⟨b, off + k * 10 + 1, none⟩ = some (.int .i64 (fld es k 1)) := (hbel.cell (p := ⟨b, off + k * 10 + 1, none⟩) hb).trans (hc k hlt 1 (by omega))
      have c2 : wr.cell? ⟨b, off + k * 10 + 2, none⟩ = some (.int .i64 (fld es k 2)) := (hbel.cell (p := ⟨b, off + k * 10 + 2, none⟩) hb).trans (hc k hlt 2 (by omega))
      have c3 : wr.cell? ⟨b, off + k * 10 + 3, none⟩ = some (.int .i64 (fld es k 3)) := (hbel.cell (p := ⟨b, off + k * 10 + 3, none⟩) hb).trans (hc k hlt 3 (by omega))
      have c4 : wr.cell? ⟨b, off + k * 10 + 4, none⟩ = some (.int .i64 (fld es k 4)) := (hbel.cell (p := ⟨b, off + k * 10 + 4, none⟩) hb).trans (hc k hlt 4 (by omega))
      have c5 : wr.cell? ⟨b, off + k * 10 + 5, none⟩ = some (.int .i64 (fld es k 5)) := (hbel.cell (p := ⟨b, off + k * 10 + 5, none⟩) hb).trans (hc k hlt 5 (by omega))
      have c6 : wr.cell? ⟨b, off + k * 10 + 6, none⟩ = some (.int .i64 (fld es k 6)) := (hbel.cell (p := ⟨b, off + k * 10 + 6, none⟩) hb).trans (hc k hlt 6 (by omega))
      have c7 : wr.cell? ⟨b, off + k * 10 + 7, none⟩ = some (.int .i64 (fld es k 7)) := (hbel.cell (p := ⟨b, off + k * 10 + 7, none⟩) hb).trans (hc k hlt 7 (by omega))
      have c8 : wr.cell? ⟨b, off + k * 10 + 8, none⟩ = some (.int .i64 (fld es k 8)) := (hbel.cell (p := ⟨b, off + k * 10 + 8, none⟩) hb).trans (hc k hlt 8 (by omega))
      have c9 : wr.cell? ⟨b, off + k * 10 + 9, none⟩ = some (.int .i64 (fld es k 9)) := (hbel.cell (p := ⟨b, off + k * 10 + 9, none⟩) hb).trans (hc k hlt 9 (by omega))
      clear hcases hc
      rcases Bool.eq_false_or_eq_true (fld es k 2 == cab) with t0 | t0
      · by_cases t1 : 1 ≤ fld es k 3 ∧ fld es k 3 ≤ 6
        · have hf : tiedF es cab k = fld es k 3 := by unfold tiedF; simp [t0, t1]
          have hnext : sumTo (tiedF es cab) (k + 1) = sumTo (tiedF es cab) k + fld es k 3 := by rw [sumTo, hf]
          have HN := Lib.hid hnext
          clear hf hnext
          have ta := t1.1
          have tb := t1.2
          go_wp2_with (go_at_call 76; refine (sy (within_any _ _ _ _) t1).mono ?_; rintro e w2 ⟨rfl, rfl⟩)
          go_roundw
          case rel => exact ⟨k + 1, by omega, by go_num, by first | (rw [HN.out]; done) | (rw [HN.out, Int.add_zero]; done), by (repeat (first | with_reducible exact Below.refl _ _ | with_reducible refine Below.drew ?_ | with_reducible refine below_drewN ?_ _ | (with_reducible refine bel_alloc ?_ ?_ _; (first | omega | (simp; omega) | simp)) | (with_reducible refine bel_set ?_ ?_ _; (first | omega | (simp; omega) | simp)) | (with_reducible refine bel_tr (by assumption) ?_ ?_; (first | omega | (simp; omega) | simp))))⟩
          case measure => simp [intOf]; omega
        · have hf : tiedF es cab k = 0 := by unfold tiedF; simp [t0, t1]
          have hnext : sumTo (tiedF es cab) (k + 1) = sumTo (tiedF es cab) k + 0 := by rw [sumTo, hf]
          have HN := Lib.hid hnext
          clear hf hnext
          go_wp2_with (go_at_call 76; refine (sn (within_any _ _ _ _) t1).mono ?_; rintro e w2 ⟨rfl, rfl⟩)
          go_roundw
          case rel => exact ⟨k + 1, by omega, by go_num, by first | (rw [HN.out]; done) | (rw [HN.out, Int.add_zero]; done), by (repeat (first | with_reducible exact Below.refl _ _ | with_reducible refine Below.drew ?_ | with_reducible refine below_drewN ?_ _ | (with_reducible refine bel_alloc ?_ ?_ _; (first | omega | (simp; omega) | simp)) | (with_reducible refine bel_set ?_ ?_ _; (first | omega | (simp; omega) | simp)) | (with_reducible refine bel_tr (by assumption) ?_ ?_; (first | omega | (simp; omega) | simp))))⟩
          case measure => simp [intOf]; omega
      · have hf : tiedF es cab k = 0 := by unfold tiedF; simp [t0]
        have hnext : sumTo (tiedF es cab) (k + 1) = sumTo (tiedF es cab) k + 0 := by rw [sumTo, hf]
        have HN := Lib.hid hnext
        clear hf hnext
        go_wp2
        go_roundw
        case rel => exact ⟨k + 1, by omega, by go_num, by first | (rw [HN.out]; done) | (rw [HN.out, Int.add_zero]; done), by (repeat (first | with_reducible exact Below.refl _ _ | with_reducible refine Below.drew ?_ | with_reducible refine below_drewN ?_ _ | (with_reducible refine bel_alloc ?_ ?_ _; (first | omega | (simp; omega) | simp)) | (with_reducible refine bel_set ?_ ?_ _; (first | omega | (simp; omega) | simp)) | (with_reducible refine bel_tr (by assumption) ?_ ?_; (first | omega | (simp; omega) | simp))))⟩
        case measure => simp [intOf]; omega
    · have hkn : k = n := by omega
      subst hkn
      go_wp2
      go_ret
      exact ⟨rfl, hbel⟩

end Go.Proofs.YtjlmcppkafjniaaGreat

namespace Go.Proofs.YtjlmcppkafjniaaGreat
open Go.RowKit

/-- What it means that a cabin agrees with a list of parties. -/
def AGR (x0 x1 x2 x3 x4 : Int) (k : Nat) (qs : List (Nat → Int)) (N : Nat) (S : Nat → Sp) (L ps : List (Nat → Int)) (cab : Int) (m : Nat) : Prop :=
  COK x0 x1 x2 x3 x4 k qs N S ∧ SamE qs (sortR L) ∧ SamL (pinsL N S) (sortL (pinF ps cab m) (pinF ps cab m).length) ∧ x2 = sumTo (heldF ps cab) m ∧ x4 = sumTo (tiedF ps cab) m
theorem AGR.sam {x0 x1 x2 x3 x4 : Int} {k : Nat} {qs : List (Nat → Int)} {N : Nat} {S S' : Nat → Sp} {L ps : List (Nat → Int)} {cab : Int} {m : Nat} (hs : Sam N S S') (h : AGR x0 x1 x2 x3 x4 k qs N S L ps cab m) : AGR x0 x1 x2 x3 x4 k qs N S' L ps cab m :=
  ⟨h.1.sam hs, h.2.1, pinsL_sam hs ▸ h.2.2.1, h.2.2.2.1, h.2.2.2.2⟩
theorem sPinsIn_n (A : Option Addr) (n c : Nat) (cab : Int) (es : List (Nat → Int)) (w : World) (hn : n ≤ 4194303) (h : Rd w 10 A n es) :
    Calls Tryz.prog 53 #[.slice A n c, .int .i64 cab] w (PnI w es cab n) :=
  (sPinsIn_any A n c cab es w hn h).mono fun y w' ⟨v, e, o, b⟩ => by
    obtain ⟨A', c', rfl, h1, h2, h3⟩ := own_of_row_cap (sortL_len _ _) o
    exact ⟨A', _, c', e, h3, ⟨h1, h2⟩, b⟩
theorem iPinsIn_n (A : Option Addr) (n c : Nat) (cab : Int) (es : List (Nat → Int)) (w : World) (hn : n ≤ 4194303) (h : Rd w 10 A n es) :
    Calls Tryz.prog 41 #[.slice A n c, .int .i64 cab] w (PnI w es cab n) := iPinsIn_any A n c cab es w hn h
theorem sHeldIn_t (A : Option Addr) (n c : Nat) (cab : Int) (es : List (Nat → Int)) (hd : Int) (w : World) (hn : n ≤ 4194304) (h : Rd w 10 A n es) (e : sumTo (heldF es cab) n = hd) :
    Calls Tryz.prog 54 #[.slice A n c, .int .i64 cab] w fun x w' => x = .returned (.int .i64 hd) ∧ Below w.heap.size w w' := e ▸ spec_HeldIn A n c cab es w hn h
theorem sTiedIn_t (A : Option Addr) (n c : Nat) (cab : Int) (es : List (Nat → Int)) (hd : Int) (w : World) (hn : n ≤ 4194304) (h : Rd w 10 A n es) (e : sumTo (tiedF es cab) n = hd) :
    Calls Tryz.prog 12 #[.slice A n c, .int .i64 cab] w fun x w' => x = .returned (.int .i64 hd) ∧ Below w.heap.size w w' := e ▸ spec_TiedIn A n c cab es w hn h
theorem iHeldIn_t (A : Option Addr) (n c : Nat) (cab : Int) (es : List (Nat → Int)) (hd : Int) (w : World) (hn : n ≤ 4194304) (h : Rd w 10 A n es) (e : sumTo (heldF es cab) n = hd) :
    Calls Tryz.prog 42 #[.slice A n c, .int .i64 cab] w fun x w' => x = .returned (.int .i64 hd) ∧ Below w.heap.size w w' := e ▸ impl_HeldIn A n c cab es w hn h
theorem iTiedIn_t (A : Option Addr) (n c : Nat) (cab : Int) (es : List (Nat → Int)) (hd : Int) (w : World) (hn : n ≤ 4194304) (h : Rd w 10 A n es) (e : sumTo (tiedF es cab) n = hd) :
    Calls Tryz.prog 43 #[.slice A n c, .int .i64 cab] w fun x w' => x = .returned (.int .i64 hd) ∧ Below w.heap.size w w' := e ▸ impl_TiedIn A n c cab es w hn h
end Go.Proofs.YtjlmcppkafjniaaGreat

namespace Go.Proofs.YtjlmcppkafjniaaGreat
open Go.RowKit

end Go.Proofs.YtjlmcppkafjniaaGreat
