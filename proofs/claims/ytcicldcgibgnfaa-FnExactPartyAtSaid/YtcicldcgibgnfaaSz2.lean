/-
  The measure of a wheel, with its upper bound. No conditions beyond those stated.
-/
import Derived.Test.YtcicldcgibgnfaaW1
namespace Go.Proofs.Ytcicldcgibgnfaa
open Go.RowKit

set_option maxHeartbeats 1000000 in
theorem szPinSS_le (A : Option Addr) (N c : Nat) (S : Nat → Sp) (l : Int) (w : World) (hN : N ≤ 9223372036854775807) (h0 : 0 ≤ l) (h1 : l ≤ 1048576) (h : RdW w A N S) :
    Calls Try.prog 38 #[.slice A N c, .int .i64 l] w fun x w' => ∃ r : Int, x = .returned (.int .i64 r) ∧ w = w' ∧ (r < 0 ∨ 0 ≤ r ∧ (N : Int) + tot S N ≤ l ∧ r ≤ l) := by
  by_cases hl : (N : Int) ≤ l
  · go_enter Try.func38, Try.ntmps38
    go_wp2
    go_loop [1, 4, 5] (fun v q i => ∃ k : Nat, k ≤ N ∧ i = .int .i64 k ∧ q = .int .i64 0 ∧ v = .int .i64 (l - (N : Int) - tot S k) ∧ 0 ≤ l - (N : Int) - tot S k) (fun _ _ i => N - (intOf i).toNat)
    case atStart => exact ⟨0, Nat.zero_le _, rfl, rfl, by simp [tot], by simp [tot]; omega⟩
    case round =>
      obtain ⟨k, hk, rfl, rfl, rfl, hv⟩ := hrel
      by_cases hlt : k < N
      · obtain ⟨b, off, rfl⟩ := h.addr (by omega)
        have hb := h.lt (by omega)
        have c0 := h.cell hlt
        have hn := h.le k hlt
        obtain ⟨v, hv2⟩ : ∃ v : Int, v = l - (N : Int) - tot S k := ⟨_, rfl⟩
        rw [← hv2] at hv ⊢
        have hvl : v ≤ 1048576 := by omega
        have HV := Lib.hid hv2
        clear hv2 h
        go_wp2_with fail
        refine (szPinS_any (S k).A (S k).n (S k).c v w hn hv hvl).mono ?_
        by_cases hs : ((S k).n : Int) ≤ v
        · rw [if_pos hs]
          rintro x w2 ⟨rfl, rfl⟩
          have hs' : 0 ≤ v - ((S k).n : Int) := by omega
          go_wp2
          go_round
          case rel => exact ⟨k + 1, by omega, by go_num, rfl, by have := HV.out; simp only [tot]; go_num, by have := HV.out; simp only [tot]; go_num⟩
          case measure => simp [intOf]; omega
        · rw [if_neg hs]
          rintro x w2 ⟨rfl, rfl⟩
          go_wp2
          go_ret
          exact ⟨_, rfl, rfl, .inl (by omega)⟩
      · have hkn : k = N := by omega
        subst hkn
        go_wp2
        go_ret
        exact ⟨_, rfl, rfl, .inr ⟨hv, by omega, by omega⟩⟩
  · go_enter Try.func38, Try.ntmps38
    go_wp2
    go_ret
    exact ⟨_, rfl, rfl, .inl (by omega)⟩

set_option maxHeartbeats 1000000 in
theorem szWheel_le (A : Option Addr) (N c : Nat) (S : Nat → Sp) (l : Int) (w : World) (hN : N ≤ 9223372036854775807) (h0 : 0 ≤ l) (h1 : l ≤ 1048576) (h : RdW w A N S) :
    Calls Try.prog 31 #[.agg #[.slice A N c], .int .i64 l] w fun x w' => ∃ r : Int, x = .returned (.int .i64 r) ∧ Below w.heap.size w w' ∧ (r < 0 ∨ 0 ≤ r ∧ (N : Int) + tot S N ≤ l ∧ r ≤ l) := by
  have hb1 : Below w.heap.size w (w.alloc (.cells #[.slice A N c] 58)) := by (repeat (first | with_reducible exact Below.refl _ _ | with_reducible refine Below.drew ?_ | with_reducible refine below_drewN ?_ _ | (with_reducible refine bel_alloc ?_ ?_ _; (first | omega | (simp; omega) | simp)) | (with_reducible refine bel_set ?_ ?_ _; (first | omega | (simp; omega) | simp)) | (with_reducible refine bel_tr (by assumption) ?_ ?_; (first | omega | (simp; omega) | simp))))
  have H := Lib.hid (h.below hb1)
  clear h
  go_enter Try.func31, Try.ntmps31
  go_wp2_with fail
  refine (szPinSS_le A N c S l _ hN h0 h1 H.out).mono ?_
  rintro x w2 ⟨r, rfl, rfl, hr⟩
  by_cases hr0 : r < 0
  · go_wp2
    go_ret
    exact ⟨_, rfl, hb1, .inl (by omega)⟩
  · go_wp2
    go_ret
    exact ⟨_, rfl, hb1, by omega⟩
end Go.Proofs.Ytcicldcgibgnfaa
