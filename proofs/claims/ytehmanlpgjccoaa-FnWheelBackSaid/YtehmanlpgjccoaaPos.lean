/-
  The contract of the reference's PinsOf. No conditions beyond those stated.
-/
import Derived.Test.YtehmanlpgjccoaaPo
import Derived.Test.YtehmanlpgjccoaaWs
namespace Go.Proofs.Ytehmanlpgjccoaa
open Go.RowKit

set_option maxRecDepth 100000 in
set_option maxHeartbeats 8000000 in
theorem sPinsOf_any (A : Option Addr) (N c : Nat) (S : Nat → Sp) (w : World) (hN : N ≤ 4194304) (hT : tot S N ≤ 4194304) (h : RdW w A N S) :
    Calls Try.prog 13 #[.agg #[.slice A N c]] w fun y w' => ∃ (A' : Option Addr) (n' c' : Nat), y = .returned (.slice A' n' c') ∧ Own w.heap.size w' 2 A' n' (pinsL N S) ∧ (n' ≤ c' ∧ c' ≤ 9223372036854775807) ∧ Below w.heap.size w w' := by
  have H := Lib.hid h
  have HLen := Lib.hid h.lens
  clear h
  have r0 : Hid (((w.alloc (.cells #[.slice A N c] 26)).alloc (.cells #[] 28)).ownsRow (w.heap.size + 1) 28 2 (.slice (some ⟨w.heap.size + 1, 0, none⟩) 0 0) 0 (flat 2 [])) := Lib.hid (by
    have h := rowE (w.alloc (.cells #[.slice A N c] 26)) 28 2
    have e : (w.alloc (.cells #[.slice A N c] 26)).heap.size = w.heap.size + 1 := by simp
    rw [e] at h
    exact h)
  obtain ⟨w0, hw0⟩ : ∃ w0, w0 = (w.alloc (.cells #[.slice A N c] 26)).alloc (.cells #[] 28) := ⟨_, rfl⟩
  have b0 : Below w.heap.size w w0 := by rw [hw0]; (repeat (first | with_reducible exact Below.refl _ _ | with_reducible refine Below.drew ?_ | with_reducible refine below_drewN ?_ _ | (with_reducible refine bel_alloc ?_ ?_ _; (first | omega | (simp; omega) | simp)) | (with_reducible refine bel_set ?_ ?_ _; (first | omega | (simp; omega) | simp)) | (with_reducible refine bel_tr (by assumption) ?_ ?_; (first | omega | (simp; omega) | simp))))
  have s0 : w0.heap.size = w.heap.size + 2 := by rw [hw0]; simp
  have k0 : w0.cell? ⟨w.heap.size, 0, none⟩ = some (.slice A N c) := by rw [hw0]; (first | (go_keep; done) | (go_simp; done))
  rw [← hw0] at r0
  by_cases hW : WOK N S
  case neg =>
    go_enter Try.func13, Try.ntmps13
    go_wp2_with fail
    rw [← hw0]
    refine (tn (sWheelOk_any A N c S _ hN hT (H.out.below b0)) hW).mono ?_
    rintro y w1 ⟨rfl, hb1⟩
    have r1 := row_below r0.out hb1
    obtain ⟨A3, c3, he3, hc1, hc2, o3⟩ := own_of_row_cap rfl r1
    cases he3
    go_wp2
    go_ret
    exact ⟨_, _, _, rfl, by rw [pinsL_no hW]; exact o3.mono (by omega), ⟨hc1, hc2⟩, b0.trans (hb1.mono (by omega))⟩
  go_enter Try.func13, Try.ntmps13
  go_wp2_with fail
  rw [← hw0]
  refine (ty (sWheelOk_any A N c S _ hN hT (H.out.below b0)) hW).mono ?_
  rintro y w1 ⟨rfl, hb1⟩
  have s1 := hb1.size
  have k1 : w1.cell? ⟨w.heap.size, 0, none⟩ = some (.slice A N c) := (hb1.cell (p := ⟨w.heap.size, 0, none⟩) (by show w.heap.size < _; omega)).trans k0
  have r1 := Lib.hid (row_below r0.out hb1)
  have b1 : Hid (Below w.heap.size w w1) := Lib.hid (b0.trans (hb1.mono (by omega)))
  clear hb1
  go_wp2_with fail
  refine (l9All_any A N c S _ hN hT (H.out.below b1.out)).mono ?_
  rintro y w2 ⟨v2, rfl, hr2, hb2⟩
  have s2 := hb2.size
  have r2 := Lib.hid (row_below r1.out hb2)
  have B2 : Hid (Below w.heap.size w w2) := Lib.hid (b1.out.trans (hb2.mono (by omega)))
  have hlen := allS_len HLen.out
  obtain ⟨A2, c2, rfl, hc1, hc2, o2⟩ := own_of_row_cap hlen hr2
  have hnT := hW.2.1
  have O2 := Lib.hid o2
  clear o2 hr2 hb2 k1 k0 r0 r1
  have HP := Lib.hid (pinsL_yes hW)
  obtain ⟨T, hTT⟩ : ∃ T, T = tot S N := ⟨_, rfl⟩
  obtain ⟨L, hLL⟩ : ∃ L, L = allS S N := ⟨_, rfl⟩
  rw [← hTT, ← hLL] at O2 HP
  rw [← hTT] at hc1 hnT
  rw [← hTT]
  have HLL := Lib.hid hLL
  have HTT := Lib.hid hTT
  clear hlen hT hTT hLL
  go_wp2
  go_loopw [3, 5] (fun v i wr => ∃ k : Nat, k ≤ T ∧ i = .int .i64 k ∧ Hid (wr.ownsRow (w.heap.size + 1) 28 2 v k (flat 2 (sortL L k))) ∧ Hid (Below w2.heap.size w2 wr)) (fun _ i _ => T - (intOf i).toNat)
  case atStart => exact ⟨0, Nat.zero_le _, rfl, r2, Lib.hid (Below.refl _ _)⟩
  case round =>
    obtain ⟨k, hk, rfl, HR, HB⟩ := hrel
    have sB := HB.out.size
    by_cases hlt : k < T
    · have hki : (k : Int) < (T : Int) := by omega
      have hk0 : (0 : Int) ≤ (k : Int) := by omega
      obtain ⟨b, off, rfl, hb, hc⟩ := (O2.out.rd.below HB.out).2.resolve_left (by omega)
      have f0 := hc k hlt 0 (by omega)
      have f1 := hc k hlt 1 (by omega)
      rw [Nat.add_zero] at f0
      clear hc
      go_wp2_with (go_at_call 24; refine (l9Put_any (w.heap.size + 1) k _ (sortL L k) (fld L k) _ (by omega) (sortL_len L k) HR.out).mono ?_; rintro y w4 ⟨v4, rfl, hr4, hb4⟩)
      have H4 : Hid (w4.ownsRow (w.heap.size + 1) 28 2 v4 (k + 1) (flat 2 (sortL L (k + 1)))) := Lib.hid (hr4.lower (by omega))
      have HB4 := Lib.hid (HB.out.trans (hb4.mono (by omega)))
      clear hr4 hb4 HR HB
      go_wp2
      go_roundw
      case rel => exact ⟨k + 1, by omega, by go_num, H4, HB4⟩
      case measure => simp [intOf]; omega
    · have hkn : k = T := by omega
      subst hkn
      have hki : ¬ (k : Int) < (k : Int) := by omega
      obtain ⟨A3, c3, rfl, hd1, hd2, o3⟩ := own_of_row_cap (sortL_len L k) HR.out
      rw [← HP.out] at o3
      go_wp2
      go_ret
      exact ⟨A3, _, c3, rfl, o3.mono (by omega), ⟨hd1, hd2⟩, B2.out.trans (HB.out.mono (by omega))⟩
end Go.Proofs.Ytehmanlpgjccoaa
