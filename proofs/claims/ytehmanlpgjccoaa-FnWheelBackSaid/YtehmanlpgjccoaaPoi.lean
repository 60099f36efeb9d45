/-
  The contract of the program's PinsOf. No conditions beyond those stated.
-/
import Derived.Test.YtehmanlpgjccoaaPo
import Derived.Test.YtehmanlpgjccoaaSof
import Derived.Test.YtehmanlpgjccoaaWi
namespace Go.Proofs.Ytehmanlpgjccoaa
open Go.RowKit

set_option maxRecDepth 100000 in
set_option maxHeartbeats 8000000 in
theorem iPinsOf_any (A : Option Addr) (N c : Nat) (S : Nat → Sp) (w : World) (hN : N ≤ 4194304) (hT : tot S N ≤ 4194304) (h : RdW w A N S) :
    Calls Try.prog 12 #[.agg #[.slice A N c]] w fun y w' => ∃ (A' : Option Addr) (n' c' : Nat), y = .returned (.slice A' n' c') ∧ Own w.heap.size w' 2 A' n' (pinsL N S) ∧ (n' ≤ c' ∧ c' ≤ 9223372036854775807) ∧ Below w.heap.size w w' := by
  obtain ⟨i0, hi0, hz0, hz1, hz2⟩ := info_parts copyPin_info
  have H := Lib.hid h
  have HLen := Lib.hid h.lens
  clear h
  by_cases hW : WOK N S
  case neg =>
    go_enter Try.func12, Try.ntmps12
    go_wp2_with fail
    refine (tn (iWheelOk_any A N c S _ hN hT (H.out.below (by (repeat (first | with_reducible exact Below.refl _ _ | with_reducible refine Below.drew ?_ | with_reducible refine below_drewN ?_ _ | (with_reducible refine bel_alloc ?_ ?_ _; (first | omega | (simp; omega) | simp)) | (with_reducible refine bel_set ?_ ?_ _; (first | omega | (simp; omega) | simp)) | (with_reducible refine bel_tr (by assumption) ?_ ?_; (first | omega | (simp; omega) | simp))))))) hW).mono ?_
    rintro y w1 ⟨rfl, hb1⟩
    have bc1 := bcell hb1; obtain ⟨hc1, hf1⟩ := bc1; have ks1 := hb1.size; (try simp at ks1); have kc10 : ∀ o, w1.cell? ⟨w.heap.size, o, none⟩ = _ := (fun o => hb1.cell (p := ⟨w.heap.size, o, none⟩) (by (first | omega | (simp; omega) | simp))); have kf10 : ∀ o, w1.frozen? ⟨w.heap.size, o, none⟩ = _ := (fun o => hb1.frozen (p := ⟨w.heap.size, o, none⟩) (by (first | omega | (simp; omega) | simp))); have kz10 : w.heap.size < w1.heap.size := (by have hh := hb1.size; (try simp at hh); omega)
    go_wp2
    go_ret
    exact ⟨none, 0, 0, rfl, by rw [pinsL_no hW]; exact ⟨rfl, .inl rfl⟩, ⟨Nat.le_refl _, by omega⟩, by (repeat (first | with_reducible exact Below.refl _ _ | with_reducible refine Below.drew ?_ | with_reducible refine below_drewN ?_ _ | (with_reducible refine bel_alloc ?_ ?_ _; (first | omega | (simp; omega) | simp)) | (with_reducible refine bel_set ?_ ?_ _; (first | omega | (simp; omega) | simp)) | (with_reducible refine bel_tr (by assumption) ?_ ?_; (first | omega | (simp; omega) | simp))))⟩
  go_enter Try.func12, Try.ntmps12
  go_wp2_with fail
  refine (ty (iWheelOk_any A N c S _ hN hT (H.out.below (by (repeat (first | with_reducible exact Below.refl _ _ | with_reducible refine Below.drew ?_ | with_reducible refine below_drewN ?_ _ | (with_reducible refine bel_alloc ?_ ?_ _; (first | omega | (simp; omega) | simp)) | (with_reducible refine bel_set ?_ ?_ _; (first | omega | (simp; omega) | simp)) | (with_reducible refine bel_tr (by assumption) ?_ ?_; (first | omega | (simp; omega) | simp))))))) hW).mono ?_
  rintro y w1 ⟨rfl, hb1⟩
  have bc1 := bcell hb1; obtain ⟨hc1, hf1⟩ := bc1; have ks1 := hb1.size; (try simp at ks1); have kc10 : ∀ o, w1.cell? ⟨w.heap.size, o, none⟩ = _ := (fun o => hb1.cell (p := ⟨w.heap.size, o, none⟩) (by (first | omega | (simp; omega) | simp))); have kf10 : ∀ o, w1.frozen? ⟨w.heap.size, o, none⟩ = _ := (fun o => hb1.frozen (p := ⟨w.heap.size, o, none⟩) (by (first | omega | (simp; omega) | simp))); have kz10 : w.heap.size < w1.heap.size := (by have hh := hb1.size; (try simp at hh); omega)
  have B1 : Hid (Below w.heap.size w w1) := Lib.hid (by (repeat (first | with_reducible exact Below.refl _ _ | with_reducible refine Below.drew ?_ | with_reducible refine below_drewN ?_ _ | (with_reducible refine bel_alloc ?_ ?_ _; (first | omega | (simp; omega) | simp)) | (with_reducible refine bel_set ?_ ?_ _; (first | omega | (simp; omega) | simp)) | (with_reducible refine bel_tr (by assumption) ?_ ?_; (first | omega | (simp; omega) | simp)))))
  have R1 : Hid (RdW w1 A N S) := Lib.hid (H.out.below B1.out)
  go_wp2
  go_loopw [3, 12] (fun v i wr => ∃ k : Nat, k ≤ N ∧ i = .int .i64 k ∧ Hid (wr.ownsRow (w.heap.size + 1) 28 2 v (tot S k) (flat 2 (allS S k))) ∧ Hid (Below (w.heap.size + 1) w1 wr)) (fun _ i _ => N - (intOf i).toNat)
  case atStart => exact ⟨0, Nat.zero_le _, rfl, Lib.hid (World.ownsRow_nil _ _ _ _), Lib.hid (Below.refl _ _)⟩
  case round =>
    obtain ⟨k, hk, rfl, HR, HB⟩ := hrel
    have sB := HB.out.size
    have hw1 : w.heap.size + 1 ≤ w1.heap.size := by (first | omega | (simp; omega) | simp)
    by_cases hlt : k < N
    · have hr : RdW wr A N S := H.out.below (B1.out.trans (HB.out.mono (by omega)))
      obtain ⟨b, off, rfl⟩ := hr.addr (by omega)
      have hb := hr.lt (by omega)
      have c0 := hr.cell hlt
      have HX := Lib.hid (hr.rd k hlt)
      have htk := tot_one (S := S) hlt
      have hki : (k : Int) < (N : Int) := by omega
      have hk0 : (0 : Int) ≤ (k : Int) := by omega
      clear hr
      go_wp2_with (at_builtin; go_must (refine wpList_append_rd _ rfl _ _ 34 rfl (w.heap.size + 1) 28 i0 _ 2 16 Try.underlying34 hi0 hz0 hz1 hz2 rfl (by omega) _ (tot S k) (allS S k) rfl HR.out (S k).A (S k).n (S k).c (S k).es rfl HX.out (by unfold maxLen; omega) (by omega) (by omega) ?_); intro v2 w2 hown2 hg2 hat2; have b2 : Below (w.heap.size + 1) wr w2 := (Below.refl _ wr).grown hg2 (by omega) (row_ge HR.out (Nat.le_refl _)); have s2 := b2.size)
      have H2 := Lib.hid hown2
      have HB2 := Lib.hid (HB.out.trans b2)
      clear hown2 hg2 hat2 HR HX
      go_wp2
      go_roundw
      case rel => exact ⟨k + 1, by omega, by go_num, H2, HB2⟩
      case measure => simp [intOf]; omega
    · have hkn : k = N := by omega
      subst hkn
      have hki : ¬ (k : Int) < (k : Int) := by omega
      have hlen := allS_len HLen.out
      have hT10 := hW.2.1
      obtain ⟨A3, c3, rfl, hc1, hc2, o3⟩ := own_of_row_cap hlen HR.out
      have O3 := Lib.hid o3
      clear o3
      go_wp2_with (go_at_call 29; refine (sortPins_any (w.heap.size + 1) A3 c3 (tot S k) (allS S k) _ (by omega) hc1 hc2 (by (first | omega | (simp; omega) | simp)) O3.out).mono ?_; rintro y w4 ⟨rfl, es4, o4, p4, s4, b4⟩)
      have e4 : es4 = pinsL k S := pinsL_of HLen.out hW p4 (by rw [o4.1]; exact s4)
      rw [e4] at o4
      go_ret
      exact ⟨A3, _, c3, rfl, o4.mono (by omega), ⟨hc1, hc2⟩, B1.out.trans ((HB.out.trans b4).mono (by omega))⟩
end Go.Proofs.Ytehmanlpgjccoaa
