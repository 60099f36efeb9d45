/-
  The contract of the reference's WheelOk. No conditions beyond those stated.
-/
import Derived.Test.YtjlmcppkafjniaaGreatWa
import Derived.Test.YtjlmcppkafjniaaGreatBw
import Derived.Deep.DeepCutAuto
namespace Go.Proofs.YtjlmcppkafjniaaGreat
open Go.RowKit

set_option maxRecDepth 100000 in
set_option maxHeartbeats 8000000 in
theorem sWheelOk_any (A : Option Addr) (N c : Nat) (S : Nat → Sp) (w : World) (hN : N ≤ 4194304) (hT : tot S N ≤ 4194304) (h : RdW w A N S) :
    Calls Tryz.prog 90 #[.agg #[.slice A N c]] w (TFB (WOK N S) w) := by
  have H := Lib.hid h
  have HLen := Lib.hid h.lens
  clear h
  go_enter Tryz.func90, Tryz.ntmps90
  go_wp2_with fail
  refine (l9All_any A N c S _ hN hT (H.out.below (by (repeat (first | with_reducible exact Below.refl _ _ | with_reducible refine Below.drew ?_ | with_reducible refine below_drewN ?_ _ | (with_reducible refine bel_alloc ?_ ?_ _; (first | omega | (simp; omega) | simp)) | (with_reducible refine bel_set ?_ ?_ _; (first | omega | (simp; omega) | simp)) | (with_reducible refine bel_tr (by assumption) ?_ ?_; (first | omega | (simp; omega) | simp))))))).mono ?_
  rintro y w1 ⟨v, rfl, r1, hb1⟩
  have bc1 := bcell hb1; obtain ⟨hc1, hf1⟩ := bc1; have ks1 := hb1.size; (try simp at ks1); have kc10 : ∀ o, w1.cell? ⟨w.heap.size, o, none⟩ = _ := (fun o => hb1.cell (p := ⟨w.heap.size, o, none⟩) (by (first | omega | (simp; omega) | simp))); have kf10 : ∀ o, w1.frozen? ⟨w.heap.size, o, none⟩ = _ := (fun o => hb1.frozen (p := ⟨w.heap.size, o, none⟩) (by (first | omega | (simp; omega) | simp))); have kz10 : w.heap.size < w1.heap.size := (by have hh := hb1.size; (try simp at hh); omega)
  have b1 : Below w.heap.size w w1 := by (repeat (first | with_reducible exact Below.refl _ _ | with_reducible refine Below.drew ?_ | with_reducible refine below_drewN ?_ _ | (with_reducible refine bel_alloc ?_ ?_ _; (first | omega | (simp; omega) | simp)) | (with_reducible refine bel_set ?_ ?_ _; (first | omega | (simp; omega) | simp)) | (with_reducible refine bel_tr (by assumption) ?_ ?_; (first | omega | (simp; omega) | simp))))
  obtain ⟨A1, c1, hv, o1⟩ := own_of_row (allS_len HLen.out) r1
  subst hv
  have O1 := Lib.hid o1.rd
  clear r1 o1
  have x1 : w1.cell? ⟨w.heap.size, 0, none⟩ = some (.slice A N c) := (kc10 0).trans (by go_simp)
  obtain ⟨T, hTT⟩ : ∃ T, T = tot S N := ⟨_, rfl⟩
  obtain ⟨L, hLL⟩ : ∃ L, L = allS S N := ⟨_, rfl⟩
  rw [← hTT, ← hLL] at O1
  rw [← hTT]
  rw [← hTT] at hT
  have HTT := Lib.hid hTT
  have HLL := Lib.hid hLL
  clear hTT hLL
  by_cases hN9 : N = 9
  case neg =>
    have hN9i : ¬ (N : Int) = 9 := by omega
    go_wp2
    go_ret
    exact .inr ⟨rfl, fun hq => hN9 hq.1, b1⟩
  subst hN9
  by_cases hT10 : T ≤ 10
  case neg =>
    have hTi : (10 : Int) < (T : Int) := by omega
    go_wp2
    go_ret
    exact .inr ⟨rfl, fun hq => by have h1 := hq.2.1; have h2 := HTT.out; omega, b1⟩
  have hTi : ¬ (10 : Int) < (T : Int) := by omega
  go_wp2
  go_loopw [4] (fun i wr => ∃ k : Nat, k ≤ T ∧ i = .int .i64 k ∧ Hid (∀ i, i < k → stepL L i) ∧ Below w1.heap.size w1 wr) (fun i _ => T - (intOf i).toNat)
  case atStart => exact ⟨0, Nat.zero_le _, rfl, Lib.hid (fun i hi => absurd hi (by omega)), Below.refl _ _⟩
  case round =>
    obtain ⟨k, hk, rfl, HQ, hbel⟩ := hrel
    obtain ⟨w2, rfl⟩ : ∃ w2, w2 = wr := ⟨_, rfl⟩
    have hsz := hbel.size
    have x2 : w2.cell? ⟨w.heap.size, 0, none⟩ = some (.slice A 9 c) := (hbel.cell (p := ⟨w.heap.size, 0, none⟩) (by (first | omega | (simp; omega) | simp))).trans x1
    have bw0 : Below w.heap.size w w2 := b1.trans (hbel.mono b1.size)
    by_cases hlt : k < T
    case neg =>
      have hkT : k = T := by omega
      subst hkT
      have hdk : decide (k < k) = false := by simp
      go_wp2
      clear x1
      go_loopw [6] (fun i wr => ∃ k2 : Nat, k2 ≤ 9 ∧ i = .int .i64 k2 ∧ Hid (∀ k', k' < k2 → ∀ i, i < (S k').n → stepW S k' i) ∧ Below w2.heap.size w2 wr) (fun i _ => 9 - (intOf i).toNat)
      case atStart => exact ⟨0, Nat.zero_le _, rfl, Lib.hid (fun i hi => absurd hi (by omega)), Below.refl _ _⟩
      case round =>
        obtain ⟨k2, hk2, rfl, HS, hbel2⟩ := hrel
        obtain ⟨w3, rfl⟩ : ∃ w3, w3 = wr := ⟨_, rfl⟩
        have hsz2 := hbel2.size
        have x3 : w3.cell? ⟨w.heap.size, 0, none⟩ = some (.slice A 9 c) := (hbel2.cell (p := ⟨w.heap.size, 0, none⟩) (by (first | omega | (simp; omega) | simp))).trans x2
        have bw2 : Below w.heap.size w w3 := bw0.trans (hbel2.mono (by (first | omega | (simp; omega) | simp)))
        by_cases hlt2 : k2 < 9
        case neg =>
          have hk9 : k2 = 9 := by omega
          subst hk9
          go_wp2
          go_ret
          exact .inl ⟨rfl, ⟨rfl, by rw [← HTT.out]; exact hT10, by rw [← HTT.out, ← HLL.out]; exact HQ.out, HS.out⟩, bw2⟩
        obtain ⟨b, off, rfl⟩ := H.out.addr (by omega)
        have hki2 : (k2 : Int) < 9 := by omega
        have hk20 : (0 : Int) ≤ (k2 : Int) := by omega
        go_wp2
        go_loopw [7] (fun i wr => ∃ i2 : Nat, i2 ≤ (S k2).n ∧ i = .int .i64 i2 ∧ Hid (∀ i, i < i2 → stepW S k2 i) ∧ Below w3.heap.size w3 wr) (fun i _ => (S k2).n - (intOf i).toNat)
        case atStart => exact ⟨0, Nat.zero_le _, rfl, Lib.hid (fun i hi => absurd hi (by omega)), Below.refl _ _⟩
        case round =>
          obtain ⟨i, hi, rfl, HI, hbel3⟩ := hrel
          have hsz3 := hbel3.size
          have bw3 : Below w.heap.size w wr := bw2.trans (hbel3.mono (by (first | omega | (simp; omega) | simp)))
          have R3 := Lib.hid (H.out.below bw3)
          have hb3 := R3.out.lt (by omega)
          have x4 : wr.cell? ⟨w.heap.size, 0, none⟩ = some (.slice (some ⟨b, off, none⟩) 9 c) := (hbel3.cell (p := ⟨w.heap.size, 0, none⟩) (by (first | omega | (simp; omega) | simp))).trans x3
          have c0 := R3.out.cell hlt2
          by_cases hlt3 : i < (S k2).n
          case neg =>
            have hin : i = (S k2).n := by omega
            subst hin
            have HS2 : Hid (∀ k', k' < k2 + 1 → ∀ i, i < (S k').n → stepW S k' i) := fun k' hk' => by
              by_cases h1 : k' < k2
              · exact HS.out k' h1
              · obtain rfl : k' = k2 := by omega
                exact HI.out
            go_wp2
            go_roundw
            case rel => exact ⟨k2 + 1, by omega, by go_num, HS2, hbel2.trans (hbel3.mono (by (first | omega | (simp; omega) | simp)))⟩
            case measure => simp [intOf]; omega
          obtain ⟨k, hkk⟩ : ∃ k, k = k2 := ⟨_, rfl⟩
          subst hkk
          obtain ⟨b2, off2, hA2, hb2, hc2⟩ := (R3.out.rd k hlt2).2.resolve_left (by omega)
          rw [hA2] at c0
          have e0 := hc2 i hlt3 0 (by omega)
          have e1 := hc2 i hlt3 1 (by omega)
          rw [Nat.add_zero] at e0
          have hle := R3.out.le k hlt2
          have hcap := R3.out.cap k hlt2
          have HST := Lib.hid (HQ.out (tot S k + i) (by rw [HTT.out]; have := tot_one (S := S) hlt2; omega))
          have HEQ : Hid (fld L (tot S k + i) = fld (S k).es i) := Lib.hid (by rw [HLL.out]; exact allS_get HLen.out hlt2 hlt3)
          have hpos : 0 ≤ fld (S k).es i 0 := by
            have h1 := HST.out.1
            rw [HEQ.out] at h1
            have := h1.1
            omega
          clear HST HEQ
          have hki : (i : Int) < ((S k).n : Int) := by omega
          have hi0 : (0 : Int) ≤ (i : Int) := by omega
          by_cases hm9 : fld (S k).es i 0 % 9 = (k : Int)
          case neg =>
            have HNO : Hid (¬ WOK 9 S) := fun hq => hm9 (hq.2.2.2 k hlt2 i hlt3).1
            have hq9 : (fld (S k).es i 0 % 9 != (k : Int)) = true := by simp [hm9]
            clear hc2
            go_wp2
            refine wp_region_bw (by kernel_rfl) (by kernel_rfl) (fun W hW => ?_)
            have q0 : ∀ p : BW W, p.w.cell? ⟨w.heap.size, 0, none⟩ = some (.slice (some ⟨b, off, none⟩) 9 c) := fun p => p.cell (by rw [hW]; (first | omega | (simp; omega) | simp)) (by rw [hW]; (first | (go_keep; done) | (go_simp; done)))
            have q1 : ∀ p : BW W, p.w.cell? ⟨b, off + k, none⟩ = some (.slice (some ⟨b2, off2, none⟩) (S k).n (S k).c) := fun p => p.cell (by rw [hW]; (first | omega | (simp; omega) | simp)) (by rw [hW]; (first | (go_keep; done) | (go_simp; done)))
            have q2 : ∀ p : BW W, p.w.cell? ⟨b2, off2 + i * 2, none⟩ = some (.int .i64 (fld (S k).es i 0)) := fun p => p.cell (by rw [hW]; (first | omega | (simp; omega) | simp)) (by rw [hW]; (first | (go_keep; done) | (go_simp; done)))
            have q3 : ∀ p : BW W, p.w.cell? ⟨b2, off2 + i * 2 + 1, none⟩ = some (.int .i64 (fld (S k).es i 1)) := fun p => p.cell (by rw [hW]; (first | omega | (simp; omega) | simp)) (by rw [hW]; (first | (go_keep; done) | (go_simp; done)))
            have hbW : Below wr.heap.size wr W := by rw [hW]; (repeat (first | with_reducible exact Below.refl _ _ | with_reducible refine Below.drew ?_ | with_reducible refine below_drewN ?_ _ | (with_reducible refine bel_alloc ?_ ?_ _; (first | omega | (simp; omega) | simp)) | (with_reducible refine bel_set ?_ ?_ _; (first | omega | (simp; omega) | simp)) | (with_reducible refine bel_tr (by assumption) ?_ ?_; (first | omega | (simp; omega) | simp))))
            have HW := Lib.hid hW
            clear hW
            repeat (go_big_quiet_step ((fail)))
            refine wpQuiet_nil ?_
            intro wq hq
            have hbq : Below W.heap.size W wq := by (obtain ⟨p, hp⟩ := hq; rw [hp]; exact p.below)
            clear hq
            have hbel4 : Below wr.heap.size wr wq := hbW.trans (hbq.mono hbW.size)
            have sq := hbel4.size
            clear q0 q1 q2 q3
            go_wp2
            go_ret
            exact .inr ⟨rfl, HNO.out, bw3.trans (hbel4.mono (by (first | omega | (simp; omega) | simp)))⟩
          have hq9 : (fld (S k).es i 0 % 9 != (k : Int)) = false := by simp [hm9]
          by_cases hi1 : i = 0
          · have HI2 : Hid (∀ i', i' < i + 1 → stepW S k i') := fun i' hi' => by
              obtain rfl : i' = i := by omega
              exact ⟨hm9, fun h => absurd h (by omega)⟩
            have hd0 : decide (0 < i) = false := by simp [hi1]
            have hd1 : ¬ (0 : Int) < (i : Int) := by omega
            clear hc2 hi1
            go_wp2
            refine wp_region_bw (by kernel_rfl) (by kernel_rfl) (fun W hW => ?_)
            have q0 : ∀ p : BW W, p.w.cell? ⟨w.heap.size, 0, none⟩ = some (.slice (some ⟨b, off, none⟩) 9 c) := fun p => p.cell (by rw [hW]; (first | omega | (simp; omega) | simp)) (by rw [hW]; (first | (go_keep; done) | (go_simp; done)))
            have q1 : ∀ p : BW W, p.w.cell? ⟨b, off + k, none⟩ = some (.slice (some ⟨b2, off2, none⟩) (S k).n (S k).c) := fun p => p.cell (by rw [hW]; (first | omega | (simp; omega) | simp)) (by rw [hW]; (first | (go_keep; done) | (go_simp; done)))
            have q2 : ∀ p : BW W, p.w.cell? ⟨b2, off2 + i * 2, none⟩ = some (.int .i64 (fld (S k).es i 0)) := fun p => p.cell (by rw [hW]; (first | omega | (simp; omega) | simp)) (by rw [hW]; (first | (go_keep; done) | (go_simp; done)))
            have q3 : ∀ p : BW W, p.w.cell? ⟨b2, off2 + i * 2 + 1, none⟩ = some (.int .i64 (fld (S k).es i 1)) := fun p => p.cell (by rw [hW]; (first | omega | (simp; omega) | simp)) (by rw [hW]; (first | (go_keep; done) | (go_simp; done)))
            have hbW : Below wr.heap.size wr W := by rw [hW]; (repeat (first | with_reducible exact Below.refl _ _ | with_reducible refine Below.drew ?_ | with_reducible refine below_drewN ?_ _ | (with_reducible refine bel_alloc ?_ ?_ _; (first | omega | (simp; omega) | simp)) | (with_reducible refine bel_set ?_ ?_ _; (first | omega | (simp; omega) | simp)) | (with_reducible refine bel_tr (by assumption) ?_ ?_; (first | omega | (simp; omega) | simp))))
            have HW := Lib.hid hW
            clear hW
            repeat (go_big_quiet_step ((fail)))
            refine wpQuiet_nil ?_
            intro wq hq
            have hbq : Below W.heap.size W wq := by (obtain ⟨p, hp⟩ := hq; rw [hp]; exact p.below)
            clear hq
            have hbel4 : Below wr.heap.size wr wq := hbW.trans (hbq.mono hbW.size)
            have sq := hbel4.size
            clear q0 q1 q2 q3
            go_wp2
            go_roundw
            case rel => exact ⟨i + 1, by omega, by go_num, HI2, hbel3.trans (hbel4.mono (by (first | omega | (simp; omega) | simp)))⟩
            case measure => simp [intOf]; omega
          obtain ⟨m, hm⟩ : ∃ m, i = m + 1 := ⟨i - 1, by omega⟩
          have hwm : IntKind.i64.wrap ((i : Int) - 1) = (m : Int) := by rw [IntKind.wrap_i64]; omega
          have hm0 : (0 : Int) ≤ (m : Int) := by omega
          have hmn : (m : Int) < ((S k).n : Int) := by omega
          have hd0 : decide (0 < i) = true := by simp; omega
          have hd1 : (0 : Int) < (i : Int) := by omega
          have f0 := hc2 m (by omega) 0 (by omega)
          have f1 := hc2 m (by omega) 1 (by omega)
          rw [Nat.add_zero] at f0
          clear hc2
          by_cases hL : ltP (fld (S k).es m) (fld (S k).es i)
          · have HI2 : Hid (∀ i', i' < i + 1 → stepW S k i') := fun i' hi' => by
              by_cases h1 : i' < i
              · exact HI.out i' h1
              · obtain rfl : i' = i := by omega
                exact ⟨hm9, fun _ => by rw [show i' - 1 = m by omega]; exact hL⟩
            have HM := Lib.hid hm
            clear hm
            go_wp2
            refine wp_region_bw (by kernel_rfl) (by kernel_rfl) (fun W hW => ?_)
            have q0 : ∀ p : BW W, p.w.cell? ⟨w.heap.size, 0, none⟩ = some (.slice (some ⟨b, off, none⟩) 9 c) := fun p => p.cell (by rw [hW]; (first | omega | (simp; omega) | simp)) (by rw [hW]; (first | (go_keep; done) | (go_simp; done)))
            have q1 : ∀ p : BW W, p.w.cell? ⟨b, off + k, none⟩ = some (.slice (some ⟨b2, off2, none⟩) (S k).n (S k).c) := fun p => p.cell (by rw [hW]; (first | omega | (simp; omega) | simp)) (by rw [hW]; (first | (go_keep; done) | (go_simp; done)))
            have q2 : ∀ p : BW W, p.w.cell? ⟨b2, off2 + i * 2, none⟩ = some (.int .i64 (fld (S k).es i 0)) := fun p => p.cell (by rw [hW]; (first | omega | (simp; omega) | simp)) (by rw [hW]; (first | (go_keep; done) | (go_simp; done)))
            have q3 : ∀ p : BW W, p.w.cell? ⟨b2, off2 + i * 2 + 1, none⟩ = some (.int .i64 (fld (S k).es i 1)) := fun p => p.cell (by rw [hW]; (first | omega | (simp; omega) | simp)) (by rw [hW]; (first | (go_keep; done) | (go_simp; done)))
            have q4 : ∀ p : BW W, p.w.cell? ⟨b2, off2 + m * 2, none⟩ = some (.int .i64 (fld (S k).es m 0)) := fun p => p.cell (by rw [hW]; (first | omega | (simp; omega) | simp)) (by rw [hW]; (first | (go_keep; done) | (go_simp; done)))
            have q5 : ∀ p : BW W, p.w.cell? ⟨b2, off2 + m * 2 + 1, none⟩ = some (.int .i64 (fld (S k).es m 1)) := fun p => p.cell (by rw [hW]; (first | omega | (simp; omega) | simp)) (by rw [hW]; (first | (go_keep; done) | (go_simp; done)))
            have hbW : Below wr.heap.size wr W := by rw [hW]; (repeat (first | with_reducible exact Below.refl _ _ | with_reducible refine Below.drew ?_ | with_reducible refine below_drewN ?_ _ | (with_reducible refine bel_alloc ?_ ?_ _; (first | omega | (simp; omega) | simp)) | (with_reducible refine bel_set ?_ ?_ _; (first | omega | (simp; omega) | simp)) | (with_reducible refine bel_tr (by assumption) ?_ ?_; (first | omega | (simp; omega) | simp))))
            have HW := Lib.hid hW
            clear hW
            repeat (go_big_quiet_step ((first | (go_at_call 114; first | exact bw_of (ty (l9Less_any (fld (S k).es m) (fld (S k).es i) _) hL) | exact bw_of (tn (l9Less_any (fld (S k).es m) (fld (S k).es i) _) hL)))))
            refine wpQuiet_nil ?_
            intro wq hq
            have hbq : Below W.heap.size W wq := by (obtain ⟨p, hp⟩ := hq; rw [hp]; exact p.below)
            clear hq
            have hbel4 : Below wr.heap.size wr wq := hbW.trans (hbq.mono hbW.size)
            have sq := hbel4.size
            clear q0 q1 q2 q3 q4 q5
            go_wp2
            go_roundw
            case rel => exact ⟨i + 1, by omega, by go_num, HI2, hbel3.trans (hbel4.mono (by (first | omega | (simp; omega) | simp)))⟩
            case measure => simp [intOf]; omega
          · have HNO : Hid (¬ WOK 9 S) := fun hq => hL (by
              have h1 := (hq.2.2.2 k hlt2 i hlt3).2 (by omega)
              rw [show i - 1 = m by omega] at h1
              exact h1)
            have HM := Lib.hid hm
            clear hm
            go_wp2
            refine wp_region_bw (by kernel_rfl) (by kernel_rfl) (fun W hW => ?_)
            have q0 : ∀ p : BW W, p.w.cell? ⟨w.heap.size, 0, none⟩ = some (.slice (some ⟨b, off, none⟩) 9 c) := fun p => p.cell (by rw [hW]; (first | omega | (simp; omega) | simp)) (by rw [hW]; (first | (go_keep; done) | (go_simp; done)))
            have q1 : ∀ p : BW W, p.w.cell? ⟨b, off + k, none⟩ = some (.slice (some ⟨b2, off2, none⟩) (S k).n (S k).c) := fun p => p.cell (by rw [hW]; (first | omega | (simp; omega) | simp)) (by rw [hW]; (first | (go_keep; done) | (go_simp; done)))
            have q2 : ∀ p : BW W, p.w.cell? ⟨b2, off2 + i * 2, none⟩ = some (.int .i64 (fld (S k).es i 0)) := fun p => p.cell (by rw [hW]; (first | omega | (simp; omega) | simp)) (by rw [hW]; (first | (go_keep; done) | (go_simp; done)))
            have q3 : ∀ p : BW W, p.w.cell? ⟨b2, off2 + i * 2 + 1, none⟩ = some (.int .i64 (fld (S k).es i 1)) := fun p => p.cell (by rw [hW]; (first | omega | (simp; omega) | simp)) (by rw [hW]; (first | (go_keep; done) | (go_simp; done)))
            have q4 : ∀ p : BW W, p.w.cell? ⟨b2, off2 + m * 2, none⟩ = some (.int .i64 (fld (S k).es m 0)) := fun p => p.cell (by rw [hW]; (first | omega | (simp; omega) | simp)) (by rw [hW]; (first | (go_keep; done) | (go_simp; done)))
            have q5 : ∀ p : BW W, p.w.cell? ⟨b2, off2 + m * 2 + 1, none⟩ = some (.int .i64 (fld (S k).es m 1)) := fun p => p.cell (by rw [hW]; (first | omega | (simp; omega) | simp)) (by rw [hW]; (first | (go_keep; done) | (go_simp; done)))
            have hbW : Below wr.heap.size wr W := by rw [hW]; (repeat (first | with_reducible exact Below.refl _ _ | with_reducible refine Below.drew ?_ | with_reducible refine below_drewN ?_ _ | (with_reducible refine bel_alloc ?_ ?_ _; (first | omega | (simp; omega) | simp)) | (with_reducible refine bel_set ?_ ?_ _; (first | omega | (simp; omega) | simp)) | (with_reducible refine bel_tr (by assumption) ?_ ?_; (first | omega | (simp; omega) | simp))))
            have HW := Lib.hid hW
            clear hW
            repeat (go_big_quiet_step ((first | (go_at_call 114; first | exact bw_of (ty (l9Less_any (fld (S k).es m) (fld (S k).es i) _) hL) | exact bw_of (tn (l9Less_any (fld (S k).es m) (fld (S k).es i) _) hL)))))
            refine wpQuiet_nil ?_
            intro wq hq
            have hbq : Below W.heap.size W wq := by (obtain ⟨p, hp⟩ := hq; rw [hp]; exact p.below)
            clear hq
            have hbel4 : Below wr.heap.size wr wq := hbW.trans (hbq.mono hbW.size)
            have sq := hbel4.size
            clear q0 q1 q2 q3 q4 q5
            go_wp2
            go_ret
            exact .inr ⟨rfl, HNO.out, bw3.trans (hbel4.mono (by (first | omega | (simp; omega) | simp)))⟩
    obtain ⟨b, off, hA1, hb, hc⟩ := O1.out.2.resolve_left (by omega)
    subst hA1
    have hbr : b < w2.heap.size := by omega
    have c0 : w2.cell? ⟨b, off + k * 2, none⟩ = some (.int .i64 (fld L k 0)) := (hbel.cell (p := ⟨b, off + k * 2, none⟩) hb).trans (hc k hlt 0 (by omega))
    have c1 : w2.cell? ⟨b, off + k * 2 + 1, none⟩ = some (.int .i64 (fld L k 1)) := (hbel.cell (p := ⟨b, off + k * 2 + 1, none⟩) hb).trans (hc k hlt 1 (by omega))
    have hki : (k : Int) < (T : Int) := by omega
    have hk0 : (0 : Int) ≤ (k : Int) := by omega
    by_cases g0 : 1 ≤ fld L k 0 ∧ fld L k 0 ≤ 1000008
    case neg =>
      have HNO : Hid (¬ WOK 9 S) := fun hq => by
        have h1 := (hq.2.2.1 k (by rw [← HTT.out]; exact hlt)).1
        rw [← HLL.out] at h1
        exact g0 h1.1
      clear hc
      go_wp2_with (go_at_call 44; first | (refine (sy (l1In_any _ _ _ _) (by assumption)).mono ?_; rintro y w9 ⟨rfl, rfl⟩) | (refine (sn (l1In_any _ _ _ _) (by assumption)).mono ?_; rintro y w9 ⟨rfl, rfl⟩))
      go_ret
      exact .inr ⟨rfl, HNO.out, bw0⟩
    by_cases g1 : 1 ≤ fld L k 1 ∧ fld L k 1 ≤ 999
    case neg =>
      have HNO : Hid (¬ WOK 9 S) := fun hq => by
        have h1 := (hq.2.2.1 k (by rw [← HTT.out]; exact hlt)).1
        rw [← HLL.out] at h1
        exact g1 h1.2
      clear hc
      go_wp2_with (go_at_call 44; first | (refine (sy (l1In_any _ _ _ _) (by assumption)).mono ?_; rintro y w9 ⟨rfl, rfl⟩) | (refine (sn (l1In_any _ _ _ _) (by assumption)).mono ?_; rintro y w9 ⟨rfl, rfl⟩))
      go_ret
      exact .inr ⟨rfl, HNO.out, bw0⟩
    have HC := Lib.hid hc
    have HP : Hid (pinR (fld L k)) := ⟨g0, g1⟩
    clear hc
    go_wp2_with (go_at_call 44; first | (refine (sy (l1In_any _ _ _ _) (by assumption)).mono ?_; rintro y w9 ⟨rfl, rfl⟩) | (refine (sn (l1In_any _ _ _ _) (by assumption)).mono ?_; rintro y w9 ⟨rfl, rfl⟩))
    clear g0 g1
    go_loopw [5] (fun i wr => ∃ j : Nat, j ≤ k ∧ i = .int .i64 j ∧ Hid (∀ j', j' < j → fld L j' 1 ≠ fld L k 1) ∧ Below w2.heap.size w2 wr) (fun i _ => k - (intOf i).toNat)
    case atStart => exact ⟨0, Nat.zero_le _, rfl, Lib.hid (fun i hi => absurd hi (by omega)), Below.refl _ _⟩
    case round =>
      obtain ⟨j, hj, rfl, HJ, hbel3⟩ := hrel
      have hsz3 := hbel3.size
      by_cases hlt3 : j < k
      case neg =>
        have hjk : j = k := by omega
        subst hjk
        have HQ2 : Hid (∀ i, i < j + 1 → stepL L i) := fun i hi => by
          by_cases h1 : i < j
          · exact HQ.out i h1
          · obtain rfl : i = j := by omega
            exact ⟨HP.out, HJ.out⟩
        have hdj : decide (j < j) = false := by simp
        go_wp2
        go_roundw
        case rel => exact ⟨j + 1, by omega, by go_num, HQ2, hbel.trans (hbel3.mono (by (first | omega | (simp; omega) | simp)))⟩
        case measure => simp [intOf]; omega
      have hdj : decide (j < k) = true := by simpa using hlt3
      have hjT : (j : Int) < (T : Int) := by omega
      have hj0 : (0 : Int) ≤ (j : Int) := by omega
      have hjT2 : j < T := by omega
      have e1 : wr.cell? ⟨b, off + k * 2 + 1, none⟩ = some (.int .i64 (fld L k 1)) := (hbel3.cell (p := ⟨b, off + k * 2 + 1, none⟩) hbr).trans c1
      have d1 : wr.cell? ⟨b, off + j * 2 + 1, none⟩ = some (.int .i64 (fld L j 1)) := (hbel3.cell (p := ⟨b, off + j * 2 + 1, none⟩) hbr).trans ((hbel.cell (p := ⟨b, off + j * 2 + 1, none⟩) hb).trans (HC.out j hjT2 1 (by omega)))
      have bw3 : Below w.heap.size w wr := bw0.trans (hbel3.mono (by (first | omega | (simp; omega) | simp)))
      by_cases hne : fld L j 1 = fld L k 1
      · have HNO : Hid (¬ WOK 9 S) := fun hq => by
          have h1 := (hq.2.2.1 k (by rw [← HTT.out]; exact hlt)).2 j hlt3
          rw [← HLL.out] at h1
          exact h1 hne
        go_wp2
        refine wp_region_bw (by kernel_rfl) (by kernel_rfl) (fun W hW => ?_)
        have q0 : ∀ p : BW W, p.w.cell? ⟨b, off + k * 2 + 1, none⟩ = some (.int .i64 (fld L k 1)) := fun p => p.cell (by rw [hW]; (first | omega | (simp; omega) | simp)) (by rw [hW]; (first | (go_keep; done) | (go_simp; done)))
        have q1 : ∀ p : BW W, p.w.cell? ⟨b, off + j * 2 + 1, none⟩ = some (.int .i64 (fld L j 1)) := fun p => p.cell (by rw [hW]; (first | omega | (simp; omega) | simp)) (by rw [hW]; (first | (go_keep; done) | (go_simp; done)))
        have hbW : Below wr.heap.size wr W := by rw [hW]; (repeat (first | with_reducible exact Below.refl _ _ | with_reducible refine Below.drew ?_ | with_reducible refine below_drewN ?_ _ | (with_reducible refine bel_alloc ?_ ?_ _; (first | omega | (simp; omega) | simp)) | (with_reducible refine bel_set ?_ ?_ _; (first | omega | (simp; omega) | simp)) | (with_reducible refine bel_tr (by assumption) ?_ ?_; (first | omega | (simp; omega) | simp))))
        have HW := Lib.hid hW
        clear hW
        repeat (go_big_quiet_step (fail))
        refine wpQuiet_nil ?_
        intro wq hq
        have hbq : Below W.heap.size W wq := by (obtain ⟨p, hp⟩ := hq; rw [hp]; exact p.below)
        clear hq
        have hbel4 : Below wr.heap.size wr wq := hbW.trans (hbq.mono hbW.size)
        have sq := hbel4.size
        clear q0 q1
        go_wp2
        go_ret
        exact .inr ⟨rfl, HNO.out, bw3.trans (hbel4.mono (by (first | omega | (simp; omega) | simp)))⟩
      · have HJ2 : Hid (∀ j', j' < j + 1 → fld L j' 1 ≠ fld L k 1) := fun j' hj' => by
          by_cases h1 : j' < j
          · exact HJ.out j' h1
          · obtain rfl : j' = j := by omega
            exact hne
        go_wp2
        refine wp_region_bw (by kernel_rfl) (by kernel_rfl) (fun W hW => ?_)
        have q0 : ∀ p : BW W, p.w.cell? ⟨b, off + k * 2 + 1, none⟩ = some (.int .i64 (fld L k 1)) := fun p => p.cell (by rw [hW]; (first | omega | (simp; omega) | simp)) (by rw [hW]; (first | (go_keep; done) | (go_simp; done)))
        have q1 : ∀ p : BW W, p.w.cell? ⟨b, off + j * 2 + 1, none⟩ = some (.int .i64 (fld L j 1)) := fun p => p.cell (by rw [hW]; (first | omega | (simp; omega) | simp)) (by rw [hW]; (first | (go_keep; done) | (go_simp; done)))
        have hbW : Below wr.heap.size wr W := by rw [hW]; (repeat (first | with_reducible exact Below.refl _ _ | with_reducible refine Below.drew ?_ | with_reducible refine below_drewN ?_ _ | (with_reducible refine bel_alloc ?_ ?_ _; (first | omega | (simp; omega) | simp)) | (with_reducible refine bel_set ?_ ?_ _; (first | omega | (simp; omega) | simp)) | (with_reducible refine bel_tr (by assumption) ?_ ?_; (first | omega | (simp; omega) | simp))))
        have HW := Lib.hid hW
        clear hW
        repeat (go_big_quiet_step (fail))
        refine wpQuiet_nil ?_
        intro wq hq
        have hbq : Below W.heap.size W wq := by (obtain ⟨p, hp⟩ := hq; rw [hp]; exact p.below)
        clear hq
        have hbel4 : Below wr.heap.size wr wq := hbW.trans (hbq.mono hbW.size)
        have sq := hbel4.size
        clear q0 q1
        go_wp2
        go_roundw
        case rel => exact ⟨j + 1, by omega, by go_num, HJ2, hbel3.trans (hbel4.mono (by (first | omega | (simp; omega) | simp)))⟩
        case measure => simp [intOf]; omega
end Go.Proofs.YtjlmcppkafjniaaGreat
