/-
  Where slices lie, and what marking one of them does to the others.
-/
import Derived.Test.YtjlmcppkafjniaaGreatQo
import Derived.Test.YtjlmcppkafjniaaGreatEs
namespace Go.Proofs.YtjlmcppkafjniaaGreat
open Go.RowKit

set_option maxHeartbeats 400000 in
theorem isIndexQ_any (n m : Int) (w : World) (hm : 0 ≤ m) (hm2 : m ≤ 9223372036854775807) :
    Calls Tryz.prog 79 #[.int .i64 n, .int .i64 m] w (TF (0 ≤ n ∧ n ≤ m - 1) w) := by
  have hw : IntKind.i64.wrap (m - 1) = m - 1 := by rw [IntKind.wrap_i64]; omega
  go_enter Tryz.func79, Tryz.ntmps79
  go_wp2_with fail
  refine (within_any n 0 (m - 1) w).mono ?_
  rintro y w1 (⟨rfl, h1, rfl⟩ | ⟨rfl, h1, rfl⟩)
  · go_wp2
    go_ret
    exact .inl ⟨rfl, h1, rfl⟩
  · go_wp2
    go_ret
    exact .inr ⟨rfl, h1, rfl⟩
theorem isIndex5_any (n : Int) (w : World) : Calls Tryz.prog 79 #[.int .i64 n, .int .i64 5] w (TF (0 ≤ n ∧ n ≤ 4) w) := isIndexQ_any n 5 w (by omega) (by omega)

set_option maxRecDepth 100000 in
set_option maxHeartbeats 8000000 in
theorem iQueueOk_any (A : Option Addr) (n c : Nat) (es : List (Nat → Int)) (w : World) (hn0 : n ≤ 9223372036854775807) (hnc : n ≤ c) (h : Rd w 4 A n es) :
    Calls Tryz.prog 35 #[.slice A n c] w (TFB (QOk es n) w) := by
  by_cases hn : n ≤ 10
  case neg =>
    have hni : (10 : Int) < (n : Int) := by omega
    go_enter Tryz.func35, Tryz.ntmps35
    go_wp2
    go_ret
    exact .inr ⟨rfl, fun hq => hn hq.1, Below.refl _ _⟩
  have hn4 : n ≤ 4194304 := by omega
  have HR := Lib.hid h
  have hcases := h.2
  clear h
  have hni : ¬ (10 : Int) < (n : Int) := by omega
  go_enter Tryz.func35, Tryz.ntmps35
  go_wp2
  go_loopw [3, 10] (fun _ i wr => ∃ k : Nat, k ≤ n ∧ i = .int .i64 k ∧ Hid (∀ i, i < k → qStep es i) ∧ Below w.heap.size w wr) (fun _ i _ => n - (intOf i).toNat)
  case atStart => exact ⟨0, Nat.zero_le _, rfl, Lib.hid (fun i hi => absurd hi (by omega)), Below.refl _ _⟩
  case round =>
    obtain ⟨k, hk, rfl, HQ, hbel⟩ := hrel
    have hsz := hbel.size
    by_cases hlt : k < n
    case neg =>
      have hkn : k = n := by omega
      subst hkn
      go_wp2
      go_ret
      exact .inl ⟨rfl, ⟨hn, HQ.out⟩, hbel⟩
    obtain ⟨b, off, rfl, hb, hc⟩ := hcases.resolve_left (by omega)
    have hbr : b < wr.heap.size := by omega
    have c0 : wr.cell? ⟨b, off + k * 4, none⟩ = some (.int .i64 (fld es k 0)) := (hbel.cell (p := ⟨b, off + k * 4, none⟩) hb).trans (hc k hlt 0 (by omega))
    have c1 : wr.cell? ⟨b, off + k * 4 + 1, none⟩ = some (.int .i64 (fld es k 1)) := (hbel.cell (p := ⟨b, off + k * 4 + 1, none⟩) hb).trans (hc k hlt 1 (by omega))
    have c2 : wr.cell? ⟨b, off + k * 4 + 2, none⟩ = some (.int .i64 (fld es k 2)) := (hbel.cell (p := ⟨b, off + k * 4 + 2, none⟩) hb).trans (hc k hlt 2 (by omega))
    have c3 : wr.cell? ⟨b, off + k * 4 + 3, none⟩ = some (.int .i64 (fld es k 3)) := (hbel.cell (p := ⟨b, off + k * 4 + 3, none⟩) hb).trans (hc k hlt 3 (by omega))
    have hkc : k ≤ c := by omega
    have hk0 : (0 : Int) ≤ (k : Int) := by omega
    have hki : (k : Int) ≤ (n : Int) := by omega
    by_cases hkz : k = 0
    · have HF : Hid (FirstAt (hasId (es.take k) (fld es k 2)) k (-1)) := firstAt_none (fun i hi => absurd hi (by omega))
      clear hcases hc
      have hkd : ¬ (0 : Int) < (k : Int) := by omega
      have hkd2 : ¬ 0 < k := by omega
      have hkd3 : decide ((0 : Int) < (k : Int)) = false := by simpa using hkd2
      have hkd4 : decide (0 < k) = false := by simpa using hkd2
      have HKZ := Lib.hid hkz
      clear hkz
      go_wp2
      refine wp_region_bw (by kernel_rfl) (by kernel_rfl) (fun W hW => ?_)
      have q0 : ∀ p : BW W, p.w.cell? ⟨wr.heap.size, 0, none⟩ = some (.int .i64 (fld es k 0)) := fun p => p.cell (by rw [hW]; (first | omega | (simp; omega) | simp)) (by rw [hW]; first | (go_keep; done) | (go_simp; done))
      have q1 : ∀ p : BW W, p.w.cell? ⟨wr.heap.size, 1, none⟩ = some (.int .i64 (fld es k 1)) := fun p => p.cell (by rw [hW]; (first | omega | (simp; omega) | simp)) (by rw [hW]; first | (go_keep; done) | (go_simp; done))
      have q2 : ∀ p : BW W, p.w.cell? ⟨wr.heap.size, 2, none⟩ = some (.int .i64 (fld es k 2)) := fun p => p.cell (by rw [hW]; (first | omega | (simp; omega) | simp)) (by rw [hW]; first | (go_keep; done) | (go_simp; done))
      have q3 : ∀ p : BW W, p.w.cell? ⟨wr.heap.size, 3, none⟩ = some (.int .i64 (fld es k 3)) := fun p => p.cell (by rw [hW]; (first | omega | (simp; omega) | simp)) (by rw [hW]; first | (go_keep; done) | (go_simp; done))
      have hbW : Below w.heap.size w W := by rw [hW]; (repeat (first | with_reducible exact Below.refl _ _ | with_reducible refine Below.drew ?_ | with_reducible refine below_drewN ?_ _ | (with_reducible refine bel_alloc ?_ ?_ _; (first | omega | (simp; omega) | simp)) | (with_reducible refine bel_set ?_ ?_ _; (first | omega | (simp; omega) | simp)) | (with_reducible refine bel_tr (by assumption) ?_ ?_; (first | omega | (simp; omega) | simp))))
      have HRW : Hid (∀ p : BW W, Rd p.w 4 (some ⟨b, off, none⟩) n es) := fun p => HR.out.below (hbW.trans (p.below.mono hbW.size))
      have HW := Lib.hid hW
      clear hW
      repeat (go_big_quiet_step ((first | (go_at_call 78; exact bw_of (iQueueAt_is _ k c _ (es.take k) _ _ (by omega) ((HRW.out _).take (by omega)) HF.out)))))
      refine wpQuiet_nil ?_
      intro wq hq
      have hbq : Below W.heap.size W wq := by (obtain ⟨p, hp⟩ := hq; rw [hp]; exact p.below)
      clear hq
      have sW := hbW.size
      have hbel : Below w.heap.size w wq := hbW.trans (hbq.mono sW)
      have kxq : ∀ o, wq.cell? ⟨wr.heap.size, o, none⟩ = W.cell? ⟨wr.heap.size, o, none⟩ := fun o => hbq.cell (p := ⟨wr.heap.size, o, none⟩) (by rw [HW.out]; (first | omega | (simp; omega) | simp))
      have kz0 : wq.cell? ⟨wr.heap.size, 0, none⟩ = some (.int .i64 (fld es k 0)) := (kxq 0).trans (by rw [HW.out]; first | (go_keep; done) | (go_simp; done))
      have kz1 : wq.cell? ⟨wr.heap.size, 1, none⟩ = some (.int .i64 (fld es k 1)) := (kxq 1).trans (by rw [HW.out]; first | (go_keep; done) | (go_simp; done))
      have kz2 : wq.cell? ⟨wr.heap.size, 2, none⟩ = some (.int .i64 (fld es k 2)) := (kxq 2).trans (by rw [HW.out]; first | (go_keep; done) | (go_simp; done))
      have kz3 : wq.cell? ⟨wr.heap.size, 3, none⟩ = some (.int .i64 (fld es k 3)) := (kxq 3).trans (by rw [HW.out]; first | (go_keep; done) | (go_simp; done))
      clear kxq
      by_cases hbad : (¬ (0 ≤ fld es k 0 ∧ fld es k 0 ≤ 4)) ∨ ((0 ≤ fld es k 0 ∧ fld es k 0 ≤ 4) ∧ ¬ (1 ≤ fld es k 1 ∧ fld es k 1 ≤ 1000000)) ∨ ((0 ≤ fld es k 0 ∧ fld es k 0 ≤ 4) ∧ (1 ≤ fld es k 1 ∧ fld es k 1 ≤ 1000000) ∧ ¬ (1 ≤ fld es k 2 ∧ fld es k 2 ≤ 999)) ∨ ((0 ≤ fld es k 0 ∧ fld es k 0 ≤ 4) ∧ (1 ≤ fld es k 1 ∧ fld es k 1 ≤ 1000000) ∧ (1 ≤ fld es k 2 ∧ fld es k 2 ≤ 999) ∧ ¬ (1 ≤ fld es k 3 ∧ fld es k 3 ≤ 6))
      · have hno : ¬ QOk es n := fun hq => by
          have h1 := (hq.2 k hlt).1
          unfold eOk at h1
          rcases hbad with h2 | h2 | h2 | h2 <;> simp_all
        rcases hbad with h2 | ⟨h1, h2⟩ | ⟨h0, h1, h2⟩ | ⟨h3, h0, h1, h2⟩
        all_goals
          have HNO := Lib.hid hno
          clear hno
          go_wp2_with (first | (go_at_call 76; first | (refine (sy (within_any _ _ _ _) (by assumption)).mono ?_; rintro y w9 ⟨rfl, rfl⟩) | (refine (sn (within_any _ _ _ _) (by assumption)).mono ?_; rintro y w9 ⟨rfl, rfl⟩)) | (go_at_call 79; first | (refine (sy (isIndex5_any _ _) (by assumption)).mono ?_; rintro y w9 ⟨rfl, rfl⟩) | (refine (sn (isIndex5_any _ _) (by assumption)).mono ?_; rintro y w9 ⟨rfl, rfl⟩)))
          go_ret
          exact .inr ⟨rfl, HNO.out, by (repeat (first | with_reducible exact Below.refl _ _ | with_reducible refine Below.drew ?_ | with_reducible refine below_drewN ?_ _ | (with_reducible refine bel_alloc ?_ ?_ _; (first | omega | (simp; omega) | simp)) | (with_reducible refine bel_set ?_ ?_ _; (first | omega | (simp; omega) | simp)) | (with_reducible refine bel_tr (by assumption) ?_ ?_; (first | omega | (simp; omega) | simp))))⟩
      have hgood : (0 ≤ fld es k 0 ∧ fld es k 0 ≤ 4) ∧ (1 ≤ fld es k 1 ∧ fld es k 1 ≤ 1000000) ∧ (1 ≤ fld es k 2 ∧ fld es k 2 ≤ 999) ∧ (1 ≤ fld es k 3 ∧ fld es k 3 ≤ 6) := by
        refine ⟨?_, ?_, ?_, ?_⟩ <;> (apply Classical.byContradiction; intro hx; apply hbad; simp_all)
      have HG : Hid (eOk (fld es k)) := hgood
      clear hbad
      obtain ⟨g0, g1, g2, g3⟩ := hgood
      have HSS : Hid (qStep es k) := ⟨HG.out, fun hx => absurd hx (by have := HKZ.out; omega), fun i hi => absurd hi (by have := HKZ.out; omega)⟩
      go_wp2_with (first | (go_at_call 76; first | (refine (sy (within_any _ _ _ _) (by assumption)).mono ?_; rintro y w9 ⟨rfl, rfl⟩) | (refine (sn (within_any _ _ _ _) (by assumption)).mono ?_; rintro y w9 ⟨rfl, rfl⟩)) | (go_at_call 79; first | (refine (sy (isIndex5_any _ _) (by assumption)).mono ?_; rintro y w9 ⟨rfl, rfl⟩) | (refine (sn (isIndex5_any _ _) (by assumption)).mono ?_; rintro y w9 ⟨rfl, rfl⟩)))
      go_roundw
      case rel => exact ⟨k + 1, by omega, by go_num, Lib.hid (qOk_ext HQ.out HSS.out), by (repeat (first | with_reducible exact Below.refl _ _ | with_reducible refine Below.drew ?_ | with_reducible refine below_drewN ?_ _ | (with_reducible refine bel_alloc ?_ ?_ _; (first | omega | (simp; omega) | simp)) | (with_reducible refine bel_set ?_ ?_ _; (first | omega | (simp; omega) | simp)) | (with_reducible refine bel_tr (by assumption) ?_ ?_; (first | omega | (simp; omega) | simp))))⟩
      case measure => simp [intOf]; omega
    obtain ⟨m, hm⟩ : ∃ m, k = m + 1 := ⟨k - 1, by omega⟩
    have hkm : IntKind.i64.wrap ((k : Int) - 1) = (m : Int) := by rw [IntKind.wrap_i64]; omega
    have hm0 : (0 : Int) ≤ (m : Int) := by omega
    have hmn : (m : Int) < (n : Int) := by omega
    have hmn2 : m < n := by omega
    have hkp : 0 < k := by omega
    have hkp2 : (0 : Int) < (k : Int) := by omega
    have hkd3 : decide ((0 : Int) < (k : Int)) = true := by simpa using hkp
    have hkd4 : decide (0 < k) = true := by simpa using hkp
    have HM := Lib.hid hm
    clear hm hkz
    have d0 : wr.cell? ⟨b, off + m * 4, none⟩ = some (.int .i64 (fld es m 0)) := (hbel.cell (p := ⟨b, off + m * 4, none⟩) hb).trans (hc m hmn2 0 (by omega))
    have d1 : wr.cell? ⟨b, off + m * 4 + 1, none⟩ = some (.int .i64 (fld es m 1)) := (hbel.cell (p := ⟨b, off + m * 4 + 1, none⟩) hb).trans (hc m hmn2 1 (by omega))
    have d2 : wr.cell? ⟨b, off + m * 4 + 2, none⟩ = some (.int .i64 (fld es m 2)) := (hbel.cell (p := ⟨b, off + m * 4 + 2, none⟩) hb).trans (hc m hmn2 2 (by omega))
    have d3 : wr.cell? ⟨b, off + m * 4 + 3, none⟩ = some (.int .i64 (fld es m 3)) := (hbel.cell (p := ⟨b, off + m * 4 + 3, none⟩) hb).trans (hc m hmn2 3 (by omega))
    rcases Bool.eq_false_or_eq_true (eLt (fld es m 0) (fld es k 0) (fld es m 1) (fld es k 1)) with hL | hL
    case inr =>
      have HNO : Hid (¬ QOk es n) := fun hq => by
        have h1 := (hq.2 k hlt).2.1 hkp
        rw [show k - 1 = m by have := HM.out; omega] at h1
        unfold lessE at h1
        rw [hL] at h1
        cases h1
      clear hcases hc
      go_wp2
      refine wp_region_bw (by kernel_rfl) (by kernel_rfl) (fun W hW => ?_)
      have q0 : ∀ p : BW W, p.w.cell? ⟨b, off + m * 4, none⟩ = some (.int .i64 (fld es m 0)) := fun p => p.cell (by rw [hW]; (first | omega | (simp; omega) | simp)) (by rw [hW]; first | (go_keep; done) | (go_simp; done))
      have q1 : ∀ p : BW W, p.w.cell? ⟨b, off + m * 4 + 1, none⟩ = some (.int .i64 (fld es m 1)) := fun p => p.cell (by rw [hW]; (first | omega | (simp; omega) | simp)) (by rw [hW]; first | (go_keep; done) | (go_simp; done))
      have q2 : ∀ p : BW W, p.w.cell? ⟨b, off + m * 4 + 2, none⟩ = some (.int .i64 (fld es m 2)) := fun p => p.cell (by rw [hW]; (first | omega | (simp; omega) | simp)) (by rw [hW]; first | (go_keep; done) | (go_simp; done))
      have q3 : ∀ p : BW W, p.w.cell? ⟨b, off + m * 4 + 3, none⟩ = some (.int .i64 (fld es m 3)) := fun p => p.cell (by rw [hW]; (first | omega | (simp; omega) | simp)) (by rw [hW]; first | (go_keep; done) | (go_simp; done))
      have q4 : ∀ p : BW W, p.w.cell? ⟨wr.heap.size, 0, none⟩ = some (.int .i64 (fld es k 0)) := fun p => p.cell (by rw [hW]; (first | omega | (simp; omega) | simp)) (by rw [hW]; first | (go_keep; done) | (go_simp; done))
      have q5 : ∀ p : BW W, p.w.cell? ⟨wr.heap.size, 1, none⟩ = some (.int .i64 (fld es k 1)) := fun p => p.cell (by rw [hW]; (first | omega | (simp; omega) | simp)) (by rw [hW]; first | (go_keep; done) | (go_simp; done))
      have q6 : ∀ p : BW W, p.w.cell? ⟨wr.heap.size, 2, none⟩ = some (.int .i64 (fld es k 2)) := fun p => p.cell (by rw [hW]; (first | omega | (simp; omega) | simp)) (by rw [hW]; first | (go_keep; done) | (go_simp; done))
      have q7 : ∀ p : BW W, p.w.cell? ⟨wr.heap.size, 3, none⟩ = some (.int .i64 (fld es k 3)) := fun p => p.cell (by rw [hW]; (first | omega | (simp; omega) | simp)) (by rw [hW]; first | (go_keep; done) | (go_simp; done))
      have hbW : Below w.heap.size w W := by rw [hW]; (repeat (first | with_reducible exact Below.refl _ _ | with_reducible refine Below.drew ?_ | with_reducible refine below_drewN ?_ _ | (with_reducible refine bel_alloc ?_ ?_ _; (first | omega | (simp; omega) | simp)) | (with_reducible refine bel_set ?_ ?_ _; (first | omega | (simp; omega) | simp)) | (with_reducible refine bel_tr (by assumption) ?_ ?_; (first | omega | (simp; omega) | simp))))
      have HRW : Hid (∀ p : BW W, Rd p.w 4 (some ⟨b, off, none⟩) n es) := fun p => HR.out.below (hbW.trans (p.below.mono hbW.size))
      have HW := Lib.hid hW
      clear hW
      repeat (go_big_quiet_step ((first | (go_at_call 77; exact bw_of (iLess_n _ _ _ _ _ _ _ _ _ hL)))))
      refine wpQuiet_nil ?_
      intro wq hq
      have hbq : Below W.heap.size W wq := by (obtain ⟨p, hp⟩ := hq; rw [hp]; exact p.below)
      clear hq
      have sW := hbW.size
      have hbel : Below w.heap.size w wq := hbW.trans (hbq.mono sW)
      have kxq : ∀ o, wq.cell? ⟨wr.heap.size, o, none⟩ = W.cell? ⟨wr.heap.size, o, none⟩ := fun o => hbq.cell (p := ⟨wr.heap.size, o, none⟩) (by rw [HW.out]; (first | omega | (simp; omega) | simp))
      have kz0 : wq.cell? ⟨wr.heap.size, 0, none⟩ = some (.int .i64 (fld es k 0)) := (kxq 0).trans (by rw [HW.out]; first | (go_keep; done) | (go_simp; done))
      have kz1 : wq.cell? ⟨wr.heap.size, 1, none⟩ = some (.int .i64 (fld es k 1)) := (kxq 1).trans (by rw [HW.out]; first | (go_keep; done) | (go_simp; done))
      have kz2 : wq.cell? ⟨wr.heap.size, 2, none⟩ = some (.int .i64 (fld es k 2)) := (kxq 2).trans (by rw [HW.out]; first | (go_keep; done) | (go_simp; done))
      have kz3 : wq.cell? ⟨wr.heap.size, 3, none⟩ = some (.int .i64 (fld es k 3)) := (kxq 3).trans (by rw [HW.out]; first | (go_keep; done) | (go_simp; done))
      clear kxq
      go_wp2
      go_ret
      exact .inr ⟨rfl, HNO.out, by (repeat (first | with_reducible exact Below.refl _ _ | with_reducible refine Below.drew ?_ | with_reducible refine below_drewN ?_ _ | (with_reducible refine bel_alloc ?_ ?_ _; (first | omega | (simp; omega) | simp)) | (with_reducible refine bel_set ?_ ?_ _; (first | omega | (simp; omega) | simp)) | (with_reducible refine bel_tr (by assumption) ?_ ?_; (first | omega | (simp; omega) | simp))))⟩
    by_cases hD : ∀ i, i < k → fld es i 2 ≠ fld es k 2
    case neg =>
      obtain ⟨j, hj, hF1, hF2⟩ := firstAt_dup hlt hD
      have HF : Hid (FirstAt (hasId (es.take k) (fld es k 2)) k (j : Int)) := hF2
      have HNO : Hid (¬ QOk es n) := fun hq => hD (hq.2 k hlt).2.2
      have hjk : ((j : Int) != (k : Int)) = true := by simp; omega
      have hjk2 : ¬ (j : Int) = (k : Int) := by omega
      have hjk3 : ¬ j = k := by omega
      have hj0 : (0 : Int) ≤ (j : Int) := by omega
      clear hcases hc hF1 hF2 hD
      go_wp2
      refine wp_region_bw (by kernel_rfl) (by kernel_rfl) (fun W hW => ?_)
      have q0 : ∀ p : BW W, p.w.cell? ⟨b, off + m * 4, none⟩ = some (.int .i64 (fld es m 0)) := fun p => p.cell (by rw [hW]; (first | omega | (simp; omega) | simp)) (by rw [hW]; first | (go_keep; done) | (go_simp; done))
      have q1 : ∀ p : BW W, p.w.cell? ⟨b, off + m * 4 + 1, none⟩ = some (.int .i64 (fld es m 1)) := fun p => p.cell (by rw [hW]; (first | omega | (simp; omega) | simp)) (by rw [hW]; first | (go_keep; done) | (go_simp; done))
      have q2 : ∀ p : BW W, p.w.cell? ⟨b, off + m * 4 + 2, none⟩ = some (.int .i64 (fld es m 2)) := fun p => p.cell (by rw [hW]; (first | omega | (simp; omega) | simp)) (by rw [hW]; first | (go_keep; done) | (go_simp; done))
      have q3 : ∀ p : BW W, p.w.cell? ⟨b, off + m * 4 + 3, none⟩ = some (.int .i64 (fld es m 3)) := fun p => p.cell (by rw [hW]; (first | omega | (simp; omega) | simp)) (by rw [hW]; first | (go_keep; done) | (go_simp; done))
      have q4 : ∀ p : BW W, p.w.cell? ⟨wr.heap.size, 0, none⟩ = some (.int .i64 (fld es k 0)) := fun p => p.cell (by rw [hW]; (first | omega | (simp; omega) | simp)) (by rw [hW]; first | (go_keep; done) | (go_simp; done))
      have q5 : ∀ p : BW W, p.w.cell? ⟨wr.heap.size, 1, none⟩ = some (.int .i64 (fld es k 1)) := fun p => p.cell (by rw [hW]; (first | omega | (simp; omega) | simp)) (by rw [hW]; first | (go_keep; done) | (go_simp; done))
      have q6 : ∀ p : BW W, p.w.cell? ⟨wr.heap.size, 2, none⟩ = some (.int .i64 (fld es k 2)) := fun p => p.cell (by rw [hW]; (first | omega | (simp; omega) | simp)) (by rw [hW]; first | (go_keep; done) | (go_simp; done))
      have q7 : ∀ p : BW W, p.w.cell? ⟨wr.heap.size, 3, none⟩ = some (.int .i64 (fld es k 3)) := fun p => p.cell (by rw [hW]; (first | omega | (simp; omega) | simp)) (by rw [hW]; first | (go_keep; done) | (go_simp; done))
      have hbW : Below w.heap.size w W := by rw [hW]; (repeat (first | with_reducible exact Below.refl _ _ | with_reducible refine Below.drew ?_ | with_reducible refine below_drewN ?_ _ | (with_reducible refine bel_alloc ?_ ?_ _; (first | omega | (simp; omega) | simp)) | (with_reducible refine bel_set ?_ ?_ _; (first | omega | (simp; omega) | simp)) | (with_reducible refine bel_tr (by assumption) ?_ ?_; (first | omega | (simp; omega) | simp))))
      have HRW : Hid (∀ p : BW W, Rd p.w 4 (some ⟨b, off, none⟩) n es) := fun p => HR.out.below (hbW.trans (p.below.mono hbW.size))
      have HW := Lib.hid hW
      clear hW
      repeat (go_big_quiet_step ((first | (go_at_call 77; exact bw_of (iLess_y _ _ _ _ _ _ _ _ _ hL)) | (go_at_call 78; exact bw_of (iQueueAt_is _ k c _ (es.take k) _ _ (by omega) ((HRW.out _).take (by omega)) HF.out)))))
      refine wpQuiet_nil ?_
      intro wq hq
      have hbq : Below W.heap.size W wq := by (obtain ⟨p, hp⟩ := hq; rw [hp]; exact p.below)
      clear hq
      have sW := hbW.size
      have hbel : Below w.heap.size w wq := hbW.trans (hbq.mono sW)
      have kxq : ∀ o, wq.cell? ⟨wr.heap.size, o, none⟩ = W.cell? ⟨wr.heap.size, o, none⟩ := fun o => hbq.cell (p := ⟨wr.heap.size, o, none⟩) (by rw [HW.out]; (first | omega | (simp; omega) | simp))
      have kz0 : wq.cell? ⟨wr.heap.size, 0, none⟩ = some (.int .i64 (fld es k 0)) := (kxq 0).trans (by rw [HW.out]; first | (go_keep; done) | (go_simp; done))
      have kz1 : wq.cell? ⟨wr.heap.size, 1, none⟩ = some (.int .i64 (fld es k 1)) := (kxq 1).trans (by rw [HW.out]; first | (go_keep; done) | (go_simp; done))
      have kz2 : wq.cell? ⟨wr.heap.size, 2, none⟩ = some (.int .i64 (fld es k 2)) := (kxq 2).trans (by rw [HW.out]; first | (go_keep; done) | (go_simp; done))
      have kz3 : wq.cell? ⟨wr.heap.size, 3, none⟩ = some (.int .i64 (fld es k 3)) := (kxq 3).trans (by rw [HW.out]; first | (go_keep; done) | (go_simp; done))
      clear kxq
      go_wp2
      go_ret
      exact .inr ⟨rfl, HNO.out, by (repeat (first | with_reducible exact Below.refl _ _ | with_reducible refine Below.drew ?_ | with_reducible refine below_drewN ?_ _ | (with_reducible refine bel_alloc ?_ ?_ _; (first | omega | (simp; omega) | simp)) | (with_reducible refine bel_set ?_ ?_ _; (first | omega | (simp; omega) | simp)) | (with_reducible refine bel_tr (by assumption) ?_ ?_; (first | omega | (simp; omega) | simp))))⟩
    have HF : Hid (FirstAt (hasId (es.take k) (fld es k 2)) k (-1)) := firstAt_none hD
    clear hcases hc
    go_wp2
    refine wp_region_bw (by kernel_rfl) (by kernel_rfl) (fun W hW => ?_)
    have q0 : ∀ p : BW W, p.w.cell? ⟨b, off + m * 4, none⟩ = some (.int .i64 (fld es m 0)) := fun p => p.cell (by rw [hW]; (first | omega | (simp; omega) | simp)) (by rw [hW]; first | (go_keep; done) | (go_simp; done))
    have q1 : ∀ p : BW W, p.w.cell? ⟨b, off + m * 4 + 1, none⟩ = some (.int .i64 (fld es m 1)) := fun p => p.cell (by rw [hW]; (first | omega | (simp; omega) | simp)) (by rw [hW]; first | (go_keep; done) | (go_simp; done))
    have q2 : ∀ p : BW W, p.w.cell? ⟨b, off + m * 4 + 2, none⟩ = some (.int .i64 (fld es m 2)) := fun p => p.cell (by rw [hW]; (first | omega | (simp; omega) | simp)) (by rw [hW]; first | (go_keep; done) | (go_simp; done))
    have q3 : ∀ p : BW W, p.w.cell? ⟨b, off + m * 4 + 3, none⟩ = some (.int .i64 (fld es m 3)) := fun p => p.cell (by rw [hW]; (first | omega | (simp; omega) | simp)) (by rw [hW]; first | (go_keep; done) | (go_simp; done))
    have q4 : ∀ p : BW W, p.w.cell? ⟨wr.heap.size, 0, none⟩ = some (.int .i64 (fld es k 0)) := fun p => p.cell (by rw [hW]; (first | omega | (simp; omega) | simp)) (by rw [hW]; first | (go_keep; done) | (go_simp; done))
    have q5 : ∀ p : BW W, p.w.cell? ⟨wr.heap.size, 1, none⟩ = some (.int .i64 (fld es k 1)) := fun p => p.cell (by rw [hW]; (first | omega | (simp; omega) | simp)) (by rw [hW]; first | (go_keep; done) | (go_simp; done))
    have q6 : ∀ p : BW W, p.w.cell? ⟨wr.heap.size, 2, none⟩ = some (.int .i64 (fld es k 2)) := fun p => p.cell (by rw [hW]; (first | omega | (simp; omega) | simp)) (by rw [hW]; first | (go_keep; done) | (go_simp; done))
    have q7 : ∀ p : BW W, p.w.cell? ⟨wr.heap.size, 3, none⟩ = some (.int .i64 (fld es k 3)) := fun p => p.cell (by rw [hW]; (first | omega | (simp; omega) | simp)) (by rw [hW]; first | (go_keep; done) | (go_simp; done))
    have hbW : Below w.heap.size w W := by rw [hW]; (repeat (first | with_reducible exact Below.refl _ _ | with_reducible refine Below.drew ?_ | with_reducible refine below_drewN ?_ _ | (with_reducible refine bel_alloc ?_ ?_ _; (first | omega | (simp; omega) | simp)) | (with_reducible refine bel_set ?_ ?_ _; (first | omega | (simp; omega) | simp)) | (with_reducible refine bel_tr (by assumption) ?_ ?_; (first | omega | (simp; omega) | simp))))
    have HRW : Hid (∀ p : BW W, Rd p.w 4 (some ⟨b, off, none⟩) n es) := fun p => HR.out.below (hbW.trans (p.below.mono hbW.size))
    have HW := Lib.hid hW
    clear hW
    repeat (go_big_quiet_step ((first | (go_at_call 77; exact bw_of (iLess_y _ _ _ _ _ _ _ _ _ hL)) | (go_at_call 78; exact bw_of (iQueueAt_is _ k c _ (es.take k) _ _ (by omega) ((HRW.out _).take (by omega)) HF.out)))))
    refine wpQuiet_nil ?_
    intro wq hq
    have hbq : Below W.heap.size W wq := by (obtain ⟨p, hp⟩ := hq; rw [hp]; exact p.below)
    clear hq
    have sW := hbW.size
    have hbel : Below w.heap.size w wq := hbW.trans (hbq.mono sW)
    have kxq : ∀ o, wq.cell? ⟨wr.heap.size, o, none⟩ = W.cell? ⟨wr.heap.size, o, none⟩ := fun o => hbq.cell (p := ⟨wr.heap.size, o, none⟩) (by rw [HW.out]; (first | omega | (simp; omega) | simp))
    have kz0 : wq.cell? ⟨wr.heap.size, 0, none⟩ = some (.int .i64 (fld es k 0)) := (kxq 0).trans (by rw [HW.out]; first | (go_keep; done) | (go_simp; done))
    have kz1 : wq.cell? ⟨wr.heap.size, 1, none⟩ = some (.int .i64 (fld es k 1)) := (kxq 1).trans (by rw [HW.out]; first | (go_keep; done) | (go_simp; done))
    have kz2 : wq.cell? ⟨wr.heap.size, 2, none⟩ = some (.int .i64 (fld es k 2)) := (kxq 2).trans (by rw [HW.out]; first | (go_keep; done) | (go_simp; done))
    have kz3 : wq.cell? ⟨wr.heap.size, 3, none⟩ = some (.int .i64 (fld es k 3)) := (kxq 3).trans (by rw [HW.out]; first | (go_keep; done) | (go_simp; done))
    clear kxq
    by_cases hbad : (¬ (0 ≤ fld es k 0 ∧ fld es k 0 ≤ 4)) ∨ ((0 ≤ fld es k 0 ∧ fld es k 0 ≤ 4) ∧ ¬ (1 ≤ fld es k 1 ∧ fld es k 1 ≤ 1000000)) ∨ ((0 ≤ fld es k 0 ∧ fld es k 0 ≤ 4) ∧ (1 ≤ fld es k 1 ∧ fld es k 1 ≤ 1000000) ∧ ¬ (1 ≤ fld es k 2 ∧ fld es k 2 ≤ 999)) ∨ ((0 ≤ fld es k 0 ∧ fld es k 0 ≤ 4) ∧ (1 ≤ fld es k 1 ∧ fld es k 1 ≤ 1000000) ∧ (1 ≤ fld es k 2 ∧ fld es k 2 ≤ 999) ∧ ¬ (1 ≤ fld es k 3 ∧ fld es k 3 ≤ 6))
    · have hno : ¬ QOk es n := fun hq => by
        have h1 := (hq.2 k hlt).1
        unfold eOk at h1
        rcases hbad with h2 | h2 | h2 | h2 <;> simp_all
      rcases hbad with h2 | ⟨h1, h2⟩ | ⟨h0, h1, h2⟩ | ⟨h3, h0, h1, h2⟩
      all_goals
        have HNO := Lib.hid hno
        clear hno
        go_wp2_with (first | (go_at_call 76; first | (refine (sy (within_any _ _ _ _) (by assumption)).mono ?_; rintro y w9 ⟨rfl, rfl⟩) | (refine (sn (within_any _ _ _ _) (by assumption)).mono ?_; rintro y w9 ⟨rfl, rfl⟩)) | (go_at_call 79; first | (refine (sy (isIndex5_any _ _) (by assumption)).mono ?_; rintro y w9 ⟨rfl, rfl⟩) | (refine (sn (isIndex5_any _ _) (by assumption)).mono ?_; rintro y w9 ⟨rfl, rfl⟩)))
        go_ret
        exact .inr ⟨rfl, HNO.out, by (repeat (first | with_reducible exact Below.refl _ _ | with_reducible refine Below.drew ?_ | with_reducible refine below_drewN ?_ _ | (with_reducible refine bel_alloc ?_ ?_ _; (first | omega | (simp; omega) | simp)) | (with_reducible refine bel_set ?_ ?_ _; (first | omega | (simp; omega) | simp)) | (with_reducible refine bel_tr (by assumption) ?_ ?_; (first | omega | (simp; omega) | simp))))⟩
    have hgood : (0 ≤ fld es k 0 ∧ fld es k 0 ≤ 4) ∧ (1 ≤ fld es k 1 ∧ fld es k 1 ≤ 1000000) ∧ (1 ≤ fld es k 2 ∧ fld es k 2 ≤ 999) ∧ (1 ≤ fld es k 3 ∧ fld es k 3 ≤ 6) := by
      refine ⟨?_, ?_, ?_, ?_⟩ <;> (apply Classical.byContradiction; intro hx; apply hbad; simp_all)
    have HG : Hid (eOk (fld es k)) := hgood
    clear hbad
    obtain ⟨g0, g1, g2, g3⟩ := hgood
    have HSS : Hid (qStep es k) := ⟨HG.out, fun _ => by rw [show k - 1 = m by have := HM.out; omega]; exact hL, hD⟩
    go_wp2_with (first | (go_at_call 76; first | (refine (sy (within_any _ _ _ _) (by assumption)).mono ?_; rintro y w9 ⟨rfl, rfl⟩) | (refine (sn (within_any _ _ _ _) (by assumption)).mono ?_; rintro y w9 ⟨rfl, rfl⟩)) | (go_at_call 79; first | (refine (sy (isIndex5_any _ _) (by assumption)).mono ?_; rintro y w9 ⟨rfl, rfl⟩) | (refine (sn (isIndex5_any _ _) (by assumption)).mono ?_; rintro y w9 ⟨rfl, rfl⟩)))
    go_roundw
    case rel => exact ⟨k + 1, by omega, by go_num, Lib.hid (qOk_ext HQ.out HSS.out), by (repeat (first | with_reducible exact Below.refl _ _ | with_reducible refine Below.drew ?_ | with_reducible refine below_drewN ?_ _ | (with_reducible refine bel_alloc ?_ ?_ _; (first | omega | (simp; omega) | simp)) | (with_reducible refine bel_set ?_ ?_ _; (first | omega | (simp; omega) | simp)) | (with_reducible refine bel_tr (by assumption) ?_ ?_; (first | omega | (simp; omega) | simp))))⟩
    case measure => simp [intOf]; omega

end Go.Proofs.YtjlmcppkafjniaaGreat

namespace Go.Proofs.YtjlmcppkafjniaaGreat
open Go.RowKit

/-- The slice lies in blocks from lo on, below hi (or is empty). -/
def InB (A : Option Addr) (n lo hi : Nat) : Prop := n = 0 ∨ ∃ a, A = some a ∧ lo ≤ a.block ∧ a.block < hi

section
variable {w w' : World} {B K n : Nat} {A : Option Addr} {es : List (Nat → Int)}
theorem Own.inB (h : Own B w K A n es) : InB A n B w.heap.size := h.2.imp id fun ⟨b, off, h1, h2, h3, _⟩ => ⟨⟨b, off, none⟩, h1, h3, h2⟩

/-- A slice in other blocks than the one that turned reads as it did. -/
theorem Rd.grown_ (h : Rd w K A n es) {row : Option Nat} (hg : w.grownBy w' row) (hne : ∀ a, n ≠ 0 → A = some a → some a.block ≠ row) : Rd w' K A n es := by
  refine ⟨h.1, ?_⟩
  rcases Nat.eq_zero_or_pos n with h0 | h0
  · exact .inl h0
  · obtain ⟨b, off, h1, h2, h5⟩ := h.2.resolve_left (by omega)
    have hb := hg.block b h2 (hne _ (by omega) h1)
    exact .inr ⟨b, off, h1, Nat.lt_of_lt_of_le h2 hg.size, fun i hi j hj => (World.cell?_of_block (w := w) (w' := w') (a := ⟨b, off + i * K + j, none⟩) hb).trans (h5 i hi j hj)⟩
theorem Own.grown_ (h : Own B w K A n es) {row : Option Nat} (hg : w.grownBy w' row) (hne : ∀ a, n ≠ 0 → A = some a → some a.block ≠ row) : Own B w' K A n es := by
  refine ⟨h.1, ?_⟩
  rcases Nat.eq_zero_or_pos n with h0 | h0
  · exact .inl h0
  · obtain ⟨b, off, h1, h2, h3, h4, h5⟩ := h.2.resolve_left (by omega)
    have hb := hg.block b h2 (hne _ (by omega) h1)
    exact .inr ⟨b, off, h1, Nat.lt_of_lt_of_le h2 hg.size, h3, fun o => (World.frozen?_of_block (w := w) (w' := w') (a := ⟨b, o, none⟩) hb).trans (h4 o), fun i hi j hj => (World.cell?_of_block (w := w) (w' := w') (a := ⟨b, off + i * K + j, none⟩) hb).trans (h5 i hi j hj)⟩
end

/-- Two slices in different stretches of blocks: marking one leaves the other. -/
theorem ne_of_InB {A A2 : Option Addr} {n n2 lo hi lo2 hi2 : Nat} (h : InB A n lo hi) (h2 : InB A2 n2 lo2 hi2) (hd : hi ≤ lo2 ∨ hi2 ≤ lo) : ∀ a, n ≠ 0 → A = some a → some a.block ≠ (if n2 = 0 then none else A2.map (·.block)) := by
  intro a hn ha
  obtain ⟨a', ha', h3, h4⟩ := h.resolve_left hn
  rw [ha] at ha'
  injection ha' with ha'
  subst ha'
  by_cases h0 : n2 = 0
  · rw [if_pos h0]
    simp
  · rw [if_neg h0]
    obtain ⟨b, hb, h5, h6⟩ := h2.resolve_left h0
    rw [hb]
    simp only [Option.map_some, ne_eq, Option.some.injEq]
    omega

/-- Marking leaves all that lies below the slice's stretch. -/
theorem Marked.below {B K n m lo hi : Nat} {A : Option Addr} {w w' : World} (h : Marked B K A n m w w') (hA : InB A n lo hi) {B0 : Nat} (hB : B0 ≤ lo) (hw : B0 ≤ w.heap.size) : Below B0 w w' := by
  obtain ⟨_, hg, _⟩ := h
  refine (Below.refl B0 w).grown hg hw ?_
  intro k hk
  by_cases h0 : n = 0
  · rw [if_pos h0] at hk
    cases hk
  · rw [if_neg h0] at hk
    obtain ⟨a, rfl, h3, h4⟩ := hA.resolve_left h0
    simp only [Option.map_some, Option.some.injEq] at hk
    omega
end Go.Proofs.YtjlmcppkafjniaaGreat
