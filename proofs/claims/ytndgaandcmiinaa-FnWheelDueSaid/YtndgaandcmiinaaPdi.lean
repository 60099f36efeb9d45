/-
  The contract of the program's PinsDue. No conditions beyond those stated.
-/
import Derived.Test.YtndgaandcmiinaaPd
namespace Go.Proofs.Ytndgaandcmiinaa
open Go.RowKit

set_option maxRecDepth 100000 in
set_option maxHeartbeats 8000000 in
theorem iPinsDue_any (A : Option Addr) (N c : Nat) (S : Nat → Sp) (t : Int) (n : Nat) (D : List (Nat → Int)) (w : World) (hN : N ≤ 4194304) (hT : tot S N ≤ 4194304) (h : RdW w A N S) (hD : dueL (pinsL N S) t (pinsL N S).length = D) (hn : D.length = n) :
    Calls Try.prog 39 #[.agg #[.slice A N c], .int .i64 t] w fun y w' => ∃ A' c', y = .returned (.slice A' n c') ∧ Own w.heap.size w' 2 A' n D ∧ (n ≤ c' ∧ c' ≤ 9223372036854775807) ∧ Below w.heap.size w w' := by
  obtain ⟨i0, hi0, hz0, hz1, hz2⟩ := info_parts copyPin_info
  have H := Lib.hid h
  have HD := Lib.hid hD
  have HN := Lib.hid hn
  clear h hD hn
  obtain ⟨L, hL⟩ : ∃ L, pinsL N S = L := ⟨_, rfl⟩
  rw [hL] at HD
  obtain ⟨T, hTT⟩ : ∃ T, L.length = T := ⟨_, rfl⟩
  rw [hTT] at HD
  have hT10 : T ≤ 10 := by rw [← hTT, ← hL]; exact pinsL_len
  have HLL := Lib.hid hL
  have HTT := Lib.hid hTT
  clear hL hTT
  obtain ⟨w0, hw0⟩ : ∃ w0, w0 = w.alloc (.cells #[.slice A N c] 24) := ⟨_, rfl⟩
  have r0 : Hid (w0.ownsRow (w.heap.size + 1) 40 2 (.slice none 0 0) 0 (flat 2 [])) := Lib.hid (World.ownsRow_nil _ _ _ _)
  have hv0 : ∀ a, (Value.slice none 0 0).ownBlock = some a → a < w.heap.size + 1 := fun a ha => by simp [Value.ownBlock] at ha
  have b0 : Below w.heap.size w w0 := by rw [hw0]; (repeat (first | with_reducible exact Below.refl _ _ | with_reducible refine Below.drew ?_ | with_reducible refine below_drewN ?_ _ | (with_reducible refine bel_alloc ?_ ?_ _; (first | omega | (simp; omega) | simp)) | (with_reducible refine bel_set ?_ ?_ _; (first | omega | (simp; omega) | simp)) | (with_reducible refine bel_tr (by assumption) ?_ ?_; (first | omega | (simp; omega) | simp))))
  have s0 : w0.heap.size = w.heap.size + 1 := by rw [hw0]; simp
  have k0 : w0.cell? ⟨w.heap.size, 0, none⟩ = some (.slice A N c) := by rw [hw0]; (first | (go_keep; done) | (go_simp; done))
  go_enter Try.func39, Try.ntmps39
  go_wp2_with fail
  rw [← hw0]
  refine (iPinsOf_t A N c S T L _ hN hT (H.out.below b0) HLL.out HTT.out).mono ?_
  rintro y w1 ⟨A1, c1, rfl, o1, _, hb1⟩
  have s1 := hb1.size
  have R1 := Lib.hid o1.rd
  have I1 := Lib.hid o1.inB
  have B1 : Hid (Below w.heap.size w w1) := Lib.hid (b0.trans (hb1.mono (by omega)))
  have r1 := Lib.hid (row_below r0.out hb1)
  clear o1 hb1 r0 b0
  go_wp2
  go_loopw [5, 11] (fun v i wr => ∃ k : Nat, k ≤ T ∧ i = .int .i64 k ∧ Hid (wr.ownsRow (w.heap.size + 1) 40 2 v (dueL L t k).length (flat 2 (dueL L t k))) ∧ Hid (Below w.heap.size w wr) ∧ w1.heap.size ≤ wr.heap.size ∧ Hid (Rd wr 2 A1 T L) ∧ Hid (∀ a, v.ownBlock = some a → a < w0.heap.size ∨ w1.heap.size ≤ a)) (fun _ i _ => T - (intOf i).toNat)
  case atStart => exact ⟨0, Nat.zero_le _, rfl, r1, B1, Nat.le_refl _, R1, Lib.hid fun a ha => by have := hv0 a ha; omega⟩
  case round =>
    obtain ⟨k, hk, rfl, HR, HB, sB, HRd, HV⟩ := hrel
    have sBw := HB.out.size
    have hdl := dueL_len (L := L) (t := t) k
    by_cases hlt : k < T
    case neg =>
      have hkn : k = T := by omega
      subst hkn
      have hki : ¬ (k : Int) < (k : Int) := by omega
      obtain ⟨A3, c3, rfl, hd1, hd2, o3⟩ := own_of_row_cap rfl HR.out
      rw [HD.out, HN.out] at o3
      have HN2 : (dueL L t k).length = n := by rw [HD.out, HN.out]
      rw [HN2] at hd1
      go_wp2
      go_ret
      exact ⟨A3, c3, rfl, o3.mono (by omega), ⟨hd1, hd2⟩, HB.out⟩
    have hki : (k : Int) < (T : Int) := by omega
    have hk0 : (0 : Int) ≤ (k : Int) := by omega
    obtain ⟨b, off, rfl, hb, hc⟩ := HRd.out.2.resolve_left (by omega)
    have f0 := hc k hlt 0 (by omega)
    have f1 := hc k hlt 1 (by omega)
    rw [Nat.add_zero] at f0
    clear hc
    have hbI : w0.heap.size ≤ b ∧ b < w1.heap.size := by
      obtain ⟨a, ha, h1, h2⟩ := I1.out.resolve_left (by omega)
      cases ha
      exact ⟨h1, h2⟩
    by_cases hd : fld L k 0 ≤ t
    · have HY := Lib.hid (dueL_yes (k := k) hd)
      have hlen1 : (dueL L t (k + 1)).length = (dueL L t k).length + 1 := by rw [HY.out, List.length_append]; rfl
      have HRa : Hid ((wr.alloc (.cells #[.int .i64 (fld L k 0), .int .i64 (fld L k 1)] 40)).ownsRow (w.heap.size + 1) 40 2 _ (dueL L t k).length (flat 2 (dueL L t k))) := Lib.hid (World.ownsRow.alloc HR.out _)
      go_wp2_with (at_builtin; go_must (refine wpList_append_rd _ rfl _ _ 46 rfl (w.heap.size + 1) 40 i0 _ 2 16 Try.underlying46 hi0 hz0 hz1 hz2 rfl (by omega) _ _ (dueL L t k) rfl (World.ownsRow.alloc HRa.out _) (some ⟨wr.heap.size + 1, 0, none⟩) 1 1 [fld L k] rfl (rd_one3 _ _ _ (fld L k) (by simp)) (by unfold maxLen; omega) (by omega) (by (first | omega | (simp; omega) | simp)) ?_; intro v2 w2 hown2 hg2 hat2))
      have hWX : wr.heap.size ≤ ((wr.alloc (.cells #[.int .i64 (fld L k 0), .int .i64 (fld L k 1)] 40)).alloc (.cells #[.int .i64 (fld L k 0), .int .i64 (fld L k 1)] 40)).heap.size := by first | (simp; done) | (simp; omega)
      have H2 : Hid (w2.ownsRow (w.heap.size + 1) 40 2 v2 (dueL L t (k + 1)).length (flat 2 (dueL L t (k + 1)))) := Lib.hid (by rw [hlen1, HY.out]; exact hown2)
      have bX : Below w.heap.size w ((wr.alloc (.cells #[.int .i64 (fld L k 0), .int .i64 (fld L k 1)] 40)).alloc (.cells #[.int .i64 (fld L k 0), .int .i64 (fld L k 1)] 40)) := by (have := HB.out; (repeat (first | with_reducible exact Below.refl _ _ | with_reducible refine Below.drew ?_ | with_reducible refine below_drewN ?_ _ | (with_reducible refine bel_alloc ?_ ?_ _; (first | omega | (simp; omega) | simp)) | (with_reducible refine bel_set ?_ ?_ _; (first | omega | (simp; omega) | simp)) | (with_reducible refine bel_tr (by assumption) ?_ ?_; (first | omega | (simp; omega) | simp)))))
      have hgX := hg2
      have HB2 : Hid (Below w.heap.size w w2) := Lib.hid (bX.grown hg2 (by omega) (fun a ha => by have := row_ge HR.out (Nat.le_refl _) a ha; omega))
      have rdX : Rd ((wr.alloc (.cells #[.int .i64 (fld L k 0), .int .i64 (fld L k 1)] 40)).alloc (.cells #[.int .i64 (fld L k 0), .int .i64 (fld L k 1)] 40)) 2 (some ⟨b, off, none⟩) T L := HRd.out.below (by (repeat (first | with_reducible exact Below.refl _ _ | with_reducible refine Below.drew ?_ | with_reducible refine below_drewN ?_ _ | (with_reducible refine bel_alloc ?_ ?_ _; (first | omega | (simp; omega) | simp)) | (with_reducible refine bel_set ?_ ?_ _; (first | omega | (simp; omega) | simp)) | (with_reducible refine bel_tr (by assumption) ?_ ?_; (first | omega | (simp; omega) | simp)))))
      have HRd2 : Hid (Rd w2 2 (some ⟨b, off, none⟩) T L) := Lib.hid (rdX.grown_ hg2 (fun a _ ha he => by cases ha; have h9 : b < w0.heap.size ∨ w1.heap.size ≤ b := HV.out b he.symm; omega))
      have s2 := hg2.size
      have HV2 : Hid (∀ a, v2.ownBlock = some a → a < w0.heap.size ∨ w1.heap.size ≤ a) := Lib.hid fun a ha => by
        rcases hat2 with h4 | h4
        · exact HV.out a (h4.symm.trans ha)
        · rw [h4] at ha
          injection ha with ha
          right
          omega
      clear hown2 hg2 hgX hat2 rdX bX
      go_wp2
      go_roundw
      case rel => exact ⟨k + 1, by omega, by go_num, H2, HB2, by omega, HRd2, HV2⟩
      case measure => simp [intOf]; omega
    · have HY := Lib.hid (dueL_no (k := k) hd)
      have H2 : Hid ((wr.alloc (.cells #[.int .i64 (fld L k 0), .int .i64 (fld L k 1)] 40)).ownsRow (w.heap.size + 1) 40 2 _ (dueL L t (k + 1)).length (flat 2 (dueL L t (k + 1)))) := Lib.hid (by rw [HY.out]; exact World.ownsRow.alloc HR.out _)
      have HB2 : Hid (Below w.heap.size w (wr.alloc (.cells #[.int .i64 (fld L k 0), .int .i64 (fld L k 1)] 40))) := Lib.hid (by (have := HB.out; (repeat (first | with_reducible exact Below.refl _ _ | with_reducible refine Below.drew ?_ | with_reducible refine below_drewN ?_ _ | (with_reducible refine bel_alloc ?_ ?_ _; (first | omega | (simp; omega) | simp)) | (with_reducible refine bel_set ?_ ?_ _; (first | omega | (simp; omega) | simp)) | (with_reducible refine bel_tr (by assumption) ?_ ?_; (first | omega | (simp; omega) | simp))))))
      have HRd2 : Hid (Rd (wr.alloc (.cells #[.int .i64 (fld L k 0), .int .i64 (fld L k 1)] 40)) 2 (some ⟨b, off, none⟩) T L) := Lib.hid (HRd.out.below (by (repeat (first | with_reducible exact Below.refl _ _ | with_reducible refine Below.drew ?_ | with_reducible refine below_drewN ?_ _ | (with_reducible refine bel_alloc ?_ ?_ _; (first | omega | (simp; omega) | simp)) | (with_reducible refine bel_set ?_ ?_ _; (first | omega | (simp; omega) | simp)) | (with_reducible refine bel_tr (by assumption) ?_ ?_; (first | omega | (simp; omega) | simp))))))
      have HV2 := HV
      have sX : wr.heap.size ≤ (wr.alloc (.cells #[.int .i64 (fld L k 0), .int .i64 (fld L k 1)] 40)).heap.size := by simp
      go_wp2
      go_roundw
      case rel => exact ⟨k + 1, by omega, by go_num, H2, HB2, by omega, HRd2, HV2⟩
      case measure => simp [intOf]; omega
end Go.Proofs.Ytndgaandcmiinaa
