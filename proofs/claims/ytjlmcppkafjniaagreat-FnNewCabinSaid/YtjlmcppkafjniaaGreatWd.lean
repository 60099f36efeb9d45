/-
  Weak contracts of the functions that draw wheels. No conditions beyond those stated.
-/
import Derived.Test.YtjlmcppkafjniaaGreatWx
import Derived.Test.YtjlmcppkafjniaaGreatWpg
import Derived.Test.YtjlmcppkafjniaaGreatWo
namespace Go.Proofs.YtjlmcppkafjniaaGreat
open Go.RowKit

set_option maxRecDepth 100000 in
set_option maxHeartbeats 8000000 in
theorem l9Right_any (cb : Nat) (w : World) (h : Cur w cb) :
    Calls Tryz.prog 74 #[.pointer (some ⟨cb, 0, none⟩)] w fun y w' => ∃ A c, y = .returned (.agg #[.slice A 9 c]) ∧ (∃ S, Gat w.heap.size w' (.slice A 9 c) 9 S ∧ tot S 9 ≤ 10) ∧ Drew w cb w' := by
  obtain ⟨i0, hi0, hz0, hz1, hz2⟩ := info_parts copyPin_info
  have hlt := h.lt
  have HC := Lib.hid h
  clear h
  go_enter Tryz.func74, Tryz.ntmps74
  go_wp2_with fail
  refine (sWheelNew_any _).mono ?_
  rintro y w1 ⟨A1, c1, S1, rfl, g1, e1, hb1⟩
  have bc1 := bcell hb1; obtain ⟨hc1, hf1⟩ := bc1; have ks1 := hb1.size; (try simp at ks1); have kc10 : ∀ o, w1.cell? ⟨w.heap.size, o, none⟩ = _ := (fun o => hb1.cell (p := ⟨w.heap.size, o, none⟩) (by (first | omega | (simp; omega) | simp))); have kf10 : ∀ o, w1.frozen? ⟨w.heap.size, o, none⟩ = _ := (fun o => hb1.frozen (p := ⟨w.heap.size, o, none⟩) (by (first | omega | (simp; omega) | simp))); have kz10 : w.heap.size < w1.heap.size := (by have hh := hb1.size; (try simp at hh); omega)
  have s1 : w.heap.size + 1 ≤ w1.heap.size := by (first | omega | (simp; omega) | simp)
  have G1 : Hid (Gat (w.heap.size + 1) w1 (.slice A1 9 c1) 9 S1) := Lib.hid (g1.lower (by (first | omega | (simp; omega) | simp)))
  have T1 : Hid (tot S1 9 ≤ 10) := Lib.hid (by rw [tot_zero fun i hi => (e1 i hi).1]; omega)
  have bB : Hid (Below w.heap.size w (w1.alloc (.cells #[.slice A1 9 c1] 30))) := Lib.hid (by (repeat (first | with_reducible exact Below.refl _ _ | with_reducible refine Below.drew ?_ | with_reducible refine below_drewN ?_ _ | (with_reducible refine bel_alloc ?_ ?_ _; (first | omega | (simp; omega) | simp)) | (with_reducible refine bel_set ?_ ?_ _; (first | omega | (simp; omega) | simp)) | (with_reducible refine bel_tr (by assumption) ?_ ?_; (first | omega | (simp; omega) | simp)))))
  clear g1 e1
  go_wp2_with fail
  refine (l9Pins_any cb _ (HC.out.below bB.out)).mono ?_
  rintro y w2 ⟨v, rfl, N, hN, ⟨es0, hl, r2⟩, d2⟩
  have s2 := d2.2.size
  (try simp at s2)
  have HL := Lib.hid hl
  have R2 : Hid (w2.ownsRow (w1.heap.size + 1) 87 2 v N (flat 2 es0)) := Lib.hid (r2.lower (by (first | omega | (simp; omega) | simp)))
  have D2 := Lib.hid d2
  clear r2 d2 hl
  go_wp2_with fail
  refine (l1Once_any cb 10 _ D2.out.1).mono ?_
  rintro y w3 ⟨bo, rfl, d3⟩
  have s3 := d3.2.size
  have R3 : Hid (w3.ownsRow (w1.heap.size + 1) 87 2 v N (flat 2 es0)) := Lib.hid (row_drew R2.out d3 (by omega))
  have D3 := Lib.hid (D2.out.trans d3)
  clear d3
  cases bo
  · obtain ⟨AL, cL, rfl, hn1, hn2, oL⟩ := own_of_row_cap HL.out R3.out
    obtain ⟨es, hes⟩ : ∃ es, es = es0 := ⟨es0, rfl⟩
    rw [← hes] at oL
    have RL : Hid (Own (w1.heap.size + 1) w3 2 AL N es) := Lib.hid oL
    clear oL hes
    have xB : w3.cell? ⟨w1.heap.size, 0, none⟩ = some (.slice A1 9 c1) := by
      rw [D3.out.cell (b := w1.heap.size) (by (first | omega | (simp; omega) | simp)) (by omega) 0]
      (first | (go_keep; done) | (go_simp; done))
    have fB : w3.frozen? ⟨w1.heap.size, 0, none⟩ = false := by
      rw [D3.out.frozen (b := w1.heap.size) (by (first | omega | (simp; omega) | simp)) (by omega) 0]
      (first | (go_keep; done) | (go_simp; done))
    have xR : ∃ r, w3.cell? ⟨w.heap.size, 0, none⟩ = some r := ⟨.slice none 0 0, by
      rw [D3.out.cell (b := w.heap.size) (by (first | omega | (simp; omega) | simp)) (by omega) 0]
      (first | (go_keep; done) | (go_simp; done))⟩
    have fR : w3.frozen? ⟨w.heap.size, 0, none⟩ = false := by
      rw [D3.out.frozen (b := w.heap.size) (by (first | omega | (simp; omega) | simp)) (by omega) 0]
      (first | (go_keep; done) | (go_simp; done))
    have GL : Hid (Gat (w.heap.size + 1) w3 (.slice A1 9 c1) 9 S1) := Lib.hid ((G1.out.below (by (repeat (first | with_reducible exact Below.refl _ _ | with_reducible refine Below.drew ?_ | with_reducible refine below_drewN ?_ _ | (with_reducible refine bel_alloc ?_ ?_ _; (first | omega | (simp; omega) | simp)) | (with_reducible refine bel_set ?_ ?_ _; (first | omega | (simp; omega) | simp)) | (with_reducible refine bel_tr (by assumption) ?_ ?_; (first | omega | (simp; omega) | simp)))))).drew_c D3.out (by omega))
    have DL : Hid (Drew w cb w3) := Lib.hid ((HC.out.drew_below bB.out).trans D3.out)
    have sL : w1.heap.size + 1 ≤ w3.heap.size := by have := D3.out.2.size; (first | omega | (simp; omega) | simp)
    go_wp2
    go_loopw [6] (fun i wr => ∃ k : Nat, k ≤ N ∧ i = .int .i64 k ∧ ∃ A c S, Hid (Gat (w.heap.size + 1) wr (.slice A 9 c) 9 S) ∧ Hid (tot S 9 ≤ 10) ∧ Hid (Own (w1.heap.size + 1) wr 2 AL N es) ∧ Hid (Drew w cb wr) ∧ w1.heap.size + 1 ≤ wr.heap.size ∧ wr.cell? ⟨w1.heap.size, 0, none⟩ = some (.slice A 9 c) ∧ wr.frozen? ⟨w1.heap.size, 0, none⟩ = false ∧ (∃ r, wr.cell? ⟨w.heap.size, 0, none⟩ = some r) ∧ wr.frozen? ⟨w.heap.size, 0, none⟩ = false) (fun i _ => N - (intOf i).toNat)
    case atStart => exact ⟨0, Nat.zero_le _, rfl, A1, c1, S1, GL, T1, RL, DL, sL, xB, fB, xR, fR⟩
    case round =>
      obtain ⟨k, hk, rfl, A, c, S, HG, HT, HO, HD, hs, x0, z0, ⟨r1, q1⟩, z1⟩ := hrel
      by_cases hlt2 : k < N
      case neg =>
        have hkn : N = k := by omega
        subst hkn
        clear xB fB xR fR GL DL
        have hki : ¬ ((N : Nat) : Int) < ((N : Nat) : Int) := by omega
        go_wp2
        refine bodyPost_ret (v := .agg #[.slice A 9 c]) (by simp only [results, Tryz.results74]; first | (go_simp; done) | (go_simp; omega)) rfl ⟨A, c, rfl, ⟨S, ?_, HT.out⟩, ?_⟩
        · exact (HG.out.set_ (by (first | omega | (simp; omega) | simp)) _).lower (by omega)
        · exact Drew.set hlt (Nat.le_refl _) HD.out
      have hki : (k : Int) < ((N : Nat) : Int) := by omega
      have hcs := (HO.out.rd).2
      obtain ⟨b, off, hA, hb, hc⟩ := hcs.resolve_left (by omega)
      have hbl : w1.heap.size + 1 ≤ b := by
        obtain ⟨a, ha, h1, h2⟩ := HO.out.inB.resolve_left (by omega)
        rw [hA] at ha
        injection ha with ha
        subst ha
        exact h1
      have f0 := hc k hlt2 0 (by omega)
      have f1 := hc k hlt2 1 (by omega)
      rw [Nat.add_zero] at f0
      have HA := Lib.hid hA
      clear hc hcs
      have hA := HA.out
      subst hA
      obtain ⟨E, bv, hR⟩ := putR_ex 9 S (fld es k)
      have HR := Lib.hid hR
      have HL := Lib.hid HG.out.own1.1.rdw.lens
      clear hR xB fB xR fR GL DL
      have ht10 : tot S 9 ≤ 4194303 := by have := HT.out; omega
      go_upto_region 11 with fail
      (
        go_region_with (
          (go_at_call 69; refine (sWheelPut_gat A 9 c S (fld es k) E bv _ (by omega) ht10 (HG.out.own1.1.rdw.below (by (repeat (first | with_reducible exact Below.refl _ _ | with_reducible refine Below.drew ?_ | with_reducible refine below_drewN ?_ _ | (with_reducible refine bel_alloc ?_ ?_ _; (first | omega | (simp; omega) | simp)) | (with_reducible refine bel_set ?_ ?_ _; (first | omega | (simp; omega) | simp)) | (with_reducible refine bel_tr (by assumption) ?_ ?_; (first | omega | (simp; omega) | simp)))))) HR.out).mono ?_; rintro y w5 ⟨A5, c5, S5, rfl, g5, e5, _, hb5⟩; have b5 : Below wr.heap.size wr w5 := (Below.drew (Below.refl _ wr)).trans hb5; clear hb5; have s5 := b5.size; have G5 : Hid (Gat wr.heap.size w5 (.slice A5 9 c5) 9 S5) := Lib.hid g5; have T5 : Hid (tot S5 9 ≤ 10) := Lib.hid (put_tot HR.out HT.out HL.out g5.own1.1.rdw.lens e5); clear g5 e5; have y0 := (b5.cell (p := ⟨w1.heap.size, 0, none⟩) (by (first | omega | (simp; omega) | simp))).trans x0; have y1 := (b5.frozen (p := ⟨w1.heap.size, 0, none⟩) (by (first | omega | (simp; omega) | simp))).trans z0; have y2 := (b5.cell (p := ⟨w.heap.size, 0, none⟩) (by (first | omega | (simp; omega) | simp))).trans q1; have y3 := (b5.frozen (p := ⟨w.heap.size, 0, none⟩) (by (first | omega | (simp; omega) | simp))).trans z1))
        all_goals
          have hne1 : ¬ w1.heap.size = w.heap.size := by omega
          have y4 : (w5.setCell ⟨w1.heap.size, 0, none⟩ (.slice A5 9 c5)).cell? ⟨w1.heap.size, 0, none⟩ = some (.slice A5 9 c5) := World.cell?_setCell_same' _ _ _ (by rw [y0]; rfl)
          have y5 : (w5.setCell ⟨w1.heap.size, 0, none⟩ (.slice A5 9 c5)).frozen? ⟨w1.heap.size, 0, none⟩ = false := (World.frozen?_setCell _ _ _ _).trans y1
          have y6 : (w5.setCell ⟨w1.heap.size, 0, none⟩ (.slice A5 9 c5)).cell? ⟨w.heap.size, 0, none⟩ = some r1 := (World.cell?_setCell_far w5 ⟨w1.heap.size, 0, none⟩ ⟨w.heap.size, 0, none⟩ _ hne1).trans y2
          have y7 : (w5.setCell ⟨w1.heap.size, 0, none⟩ (.slice A5 9 c5)).frozen? ⟨w.heap.size, 0, none⟩ = false := (World.frozen?_setCell _ _ _ _).trans y3
          have D5 : Hid (Drew w cb (w5.setCell ⟨w1.heap.size, 0, none⟩ (.slice A5 9 c5))) := Lib.hid (Drew.set hlt (by omega) (HD.out.below hlt (b5.mono (by omega))))
          have O5 : Hid (Own (w1.heap.size + 1) (w5.setCell ⟨w1.heap.size, 0, none⟩ (.slice A5 9 c5)) 2 (some ⟨b, off, none⟩) N es) := Lib.hid ((HO.out.below b5).set_ (by (first | omega | (simp; omega) | simp)) _)
          have G6 : Hid (Gat (w.heap.size + 1) (w5.setCell ⟨w1.heap.size, 0, none⟩ (.slice A5 9 c5)) (.slice A5 9 c5) 9 S5) := Lib.hid ((G5.out.set_ (by (first | omega | (simp; omega) | simp)) _).lower (by omega))
          have sz5 : (w5.setCell ⟨w1.heap.size, 0, none⟩ (.slice A5 9 c5)).heap.size = w5.heap.size := by simp [World.setCell]
          go_wp2
          go_roundw
          case rel => exact ⟨k + 1, by omega, by go_num, A5, c5, S5, G6, T5, O5, D5, by omega, y4, y5, ⟨r1, y6⟩, y7⟩
          case measure => (simp [intOf]; omega))
  · go_wp2
    go_loopw [4, 5] (fun v i wr => ∃ (k : Nat) (es : List (Nat → Int)), k ≤ 10 ∧ i = .int .i64 k ∧ es.length = N + k ∧ Hid (wr.ownsRow (w1.heap.size + 1) 87 2 v (N + k) (flat 2 es)) ∧ Hid (Drew (w1.alloc (.cells #[.slice A1 9 c1] 30)) cb wr) ∧ w1.heap.size + 1 ≤ wr.heap.size) (fun _ i _ => 10 - (intOf i).toNat)
    case atStart => exact ⟨0, es0, by omega, rfl, HL.out, R3, D3, by omega⟩
    case round =>
      obtain ⟨k, es, hk, rfl, hl, HO, HD, hs⟩ := hrel
      by_cases hlt2 : k < 10
      · have hki : (k : Int) < 10 := by omega
        go_wp2_with (at_builtin; go_must (refine wpList_append_rd _ rfl _ _ 85 rfl (w1.heap.size + 1) 87 i0 _ 2 16 Tryz.underlying85 hi0 hz0 hz1 hz2 rfl (by omega) _ (N + k) es rfl (World.ownsRow.alloc HO.out _) (some ⟨wr.heap.size, 0, none⟩) 1 1 [fun j => [3 + (k : Int), 100 + (k : Int)].getD j 0] rfl (rd_one2 _ _ (fun j => [3 + (k : Int), 100 + (k : Int)].getD j 0)) (by unfold maxLen; omega) (by omega) (by simp; omega) ?_); intro v4 w4 hown4 hg4 hat4)
        have D4 : Hid (Drew (w1.alloc (.cells #[.slice A1 9 c1] 30)) cb w4) := Lib.hid (Drew.grow (by (first | omega | (simp; omega) | simp)) (by (first | omega | (simp; omega) | simp)) (Drew.alloc _ HD.out) hg4 (fun a ha => by have := row_ge HO.out (Nat.le_refl _) a ha; (first | omega | (simp; omega) | simp)))
        have s4 := hg4.size
        (try simp at s4)
        go_roundw
        case rel => exact ⟨k + 1, es ++ [fun j => [3 + (k : Int), 100 + (k : Int)].getD j 0], by omega, by go_num, by simp [hl]; omega, by rw [← Nat.add_assoc]; exact hown4, D4, by omega⟩
        case measure => (simp [intOf]; omega)
      · have hki : ¬ (k : Int) < 10 := by omega
        obtain ⟨AL, cL, rfl, hn1, hn2, oL⟩ := own_of_row_cap hl HO.out
        obtain ⟨M, hM⟩ : ∃ M, M = N + k := ⟨_, rfl⟩
        have hM17 : M ≤ 17 := by omega
        rw [← hM] at oL hn1
        have RL : Hid (Own (w1.heap.size + 1) wr 2 AL M es) := Lib.hid oL
        rw [← hM]
        clear oL HO hl hM
        have HD0 := HD
        clear HD
        obtain ⟨wq, rfl⟩ : ∃ wq, wq = wr := ⟨_, rfl⟩
        have xB : wq.cell? ⟨w1.heap.size, 0, none⟩ = some (.slice A1 9 c1) := by
          rw [HD0.out.cell (b := w1.heap.size) (by (first | omega | (simp; omega) | simp)) (by omega) 0]
          (first | (go_keep; done) | (go_simp; done))
        have fB : wq.frozen? ⟨w1.heap.size, 0, none⟩ = false := by
          rw [HD0.out.frozen (b := w1.heap.size) (by (first | omega | (simp; omega) | simp)) (by omega) 0]
          (first | (go_keep; done) | (go_simp; done))
        have xR : ∃ r, wq.cell? ⟨w.heap.size, 0, none⟩ = some r := ⟨.slice none 0 0, by
          rw [HD0.out.cell (b := w.heap.size) (by (first | omega | (simp; omega) | simp)) (by omega) 0]
          (first | (go_keep; done) | (go_simp; done))⟩
        have fR : wq.frozen? ⟨w.heap.size, 0, none⟩ = false := by
          rw [HD0.out.frozen (b := w.heap.size) (by (first | omega | (simp; omega) | simp)) (by omega) 0]
          (first | (go_keep; done) | (go_simp; done))
        have GL : Hid (Gat (w.heap.size + 1) wq (.slice A1 9 c1) 9 S1) := Lib.hid ((G1.out.below (by (repeat (first | with_reducible exact Below.refl _ _ | with_reducible refine Below.drew ?_ | with_reducible refine below_drewN ?_ _ | (with_reducible refine bel_alloc ?_ ?_ _; (first | omega | (simp; omega) | simp)) | (with_reducible refine bel_set ?_ ?_ _; (first | omega | (simp; omega) | simp)) | (with_reducible refine bel_tr (by assumption) ?_ ?_; (first | omega | (simp; omega) | simp)))))).drew_c HD0.out (by omega))
        have DL : Hid (Drew w cb wq) := Lib.hid ((HC.out.drew_below bB.out).trans HD0.out)
        have sL : w1.heap.size + 1 ≤ wq.heap.size := by have := HD0.out.2.size; (first | omega | (simp; omega) | simp)
        go_wp2
        go_loopw [6] (fun i wr => ∃ k : Nat, k ≤ M ∧ i = .int .i64 k ∧ ∃ A c S, Hid (Gat (w.heap.size + 1) wr (.slice A 9 c) 9 S) ∧ Hid (tot S 9 ≤ 10) ∧ Hid (Own (w1.heap.size + 1) wr 2 AL M es) ∧ Hid (Drew w cb wr) ∧ w1.heap.size + 1 ≤ wr.heap.size ∧ wr.cell? ⟨w1.heap.size, 0, none⟩ = some (.slice A 9 c) ∧ wr.frozen? ⟨w1.heap.size, 0, none⟩ = false ∧ (∃ r, wr.cell? ⟨w.heap.size, 0, none⟩ = some r) ∧ wr.frozen? ⟨w.heap.size, 0, none⟩ = false) (fun i _ => M - (intOf i).toNat)
        case atStart => exact ⟨0, Nat.zero_le _, rfl, A1, c1, S1, GL, T1, RL, DL, sL, xB, fB, xR, fR⟩
        case round =>
          obtain ⟨k, hk, rfl, A, c, S, HG, HT, HO, HD, hs, x0, z0, ⟨r1, q1⟩, z1⟩ := hrel
          by_cases hlt2 : k < M
          case neg =>
            have hkn : M = k := by omega
            subst hkn
            clear xB fB xR fR GL DL
            have hki : ¬ ((M : Nat) : Int) < ((M : Nat) : Int) := by omega
            go_wp2
            refine bodyPost_ret (v := .agg #[.slice A 9 c]) (by simp only [results, Tryz.results74]; first | (go_simp; done) | (go_simp; omega)) rfl ⟨A, c, rfl, ⟨S, ?_, HT.out⟩, ?_⟩
            · exact (HG.out.set_ (by (first | omega | (simp; omega) | simp)) _).lower (by omega)
            · exact Drew.set hlt (Nat.le_refl _) HD.out
          have hki : (k : Int) < ((M : Nat) : Int) := by omega
          have hcs := (HO.out.rd).2
          obtain ⟨b, off, hA, hb, hc⟩ := hcs.resolve_left (by omega)
          have hbl : w1.heap.size + 1 ≤ b := by
            obtain ⟨a, ha, h1, h2⟩ := HO.out.inB.resolve_left (by omega)
            rw [hA] at ha
            injection ha with ha
            subst ha
            exact h1
          have f0 := hc k hlt2 0 (by omega)
          have f1 := hc k hlt2 1 (by omega)
          rw [Nat.add_zero] at f0
          have HA := Lib.hid hA
          clear hc hcs
          have hA := HA.out
          subst hA
          obtain ⟨E, bv, hR⟩ := putR_ex 9 S (fld es k)
          have HR := Lib.hid hR
          have HL := Lib.hid HG.out.own1.1.rdw.lens
          clear hR xB fB xR fR GL DL
          have ht10 : tot S 9 ≤ 4194303 := by have := HT.out; omega
          go_upto_region 11 with fail
          (
            go_region_with (
              (go_at_call 69; refine (sWheelPut_gat A 9 c S (fld es k) E bv _ (by omega) ht10 (HG.out.own1.1.rdw.below (by (repeat (first | with_reducible exact Below.refl _ _ | with_reducible refine Below.drew ?_ | with_reducible refine below_drewN ?_ _ | (with_reducible refine bel_alloc ?_ ?_ _; (first | omega | (simp; omega) | simp)) | (with_reducible refine bel_set ?_ ?_ _; (first | omega | (simp; omega) | simp)) | (with_reducible refine bel_tr (by assumption) ?_ ?_; (first | omega | (simp; omega) | simp)))))) HR.out).mono ?_; rintro y w5 ⟨A5, c5, S5, rfl, g5, e5, _, hb5⟩; have b5 : Below wr.heap.size wr w5 := (Below.drew (Below.refl _ wr)).trans hb5; clear hb5; have s5 := b5.size; have G5 : Hid (Gat wr.heap.size w5 (.slice A5 9 c5) 9 S5) := Lib.hid g5; have T5 : Hid (tot S5 9 ≤ 10) := Lib.hid (put_tot HR.out HT.out HL.out g5.own1.1.rdw.lens e5); clear g5 e5; have y0 := (b5.cell (p := ⟨w1.heap.size, 0, none⟩) (by (first | omega | (simp; omega) | simp))).trans x0; have y1 := (b5.frozen (p := ⟨w1.heap.size, 0, none⟩) (by (first | omega | (simp; omega) | simp))).trans z0; have y2 := (b5.cell (p := ⟨w.heap.size, 0, none⟩) (by (first | omega | (simp; omega) | simp))).trans q1; have y3 := (b5.frozen (p := ⟨w.heap.size, 0, none⟩) (by (first | omega | (simp; omega) | simp))).trans z1))
            all_goals
              have hne1 : ¬ w1.heap.size = w.heap.size := by omega
              have y4 : (w5.setCell ⟨w1.heap.size, 0, none⟩ (.slice A5 9 c5)).cell? ⟨w1.heap.size, 0, none⟩ = some (.slice A5 9 c5) := World.cell?_setCell_same' _ _ _ (by rw [y0]; rfl)
              have y5 : (w5.setCell ⟨w1.heap.size, 0, none⟩ (.slice A5 9 c5)).frozen? ⟨w1.heap.size, 0, none⟩ = false := (World.frozen?_setCell _ _ _ _).trans y1
              have y6 : (w5.setCell ⟨w1.heap.size, 0, none⟩ (.slice A5 9 c5)).cell? ⟨w.heap.size, 0, none⟩ = some r1 := (World.cell?_setCell_far w5 ⟨w1.heap.size, 0, none⟩ ⟨w.heap.size, 0, none⟩ _ hne1).trans y2
              have y7 : (w5.setCell ⟨w1.heap.size, 0, none⟩ (.slice A5 9 c5)).frozen? ⟨w.heap.size, 0, none⟩ = false := (World.frozen?_setCell _ _ _ _).trans y3
              have D5 : Hid (Drew w cb (w5.setCell ⟨w1.heap.size, 0, none⟩ (.slice A5 9 c5))) := Lib.hid (Drew.set hlt (by omega) (HD.out.below hlt (b5.mono (by omega))))
              have O5 : Hid (Own (w1.heap.size + 1) (w5.setCell ⟨w1.heap.size, 0, none⟩ (.slice A5 9 c5)) 2 (some ⟨b, off, none⟩) M es) := Lib.hid ((HO.out.below b5).set_ (by (first | omega | (simp; omega) | simp)) _)
              have G6 : Hid (Gat (w.heap.size + 1) (w5.setCell ⟨w1.heap.size, 0, none⟩ (.slice A5 9 c5)) (.slice A5 9 c5) 9 S5) := Lib.hid ((G5.out.set_ (by (first | omega | (simp; omega) | simp)) _).lower (by omega))
              have sz5 : (w5.setCell ⟨w1.heap.size, 0, none⟩ (.slice A5 9 c5)).heap.size = w5.heap.size := by simp [World.setCell]
              go_wp2
              go_roundw
              case rel => exact ⟨k + 1, by omega, by go_num, A5, c5, S5, G6, T5, O5, D5, by omega, y4, y5, ⟨r1, y6⟩, y7⟩
              case measure => (simp [intOf]; omega))
end Go.Proofs.YtjlmcppkafjniaaGreat
