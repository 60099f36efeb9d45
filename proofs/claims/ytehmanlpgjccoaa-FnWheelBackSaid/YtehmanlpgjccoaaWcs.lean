/-
  The contract of the reference's WheelCut. No conditions beyond those stated.
-/
import Derived.Test.YtehmanlpgjccoaaWc
import Derived.Test.YtehmanlpgjccoaaWs
import Derived.Test.YtehmanlpgjccoaaW4
import Derived.Deep.DeepCutAuto
namespace Go.Proofs.Ytehmanlpgjccoaa
open Go.RowKit

set_option maxRecDepth 100000 in
set_option maxHeartbeats 8000000 in
theorem sWheelCut_any (A : Option Addr) (N c : Nat) (S : Nat → Sp) (p : Nat → Int) (E : Nat → List (Nat → Int)) (b : Bool) (w : World) (hN : N ≤ 4194304) (hT : tot S N ≤ 4194303) (h : RdW w A N S) (hR : CutR N S p E b) :
    Calls Try.prog 9 #[.agg #[.slice A N c], .agg #[.int .i64 (p 0), .int .i64 (p 1)]] w fun y w' => ∃ A' c' S', y = .returned (.tuple #[.agg #[.slice A' N c'], .bool b]) ∧ OwnW w.heap.size w'.heap.size w' A' N S' ∧ (∀ i, i < N → (S' i).es = E i) ∧ (N ≤ c' ∧ c' ≤ 9223372036854775807) ∧ Below w.heap.size w w' := by
  have H := Lib.hid h
  have HR := Lib.hid hR
  have HLen := Lib.hid h.lens
  have hT4 : tot S N ≤ 4194304 := by omega
  clear h hR
  go_enter Try.func9, Try.ntmps9
  go_wp2_with fail
  refine (l9Copy_any A N c S _ hN hT4 (H.out.below (by (repeat (first | with_reducible exact Below.refl _ _ | with_reducible refine Below.drew ?_ | with_reducible refine below_drewN ?_ _ | (with_reducible refine bel_alloc ?_ ?_ _; (first | omega | (simp; omega) | simp)) | (with_reducible refine bel_set ?_ ?_ _; (first | omega | (simp; omega) | simp)) | (with_reducible refine bel_tr (by assumption) ?_ ?_; (first | omega | (simp; omega) | simp))))))).mono ?_
  rintro y w1 ⟨A1, c1, S1, rfl, g1, m1, hb1⟩
  have bc1 := bcell hb1; obtain ⟨hc1, hf1⟩ := bc1; have ks1 := hb1.size; (try simp at ks1); have kc10 : ∀ o, w1.cell? ⟨w.heap.size, o, none⟩ = _ := (fun o => hb1.cell (p := ⟨w.heap.size, o, none⟩) (by (first | omega | (simp; omega) | simp))); have kf10 : ∀ o, w1.frozen? ⟨w.heap.size, o, none⟩ = _ := (fun o => hb1.frozen (p := ⟨w.heap.size, o, none⟩) (by (first | omega | (simp; omega) | simp))); have kc11 : ∀ o, w1.cell? ⟨w.heap.size + 1, o, none⟩ = _ := (fun o => hb1.cell (p := ⟨w.heap.size + 1, o, none⟩) (by (first | omega | (simp; omega) | simp))); have kf11 : ∀ o, w1.frozen? ⟨w.heap.size + 1, o, none⟩ = _ := (fun o => hb1.frozen (p := ⟨w.heap.size + 1, o, none⟩) (by (first | omega | (simp; omega) | simp))); have kc12 : ∀ o, w1.cell? ⟨w.heap.size + 1 + 1, o, none⟩ = _ := (fun o => hb1.cell (p := ⟨w.heap.size + 1 + 1, o, none⟩) (by (first | omega | (simp; omega) | simp))); have kf12 : ∀ o, w1.frozen? ⟨w.heap.size + 1 + 1, o, none⟩ = _ := (fun o => hb1.frozen (p := ⟨w.heap.size + 1 + 1, o, none⟩) (by (first | omega | (simp; omega) | simp))); have kz10 : w.heap.size < w1.heap.size := (by have hh := hb1.size; (try simp at hh); omega); have kz11 : w.heap.size + 1 < w1.heap.size := (by have hh := hb1.size; (try simp at hh); omega); have kz12 : w.heap.size + 1 + 1 < w1.heap.size := (by have hh := hb1.size; (try simp at hh); omega)
  have G1 := Lib.hid g1
  have M1 := Lib.hid m1
  clear g1 m1
  go_wp2_with fail
  by_cases hW : WOK N S
  case neg =>
    obtain ⟨rfl, hE⟩ := HR.out.no (fun h => hW h.1)
    refine (tn (sWheelOk_any A N c S _ hN hT4 (H.out.below (by (repeat (first | with_reducible exact Below.refl _ _ | with_reducible refine Below.drew ?_ | with_reducible refine below_drewN ?_ _ | (with_reducible refine bel_alloc ?_ ?_ _; (first | omega | (simp; omega) | simp)) | (with_reducible refine bel_set ?_ ?_ _; (first | omega | (simp; omega) | simp)) | (with_reducible refine bel_tr (by assumption) ?_ ?_; (first | omega | (simp; omega) | simp))))))) hW).mono ?_
    rintro y w2 ⟨rfl, hb2⟩
    have bc2 := bcell hb2; obtain ⟨hc2, hf2⟩ := bc2; have ks2 := hb2.size; (try simp at ks2); have kc20 : ∀ o, w2.cell? ⟨w.heap.size, o, none⟩ = _ := (fun o => hb2.cell (p := ⟨w.heap.size, o, none⟩) (by (first | omega | (simp; omega) | simp))); have kf20 : ∀ o, w2.frozen? ⟨w.heap.size, o, none⟩ = _ := (fun o => hb2.frozen (p := ⟨w.heap.size, o, none⟩) (by (first | omega | (simp; omega) | simp))); have kc21 : ∀ o, w2.cell? ⟨w.heap.size + 1, o, none⟩ = _ := (fun o => hb2.cell (p := ⟨w.heap.size + 1, o, none⟩) (by (first | omega | (simp; omega) | simp))); have kf21 : ∀ o, w2.frozen? ⟨w.heap.size + 1, o, none⟩ = _ := (fun o => hb2.frozen (p := ⟨w.heap.size + 1, o, none⟩) (by (first | omega | (simp; omega) | simp))); have kc22 : ∀ o, w2.cell? ⟨w.heap.size + 1 + 1, o, none⟩ = _ := (fun o => hb2.cell (p := ⟨w.heap.size + 1 + 1, o, none⟩) (by (first | omega | (simp; omega) | simp))); have kf22 : ∀ o, w2.frozen? ⟨w.heap.size + 1 + 1, o, none⟩ = _ := (fun o => hb2.frozen (p := ⟨w.heap.size + 1 + 1, o, none⟩) (by (first | omega | (simp; omega) | simp))); have kz20 : w.heap.size < w2.heap.size := (by have hh := hb2.size; (try simp at hh); omega); have kz21 : w.heap.size + 1 < w2.heap.size := (by have hh := hb2.size; (try simp at hh); omega); have kz22 : w.heap.size + 1 + 1 < w2.heap.size := (by have hh := hb2.size; (try simp at hh); omega); (try (have jzw12 : w1.heap.size < w2.heap.size := (by have hh := hb2.size; (try simp at hh); omega); have jcw12 : ∀ o, w2.cell? ⟨w1.heap.size, o, none⟩ = _ := (fun o => hb2.cell (p := ⟨w1.heap.size, o, none⟩) (by (first | omega | (simp; omega) | simp))); have jfw12 : ∀ o, w2.frozen? ⟨w1.heap.size, o, none⟩ = _ := (fun o => hb2.frozen (p := ⟨w1.heap.size, o, none⟩) (by (first | omega | (simp; omega) | simp)))))
    go_wp2
    refine bodyPost_ret (v := .tuple #[.agg #[.slice A1 N c1], .bool false]) (by simp only [results, Try.results9]; first | (go_simp; done) | (go_simp; omega)) rfl ⟨A1, c1, S1, rfl, (((G1.out.below (by (repeat (first | with_reducible exact Below.refl _ _ | with_reducible refine Below.drew ?_ | with_reducible refine below_drewN ?_ _ | (with_reducible refine bel_alloc ?_ ?_ _; (first | omega | (simp; omega) | simp)) | (with_reducible refine bel_set ?_ ?_ _; (first | omega | (simp; omega) | simp)) | (with_reducible refine bel_tr (by assumption) ?_ ?_; (first | omega | (simp; omega) | simp)))))).set_ (by (first | omega | (simp; omega) | simp)) _).own1.1).wide (by (first | omega | (simp; omega) | simp)) (Nat.le_refl _) (by simp [World.setCell]), (fun i hi => by rw [hE i hi]; exact ((M1.out i hi).2).symm), G1.out.own1.2, ?_⟩
    (repeat (first | with_reducible exact Below.refl _ _ | with_reducible refine Below.drew ?_ | with_reducible refine below_drewN ?_ _ | (with_reducible refine bel_alloc ?_ ?_ _; (first | omega | (simp; omega) | simp)) | (with_reducible refine bel_set ?_ ?_ _; (first | omega | (simp; omega) | simp)) | (with_reducible refine bel_tr (by assumption) ?_ ?_; (first | omega | (simp; omega) | simp))))
  refine (ty (sWheelOk_any A N c S _ hN hT4 (H.out.below (by (repeat (first | with_reducible exact Below.refl _ _ | with_reducible refine Below.drew ?_ | with_reducible refine below_drewN ?_ _ | (with_reducible refine bel_alloc ?_ ?_ _; (first | omega | (simp; omega) | simp)) | (with_reducible refine bel_set ?_ ?_ _; (first | omega | (simp; omega) | simp)) | (with_reducible refine bel_tr (by assumption) ?_ ?_; (first | omega | (simp; omega) | simp))))))) hW).mono ?_
  rintro y w2 ⟨rfl, hb2⟩
  have bc2 := bcell hb2; obtain ⟨hc2, hf2⟩ := bc2; have ks2 := hb2.size; (try simp at ks2); have kc20 : ∀ o, w2.cell? ⟨w.heap.size, o, none⟩ = _ := (fun o => hb2.cell (p := ⟨w.heap.size, o, none⟩) (by (first | omega | (simp; omega) | simp))); have kf20 : ∀ o, w2.frozen? ⟨w.heap.size, o, none⟩ = _ := (fun o => hb2.frozen (p := ⟨w.heap.size, o, none⟩) (by (first | omega | (simp; omega) | simp))); have kc21 : ∀ o, w2.cell? ⟨w.heap.size + 1, o, none⟩ = _ := (fun o => hb2.cell (p := ⟨w.heap.size + 1, o, none⟩) (by (first | omega | (simp; omega) | simp))); have kf21 : ∀ o, w2.frozen? ⟨w.heap.size + 1, o, none⟩ = _ := (fun o => hb2.frozen (p := ⟨w.heap.size + 1, o, none⟩) (by (first | omega | (simp; omega) | simp))); have kc22 : ∀ o, w2.cell? ⟨w.heap.size + 1 + 1, o, none⟩ = _ := (fun o => hb2.cell (p := ⟨w.heap.size + 1 + 1, o, none⟩) (by (first | omega | (simp; omega) | simp))); have kf22 : ∀ o, w2.frozen? ⟨w.heap.size + 1 + 1, o, none⟩ = _ := (fun o => hb2.frozen (p := ⟨w.heap.size + 1 + 1, o, none⟩) (by (first | omega | (simp; omega) | simp))); have kz20 : w.heap.size < w2.heap.size := (by have hh := hb2.size; (try simp at hh); omega); have kz21 : w.heap.size + 1 < w2.heap.size := (by have hh := hb2.size; (try simp at hh); omega); have kz22 : w.heap.size + 1 + 1 < w2.heap.size := (by have hh := hb2.size; (try simp at hh); omega); (try (have jzw12 : w1.heap.size < w2.heap.size := (by have hh := hb2.size; (try simp at hh); omega); have jcw12 : ∀ o, w2.cell? ⟨w1.heap.size, o, none⟩ = _ := (fun o => hb2.cell (p := ⟨w1.heap.size, o, none⟩) (by (first | omega | (simp; omega) | simp))); have jfw12 : ∀ o, w2.frozen? ⟨w1.heap.size, o, none⟩ = _ := (fun o => hb2.frozen (p := ⟨w1.heap.size, o, none⟩) (by (first | omega | (simp; omega) | simp)))))
  have hN9 := hW.1
  subst hN9
  by_cases hp1 : 1 ≤ p 0
  case neg =>
    have hp1' : p 0 < 1 := by omega
    obtain ⟨rfl, hE⟩ := HR.out.no (fun ⟨_, h2, _⟩ => hp1 h2)
    go_wp2
    refine bodyPost_ret (v := .tuple #[.agg #[.slice A1 9 c1], .bool false]) (by simp only [results, Try.results9]; first | (go_simp; done) | (go_simp; omega)) rfl ⟨A1, c1, S1, rfl, (((G1.out.below (by (repeat (first | with_reducible exact Below.refl _ _ | with_reducible refine Below.drew ?_ | with_reducible refine below_drewN ?_ _ | (with_reducible refine bel_alloc ?_ ?_ _; (first | omega | (simp; omega) | simp)) | (with_reducible refine bel_set ?_ ?_ _; (first | omega | (simp; omega) | simp)) | (with_reducible refine bel_tr (by assumption) ?_ ?_; (first | omega | (simp; omega) | simp)))))).set_ (by (first | omega | (simp; omega) | simp)) _).own1.1).wide (by (first | omega | (simp; omega) | simp)) (Nat.le_refl _) (by simp [World.setCell]), (fun i hi => by rw [hE i hi]; exact ((M1.out i hi).2).symm), G1.out.own1.2, ?_⟩
    (repeat (first | with_reducible exact Below.refl _ _ | with_reducible refine Below.drew ?_ | with_reducible refine below_drewN ?_ _ | (with_reducible refine bel_alloc ?_ ?_ _; (first | omega | (simp; omega) | simp)) | (with_reducible refine bel_set ?_ ?_ _; (first | omega | (simp; omega) | simp)) | (with_reducible refine bel_tr (by assumption) ?_ ?_; (first | omega | (simp; omega) | simp))))
  have hp1' : ¬ p 0 < 1 := by omega
  have hp0 : 0 ≤ p 0 := by omega
  have hm0 : 0 ≤ p 0 % 9 := by omega
  have hm9 : p 0 % 9 < 9 := by omega
  have hK : (p 0 % 9).toNat < 9 := by omega
  have hk9 : (((p 0 % 9).toNat : Nat) : Int) = p 0 % 9 := by omega
  obtain ⟨b, off, rfl⟩ := H.out.addr (by omega)
  have G2 : Hid (Gat (w.heap.size + 3) w2 (.slice A1 9 c1) 9 S1) := Lib.hid (by
    have h := G1.out.below (w' := w2) (by (repeat (first | with_reducible exact Below.refl _ _ | with_reducible refine Below.drew ?_ | with_reducible refine below_drewN ?_ _ | (with_reducible refine bel_alloc ?_ ?_ _; (first | omega | (simp; omega) | simp)) | (with_reducible refine bel_set ?_ ?_ _; (first | omega | (simp; omega) | simp)) | (with_reducible refine bel_tr (by assumption) ?_ ?_; (first | omega | (simp; omega) | simp)))))
    exact h.lower (by (first | omega | (simp; omega) | simp)))
  have hlt1 : ∀ k, (Value.slice A1 9 c1).ownBlock = some k → k < w1.heap.size := row_lt G1.out.row
  have htk := tot_one (S := S) hK
  have x0 : w2.cell? ⟨w.heap.size, 0, none⟩ = some (.slice (some ⟨b, off, none⟩) 9 c) := by (first | (go_keep; done) | (go_simp; done))
  have x1 : w2.cell? ⟨w.heap.size + 1, 0, none⟩ = some (.int .i64 (p 0)) := by (first | (go_keep; done) | (go_simp; done))
  have x2 : w2.cell? ⟨w.heap.size + 1, 1, none⟩ = some (.int .i64 (p 1)) := by (first | (go_keep; done) | (go_simp; done))
  have x3 : w2.cell? ⟨w.heap.size + 1 + 1, 0, none⟩ = some (.slice none 0 0) := by (first | (go_keep; done) | (go_simp; done))
  have x4 : w2.frozen? ⟨w.heap.size + 1 + 1, 0, none⟩ = false := by (first | (go_keep; done) | (go_simp; done))
  have x5 : w2.cell? ⟨w1.heap.size, 0, none⟩ = some (.slice A1 9 c1) := by (first | (go_keep; done) | (go_simp; done))
  have B2 : Hid (Below w.heap.size w w2) := Lib.hid (by
    show Below w.heap.size w w2
    (repeat (first | with_reducible exact Below.refl _ _ | with_reducible refine Below.drew ?_ | with_reducible refine below_drewN ?_ _ | (with_reducible refine bel_alloc ?_ ?_ _; (first | omega | (simp; omega) | simp)) | (with_reducible refine bel_set ?_ ?_ _; (first | omega | (simp; omega) | simp)) | (with_reducible refine bel_tr (by assumption) ?_ ?_; (first | omega | (simp; omega) | simp)))))
  clear hb2 kc20 kf20 kc21 kf21 kc22 kf22 hc2 hf2 jcw12 jfw12 hb1 kc10 kf10 kc11 kf11 kc12 kf12 hc1 hf1
  go_wp2
  go_loopw [8] (fun i wr => ∃ i2 : Nat, i2 ≤ (S (p 0 % 9).toNat).n ∧ i = .int .i64 i2 ∧ Hid (∀ j, j < i2 → isP (S (p 0 % 9).toNat).es p j = false) ∧ Below w2.heap.size w2 wr) (fun i _ => (S (p 0 % 9).toNat).n - (intOf i).toNat)
  case atStart => exact ⟨0, Nat.zero_le _, rfl, Lib.hid (fun i hi => absurd hi (by omega)), Below.refl _ _⟩
  case round =>
    obtain ⟨i, hi, rfl, HQ, hbel⟩ := hrel
    have hsz := hbel.size
    have R3 := Lib.hid (H.out.below (B2.out.trans (hbel.mono B2.out.size)))
    have hbr := R3.out.lt (by omega)
    have c0 := R3.out.cell hK
    have hle := R3.out.cap _ hK
    have y0 : wr.cell? ⟨w.heap.size, 0, none⟩ = some (.slice (some ⟨b, off, none⟩) 9 c) := (hbel.cell (p := ⟨w.heap.size, 0, none⟩) (by (first | omega | (simp; omega) | simp))).trans x0
    have y1 : wr.cell? ⟨w.heap.size + 1, 0, none⟩ = some (.int .i64 (p 0)) := (hbel.cell (p := ⟨w.heap.size + 1, 0, none⟩) (by (first | omega | (simp; omega) | simp))).trans x1
    have y2 : wr.cell? ⟨w.heap.size + 1, 1, none⟩ = some (.int .i64 (p 1)) := (hbel.cell (p := ⟨w.heap.size + 1, 1, none⟩) (by (first | omega | (simp; omega) | simp))).trans x2
    have y3 : wr.cell? ⟨w.heap.size + 1 + 1, 0, none⟩ = some (.slice none 0 0) := (hbel.cell (p := ⟨w.heap.size + 1 + 1, 0, none⟩) (by (first | omega | (simp; omega) | simp))).trans x3
    have y4 : wr.frozen? ⟨w.heap.size + 1 + 1, 0, none⟩ = false := (hbel.frozen (p := ⟨w.heap.size + 1 + 1, 0, none⟩) (by (first | omega | (simp; omega) | simp))).trans x4
    have y5 : wr.cell? ⟨w1.heap.size, 0, none⟩ = some (.slice A1 9 c1) := (hbel.cell (p := ⟨w1.heap.size, 0, none⟩) (by (first | omega | (simp; omega) | simp))).trans x5
    have G4 : Hid (Gat (w.heap.size + 3) wr (.slice A1 9 c1) 9 S1) := Lib.hid (G2.out.below hbel)
    have bw3 : Below w.heap.size w wr := B2.out.trans (hbel.mono B2.out.size)
    by_cases hlt : i < (S (p 0 % 9).toNat).n
    case neg =>
      have hin : i = (S (p 0 % 9).toNat).n := by omega
      subst hin
      have hdi : decide ((S (p 0 % 9).toNat).n < (S (p 0 % 9).toNat).n) = false := by simp
      obtain ⟨rfl, hE⟩ := HR.out.no (fun ⟨_, _, i, h3, h4⟩ => by
        rw [HQ.out i h3] at h4
        cases h4)
      go_wp2
      refine bodyPost_ret (v := .tuple #[.agg #[.slice A1 9 c1], .bool false]) (by simp only [results, Try.results9]; first | (go_simp; done) | (go_simp; omega)) rfl ⟨A1, c1, S1, rfl, (((G4.out.set_ (by (first | omega | (simp; omega) | simp)) _).own1.1).wide (by (first | omega | (simp; omega) | simp)) (Nat.le_refl _) (by simp [World.setCell])), (fun i hi => by rw [hE i hi]; exact ((M1.out i hi).2).symm), G1.out.own1.2, ?_⟩
      (repeat (first | with_reducible exact Below.refl _ _ | with_reducible refine Below.drew ?_ | with_reducible refine below_drewN ?_ _ | (with_reducible refine bel_alloc ?_ ?_ _; (first | omega | (simp; omega) | simp)) | (with_reducible refine bel_set ?_ ?_ _; (first | omega | (simp; omega) | simp)) | (with_reducible refine bel_tr (by assumption) ?_ ?_; (first | omega | (simp; omega) | simp))))
    obtain ⟨b2, off2, hA2, hb2, hc2⟩ := (R3.out.rd _ hK).2.resolve_left (by omega)
    rw [hA2] at c0
    have f0 := hc2 i hlt 0 (by omega)
    have f1 := hc2 i hlt 1 (by omega)
    rw [Nat.add_zero] at f0
    clear hc2
    have hdi : decide (i < (S (p 0 % 9).toNat).n) = true := by simpa using hlt
    have hki : (i : Int) < ((S (p 0 % 9).toNat).n : Int) := by omega
    have hi0 : (0 : Int) ≤ (i : Int) := by omega
    by_cases e0 : fld (S (p 0 % 9).toNat).es i 0 = p 0
    case neg =>
        have HQ2 : Hid (∀ j, j < i + 1 → isP (S (p 0 % 9).toNat).es p j = false) := fun j hj => by
          by_cases h1 : j < i
          · exact HQ.out j h1
          · obtain rfl : j = i := by omega
            simp only [isP, decide_eq_false_iff_not]
            intro h2
            first | exact e0 h2.1 | exact e1 h2.2
        go_wp2
        go_region
        all_goals
          go_wp2
          go_roundw
          case rel => exact ⟨i + 1, by omega, by go_num, HQ2, hbel.drew⟩
          case measure => simp [intOf]; omega
    by_cases e1 : fld (S (p 0 % 9).toNat).es i 1 = p 1
    case neg =>
        have HQ2 : Hid (∀ j, j < i + 1 → isP (S (p 0 % 9).toNat).es p j = false) := fun j hj => by
          by_cases h1 : j < i
          · exact HQ.out j h1
          · obtain rfl : j = i := by omega
            simp only [isP, decide_eq_false_iff_not]
            intro h2
            first | exact e0 h2.1 | exact e1 h2.2
        go_wp2
        go_region
        all_goals
          go_wp2
          go_roundw
          case rel => exact ⟨i + 1, by omega, by go_num, HQ2, hbel.drew⟩
          case measure => simp [intOf]; omega
    obtain ⟨rfl, hE⟩ := HR.out.yes hW hp1 hlt (by simp [isP, e0, e1]) HQ.out
    go_wp2
    go_region
    have hbel4 : Below wr.heap.size wr wr.drew := (Below.refl _ _).drew
    generalize wr.drew = wq at hbel4 ⊢
    have sq := hbel4.size
    have z0 : wq.cell? ⟨w.heap.size, 0, none⟩ = some (.slice (some ⟨b, off, none⟩) 9 c) := (hbel4.cell (p := ⟨w.heap.size, 0, none⟩) (by (first | omega | (simp; omega) | simp))).trans y0
    have z3 : wq.cell? ⟨w.heap.size + 1 + 1, 0, none⟩ = some (.slice none 0 0) := (hbel4.cell (p := ⟨w.heap.size + 1 + 1, 0, none⟩) (by (first | omega | (simp; omega) | simp))).trans y3
    have z4 : wq.frozen? ⟨w.heap.size + 1 + 1, 0, none⟩ = false := (hbel4.frozen (p := ⟨w.heap.size + 1 + 1, 0, none⟩) (by (first | omega | (simp; omega) | simp))).trans y4
    have z5 : wq.cell? ⟨w1.heap.size, 0, none⟩ = some (.slice A1 9 c1) := (hbel4.cell (p := ⟨w1.heap.size, 0, none⟩) (by (first | omega | (simp; omega) | simp))).trans y5
    have z6 : wq.cell? ⟨b, off + (p 0 % 9).toNat, none⟩ = some (.slice (some ⟨b2, off2, none⟩) (S (p 0 % 9).toNat).n (S (p 0 % 9).toNat).c) := (hbel4.cell (p := ⟨b, off + (p 0 % 9).toNat, none⟩) hbr).trans c0
    have bwq : Below w.heap.size w wq := bw3.trans (hbel4.mono (by (first | omega | (simp; omega) | simp)))
    have G5 : Hid (Gat (w.heap.size + 3) wq (.slice A1 9 c1) 9 S1) := Lib.hid (G4.out.below hbel4)
    have RQ : Hid (Rd wq 2 (some ⟨b2, off2, none⟩) (S (p 0 % 9).toNat).n (S (p 0 % 9).toNat).es) := Lib.hid (by
      have h := (R3.out.rd _ hK).below hbel4
      rw [hA2] at h
      exact h)
    clear y0 y1 y2 y3 y4 y5 x0 x1 x2 x3 x4 x5 f0 f1 c0 e0 e1 hbel hbel4 R3 G4 G2 HQ
    obtain ⟨nk, hnk0⟩ : ∃ nk, nk = (S (p 0 % 9).toNat).n := ⟨_, rfl⟩
    obtain ⟨ck, hck0⟩ : ∃ ck, ck = (S (p 0 % 9).toNat).c := ⟨_, rfl⟩
    rw [← hnk0] at RQ z6 hlt hle hki
    rw [← hck0] at z6 hle
    have HL : Hid ((S (p 0 % 9).toNat).es.length = nk) := Lib.hid (by rw [hnk0]; exact HLen.out _ hK)
    have htk2 : nk ≤ 4194303 := by omega
    have HNK := Lib.hid hnk0
    clear hnk0 hck0
    obtain ⟨A', hA', hsrc⟩ : ∃ A', (if ck = i + 1 then some (⟨b2, off2, none⟩ : Addr) else some ⟨b2, off2 + (i + 1) * 2, none⟩) = some A' ∧ Hid (∀ W : World, Below wq.heap.size wq W → Rd W 2 (some A') (nk - (i + 1)) ((S (p 0 % 9).toNat).es.drop (i + 1))) := by
      by_cases hck : ck = i + 1
      · refine ⟨⟨b2, off2, none⟩, if_pos hck, fun W hW => ?_⟩
        rw [show nk - (i + 1) = 0 by omega]
        exact (RQ.out.below hW).none_left (k := i + 1) (by have := HL.out; omega)
      · exact ⟨⟨b2, off2 + (i + 1) * 2, none⟩, if_neg hck, fun W hW => (RQ.out.below hW).drop (by omega)⟩
    have e1 := wrap_add1 i (by omega)
    have e2 : (0 : Int) ≤ (i : Int) + 1 := by omega
    have e3 : ((i : Int) + 1).toNat = i + 1 := by omega
    have hkc : i ≤ ck := by omega
    have hkc1 : i + 1 ≤ ck := by omega
    have hkn : i + 1 ≤ nk := by omega
    have hki1 : (i : Int) + 1 ≤ (nk : Int) := by omega
    have hin : i ≤ nk := by omega
    have hcm8 : ck ≤ 9223372036854775807 := hle.2
    have hnk8 : nk ≤ ck := hle.1
    have hkci : (i : Int) ≤ (ck : Int) := by omega
    have hkc1i : (i : Int) + 1 ≤ (ck : Int) := by omega
    clear hle
    obtain ⟨b1, hA1⟩ : ∃ b1, A1 = some ⟨b1, 0, none⟩ := by
      rcases G5.out.row.2 with ⟨_, h0⟩ | ⟨b3, cap, cur, hv, _⟩
      · omega
      · injection hv with hv _ _
        exact ⟨b3, hv⟩
    subst hA1
    have hb1q : b1 < wq.heap.size := G5.out.own1.1.rdw.lt (by omega)
    have hb1w : b1 < w1.heap.size := hlt1 b1 rfl
    have hb13 : w.heap.size + 3 ≤ b1 := row_ge G5.out.row (Nat.le_refl _) b1 rfl
    obtain ⟨i0, hi0', hz0, hz1, hz2⟩ := info_parts copyPin_info
    have sq5 : w1.heap.size < wq.heap.size := by (first | omega | (simp; omega) | simp)
    have hbw : b < w.heap.size := H.out.lt (by omega)
    have hn1 : ¬ w1.heap.size = b1 := by omega
    have hn2 : ¬ w.heap.size = b1 := by omega
    have hn3 : ¬ b = b1 := by omega
    have hn4 : ¬ b1 = w1.heap.size := by omega
    have hn5 : ¬ b1 = w.heap.size := by omega
    have hn6 : ¬ b1 = b := by omega
    have ht9 : (p 0).tmod 9 = p 0 % 9 := Int.tmod_eq_emod_of_nonneg hp0
    go_upto_region 9 with fail
    go_region_held3 (fun w' => w'.cell? ⟨w1.heap.size, 0, none⟩ = some (.slice (some ⟨b1, 0, none⟩) 9 c1) ∧ w'.cell? ⟨w.heap.size, 0, none⟩ = some (.slice (some ⟨b, off, none⟩) 9 c) ∧ w'.cell? ⟨b, off + (p 0 % 9).toNat, none⟩ = some (.slice (some ⟨b2, off2, none⟩) nk ck)) ((first | (go_keep; done) | (go_simp; done))) (first
      | (refine step_append_rd _ (by rfl) (.tmp 46) (.tmp 53) 34 (by rfl) wq.heap.size 28 i0 _ 2 16 Try.underlying34 hi0' hz0 hz1 hz2 (by rfl) (by omega) (.slice (some ⟨wq.heap.size, 0, none⟩) 0 0) 0 [] (by rfl) (by first | exact rowE wq _ 2 | exact World.ownsRow.drew (rowE wq _ 2)) (some ⟨b2, off2, none⟩) i ck ((S (p 0 % 9).toNat).es.take i) (by rfl) ((RQ.out.below (by (repeat (first | with_reducible exact Below.refl _ _ | with_reducible refine Below.drew ?_ | with_reducible refine below_drewN ?_ _ | (with_reducible refine bel_alloc ?_ ?_ _; (first | omega | (simp; omega) | simp)) | (with_reducible refine bel_set ?_ ?_ _; (first | omega | (simp; omega) | simp)) | (with_reducible refine bel_tr (by assumption) ?_ ?_; (first | omega | (simp; omega) | simp)))))).take hin) (by unfold maxLen; omega) (by omega) (by (first | omega | (simp; omega) | simp)) ?_; intro v3 w3 hown3 hg3 hat3; have b3 : Below wq.heap.size wq w3 := Below.grown (show Below wq.heap.size wq _ from by (repeat (first | with_reducible exact Below.refl _ _ | with_reducible refine Below.drew ?_ | with_reducible refine below_drewN ?_ _ | (with_reducible refine bel_alloc ?_ ?_ _; (first | omega | (simp; omega) | simp)) | (with_reducible refine bel_set ?_ ?_ _; (first | omega | (simp; omega) | simp)) | (with_reducible refine bel_tr (by assumption) ?_ ?_; (first | omega | (simp; omega) | simp))))) hg3 (by (first | omega | (simp; omega) | simp)) (by simp [Value.ownBlock]); have s3 := b3.size; have kc3 : ∀ x o, x < wq.heap.size → w3.cell? ⟨x, o, none⟩ = wq.cell? ⟨x, o, none⟩ := (fun x o hx => b3.cell (p := ⟨x, o, none⟩) hx); have u30 := (kc3 w1.heap.size 0 sq5).trans z5; have u31 := (kc3 w.heap.size 0 (by omega)).trans z0; have u32 := (kc3 b (off + (p 0 % 9).toNat) (by (first | omega | (simp; omega) | simp))).trans z6; trace "ARM1")
      | (refine step_append_rd _ (by rfl) (.tmp 54) (.tmp 62) 34 (by rfl) wq.heap.size 28 i0 _ 2 16 Try.underlying34 hi0' hz0 hz1 hz2 (by rfl) (by omega) v3 (0 + i) ([] ++ (S (p 0 % 9).toNat).es.take i) (by rfl) hown3 (some A') (nk - (i + 1)) (ck - (i + 1)) ((S (p 0 % 9).toNat).es.drop (i + 1)) (by rfl) (hsrc.out _ (by (repeat (first | with_reducible exact Below.refl _ _ | with_reducible refine Below.drew ?_ | with_reducible refine below_drewN ?_ _ | (with_reducible refine bel_alloc ?_ ?_ _; (first | omega | (simp; omega) | simp)) | (with_reducible refine bel_set ?_ ?_ _; (first | omega | (simp; omega) | simp)) | (with_reducible refine bel_tr (by assumption) ?_ ?_; (first | omega | (simp; omega) | simp)))))) (by unfold maxLen; omega) (by omega) (by (first | omega | (simp; omega) | simp)) ?_; intro v4 w5 hown4 hg4 hat4; obtain ⟨A4, c4, hv4, hc41, hc42⟩ := slice_of_row hown4; subst hv4; have e8 : 0 + i + (nk - (i + 1)) = nk - 1 := (by omega); rw [e8] at hown4 hc41 ⊢; have b5 : Below wq.heap.size wq w5 := Below.grown (show Below wq.heap.size wq _ from by (repeat (first | with_reducible exact Below.refl _ _ | with_reducible refine Below.drew ?_ | with_reducible refine below_drewN ?_ _ | (with_reducible refine bel_alloc ?_ ?_ _; (first | omega | (simp; omega) | simp)) | (with_reducible refine bel_set ?_ ?_ _; (first | omega | (simp; omega) | simp)) | (with_reducible refine bel_tr (by assumption) ?_ ?_; (first | omega | (simp; omega) | simp))))) hg4 (by (first | omega | (simp; omega) | simp)) (row_ge hown3 (Nat.le_refl _)); have s5 := b5.size; have hown4c : w5.ownsRow wq.heap.size 28 2 (.slice A4 (nk - 1) c4) (nk - 1) (flat 2 (cutL (S (p 0 % 9).toNat).es i)) := (by simpa [cutL] using hown4); have o4 : Own wq.heap.size w5 2 A4 (nk - 1) (cutL (S (p 0 % 9).toNat).es i) := (by obtain ⟨_, _, he, o4⟩ := own_of_row (cutL_len HL.out hlt) hown4c; cases he; exact o4); have hg6 : wq.grownBy w5 (S1 (p 0 % 9).toNat).v.ownBlock := ⟨b5.os, b5.tape, b5.output, b5.size, fun k hk _ => b5.block k hk⟩; obtain ⟨b3, hb3A, _, _, ⟨u2, hu2⟩, hf2, hown5⟩ := G5.out.put (s := ⟨A4, nk - 1, c4, cutL (S (p 0 % 9).toNat).es i⟩) hK hg6 (o4.mono (by (first | omega | (simp; omega) | simp))) ⟨hc41, hc42⟩ (fun a _ ha => .inr (row_ge hown4c (Nat.le_refl _) a.block (by rw [show A4 = some a from ha]; rfl))); have hb31 : b3 = b1 := (by cases hb3A; rfl); subst hb31; have hown5 := Lib.hid hown5; have x50 := (b5.cell (p := ⟨w1.heap.size, 0, none⟩) sq5).trans z5; have x51 := (b5.cell (p := ⟨w.heap.size, 0, none⟩) (by (first | omega | (simp; omega) | simp))).trans z0; have x52 := (b5.cell (p := ⟨b, off + (p 0 % 9).toNat, none⟩) (by (first | omega | (simp; omega) | simp))).trans z6; have x53 := (b5.cell (p := ⟨w.heap.size + 1 + 1, 0, none⟩) (by (first | omega | (simp; omega) | simp))).trans z3; have x54 := (b5.frozen (p := ⟨w.heap.size + 1 + 1, 0, none⟩) (by (first | omega | (simp; omega) | simp))).trans z4; clear hown4 hown4c o4 hg6 hg4 hat4))
    go_wp2
    refine bodyPost_ret (v := .tuple #[.agg #[.slice (some ⟨b3, 0, none⟩) 9 c1], .bool true]) (by simp only [results, Try.results9]; first | (go_simp; done) | (go_simp; omega)) rfl ⟨(some ⟨b3, 0, none⟩), c1, rfl, (updS S1 (p 0 % 9).toNat ⟨A4, nk - 1, c4, cutL (S (p 0 % 9).toNat).es i⟩), (hown5.out.set_ (.inl (by (first | omega | (simp; omega) | simp))) _).wide (by omega) (by simp [World.setCell]) (by simp [World.setCell]), (fun j hj => by (try rw [hE j hj]); unfold updS; by_cases h1 : j = (p 0 % 9).toNat; (rw [if_pos h1, if_pos h1]); (rw [if_neg h1, if_neg h1]; exact (M1.out j hj).2.symm)), G1.out.own1.2, ?_⟩
    (repeat (first | with_reducible exact Below.refl _ _ | with_reducible refine Below.drew ?_ | with_reducible refine below_drewN ?_ _ | (with_reducible refine bel_alloc ?_ ?_ _; (first | omega | (simp; omega) | simp)) | (with_reducible refine bel_set ?_ ?_ _; (first | omega | (simp; omega) | simp)) | (with_reducible refine bel_tr (by assumption) ?_ ?_; (first | omega | (simp; omega) | simp))))
end Go.Proofs.Ytehmanlpgjccoaa
