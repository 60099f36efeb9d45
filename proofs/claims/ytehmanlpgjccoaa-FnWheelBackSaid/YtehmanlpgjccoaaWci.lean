/-
  The contract of the program's WheelCut. No conditions beyond those stated.
-/
import Derived.Test.YtehmanlpgjccoaaWc
import Derived.Test.YtehmanlpgjccoaaWi
import Derived.Test.YtehmanlpgjccoaaW3
import Derived.Test.YtehmanlpgjccoaaDep
import Derived.Deep.DeepCutAuto
namespace Go.Proofs.Ytehmanlpgjccoaa
open Go.RowKit

set_option maxRecDepth 100000 in
set_option maxHeartbeats 8000000 in
theorem iWheelCut_any (A : Option Addr) (N c : Nat) (S : Nat → Sp) (p : Nat → Int) (E : Nat → List (Nat → Int)) (b : Bool) (w : World) (hN : N ≤ 4194304) (hT : tot S N ≤ 4194303) (h : RdW w A N S) (hR : CutR N S p E b) :
    Calls Try.prog 8 #[.agg #[.slice A N c], .agg #[.int .i64 (p 0), .int .i64 (p 1)]] w fun y w' => ∃ A' c' S', y = .returned (.tuple #[.agg #[.slice A' N c'], .bool b]) ∧ OwnW w.heap.size w'.heap.size w' A' N S' ∧ (∀ i, i < N → (S' i).es = E i) ∧ (N ≤ c' ∧ c' ≤ 9223372036854775807) ∧ Below w.heap.size w w' := by
  have H := Lib.hid h
  have HR := Lib.hid hR
  have HLen := Lib.hid h.lens
  have hT4 : tot S N ≤ 4194304 := by omega
  clear h hR
  go_enter Try.func8, Try.ntmps8
  go_wp2_with fail
  refine (copyWheel_any A N c S _ hN hT4 (H.out.below (by (repeat (first | with_reducible exact Below.refl _ _ | with_reducible refine Below.drew ?_ | with_reducible refine below_drewN ?_ _ | (with_reducible refine bel_alloc ?_ ?_ _; (first | omega | (simp; omega) | simp)) | (with_reducible refine bel_set ?_ ?_ _; (first | omega | (simp; omega) | simp)) | (with_reducible refine bel_tr (by assumption) ?_ ?_; (first | omega | (simp; omega) | simp))))))).mono ?_
  rintro y w1 ⟨A1, c1, S1, rfl, g1, m1, hb1⟩
  have bc1 := bcell hb1; obtain ⟨hc1, hf1⟩ := bc1; have ks1 := hb1.size; (try simp at ks1); have kc10 : ∀ o, w1.cell? ⟨w.heap.size, o, none⟩ = _ := (fun o => hb1.cell (p := ⟨w.heap.size, o, none⟩) (by (first | omega | (simp; omega) | simp))); have kf10 : ∀ o, w1.frozen? ⟨w.heap.size, o, none⟩ = _ := (fun o => hb1.frozen (p := ⟨w.heap.size, o, none⟩) (by (first | omega | (simp; omega) | simp))); have kc11 : ∀ o, w1.cell? ⟨w.heap.size + 1, o, none⟩ = _ := (fun o => hb1.cell (p := ⟨w.heap.size + 1, o, none⟩) (by (first | omega | (simp; omega) | simp))); have kf11 : ∀ o, w1.frozen? ⟨w.heap.size + 1, o, none⟩ = _ := (fun o => hb1.frozen (p := ⟨w.heap.size + 1, o, none⟩) (by (first | omega | (simp; omega) | simp))); have kc12 : ∀ o, w1.cell? ⟨w.heap.size + 1 + 1, o, none⟩ = _ := (fun o => hb1.cell (p := ⟨w.heap.size + 1 + 1, o, none⟩) (by (first | omega | (simp; omega) | simp))); have kf12 : ∀ o, w1.frozen? ⟨w.heap.size + 1 + 1, o, none⟩ = _ := (fun o => hb1.frozen (p := ⟨w.heap.size + 1 + 1, o, none⟩) (by (first | omega | (simp; omega) | simp))); have kz10 : w.heap.size < w1.heap.size := (by have hh := hb1.size; (try simp at hh); omega); have kz11 : w.heap.size + 1 < w1.heap.size := (by have hh := hb1.size; (try simp at hh); omega); have kz12 : w.heap.size + 1 + 1 < w1.heap.size := (by have hh := hb1.size; (try simp at hh); omega)
  have G1 := Lib.hid g1
  have M1 := Lib.hid m1
  clear g1 m1
  go_wp2_with fail
  by_cases hW : WOK N S
  case neg =>
    obtain ⟨rfl, hE⟩ := HR.out.no (fun h => hW h.1)
    refine (tn (iWheelOk_any A N c S _ hN hT4 (H.out.below (by (repeat (first | with_reducible exact Below.refl _ _ | with_reducible refine Below.drew ?_ | with_reducible refine below_drewN ?_ _ | (with_reducible refine bel_alloc ?_ ?_ _; (first | omega | (simp; omega) | simp)) | (with_reducible refine bel_set ?_ ?_ _; (first | omega | (simp; omega) | simp)) | (with_reducible refine bel_tr (by assumption) ?_ ?_; (first | omega | (simp; omega) | simp))))))) hW).mono ?_
    rintro y w2 ⟨rfl, hb2⟩
    have bc2 := bcell hb2; obtain ⟨hc2, hf2⟩ := bc2; have ks2 := hb2.size; (try simp at ks2); have kc20 : ∀ o, w2.cell? ⟨w.heap.size, o, none⟩ = _ := (fun o => hb2.cell (p := ⟨w.heap.size, o, none⟩) (by (first | omega | (simp; omega) | simp))); have kf20 : ∀ o, w2.frozen? ⟨w.heap.size, o, none⟩ = _ := (fun o => hb2.frozen (p := ⟨w.heap.size, o, none⟩) (by (first | omega | (simp; omega) | simp))); have kc21 : ∀ o, w2.cell? ⟨w.heap.size + 1, o, none⟩ = _ := (fun o => hb2.cell (p := ⟨w.heap.size + 1, o, none⟩) (by (first | omega | (simp; omega) | simp))); have kf21 : ∀ o, w2.frozen? ⟨w.heap.size + 1, o, none⟩ = _ := (fun o => hb2.frozen (p := ⟨w.heap.size + 1, o, none⟩) (by (first | omega | (simp; omega) | simp))); have kc22 : ∀ o, w2.cell? ⟨w.heap.size + 1 + 1, o, none⟩ = _ := (fun o => hb2.cell (p := ⟨w.heap.size + 1 + 1, o, none⟩) (by (first | omega | (simp; omega) | simp))); have kf22 : ∀ o, w2.frozen? ⟨w.heap.size + 1 + 1, o, none⟩ = _ := (fun o => hb2.frozen (p := ⟨w.heap.size + 1 + 1, o, none⟩) (by (first | omega | (simp; omega) | simp))); have kz20 : w.heap.size < w2.heap.size := (by have hh := hb2.size; (try simp at hh); omega); have kz21 : w.heap.size + 1 < w2.heap.size := (by have hh := hb2.size; (try simp at hh); omega); have kz22 : w.heap.size + 1 + 1 < w2.heap.size := (by have hh := hb2.size; (try simp at hh); omega); (try (have jzw12 : w1.heap.size < w2.heap.size := (by have hh := hb2.size; (try simp at hh); omega); have jcw12 : ∀ o, w2.cell? ⟨w1.heap.size, o, none⟩ = _ := (fun o => hb2.cell (p := ⟨w1.heap.size, o, none⟩) (by (first | omega | (simp; omega) | simp))); have jfw12 : ∀ o, w2.frozen? ⟨w1.heap.size, o, none⟩ = _ := (fun o => hb2.frozen (p := ⟨w1.heap.size, o, none⟩) (by (first | omega | (simp; omega) | simp)))))
    go_wp2
    refine bodyPost_ret (v := .tuple #[.agg #[.slice A1 N c1], .bool false]) (by simp only [results, Try.results8]; first | (go_simp; done) | (go_simp; omega)) rfl ⟨A1, c1, S1, rfl, (((G1.out.below (by (repeat (first | with_reducible exact Below.refl _ _ | with_reducible refine Below.drew ?_ | with_reducible refine below_drewN ?_ _ | (with_reducible refine bel_alloc ?_ ?_ _; (first | omega | (simp; omega) | simp)) | (with_reducible refine bel_set ?_ ?_ _; (first | omega | (simp; omega) | simp)) | (with_reducible refine bel_tr (by assumption) ?_ ?_; (first | omega | (simp; omega) | simp)))))).set_ (by (first | omega | (simp; omega) | simp)) _).own1.1).wide (by (first | omega | (simp; omega) | simp)) (Nat.le_refl _) (by simp [World.setCell]), (fun i hi => by rw [hE i hi]; exact ((M1.out i hi).2).symm), G1.out.own1.2, ?_⟩
    (repeat (first | with_reducible exact Below.refl _ _ | with_reducible refine Below.drew ?_ | with_reducible refine below_drewN ?_ _ | (with_reducible refine bel_alloc ?_ ?_ _; (first | omega | (simp; omega) | simp)) | (with_reducible refine bel_set ?_ ?_ _; (first | omega | (simp; omega) | simp)) | (with_reducible refine bel_tr (by assumption) ?_ ?_; (first | omega | (simp; omega) | simp))))
  refine (ty (iWheelOk_any A N c S _ hN hT4 (H.out.below (by (repeat (first | with_reducible exact Below.refl _ _ | with_reducible refine Below.drew ?_ | with_reducible refine below_drewN ?_ _ | (with_reducible refine bel_alloc ?_ ?_ _; (first | omega | (simp; omega) | simp)) | (with_reducible refine bel_set ?_ ?_ _; (first | omega | (simp; omega) | simp)) | (with_reducible refine bel_tr (by assumption) ?_ ?_; (first | omega | (simp; omega) | simp))))))) hW).mono ?_
  rintro y w2 ⟨rfl, hb2⟩
  have bc2 := bcell hb2; obtain ⟨hc2, hf2⟩ := bc2; have ks2 := hb2.size; (try simp at ks2); have kc20 : ∀ o, w2.cell? ⟨w.heap.size, o, none⟩ = _ := (fun o => hb2.cell (p := ⟨w.heap.size, o, none⟩) (by (first | omega | (simp; omega) | simp))); have kf20 : ∀ o, w2.frozen? ⟨w.heap.size, o, none⟩ = _ := (fun o => hb2.frozen (p := ⟨w.heap.size, o, none⟩) (by (first | omega | (simp; omega) | simp))); have kc21 : ∀ o, w2.cell? ⟨w.heap.size + 1, o, none⟩ = _ := (fun o => hb2.cell (p := ⟨w.heap.size + 1, o, none⟩) (by (first | omega | (simp; omega) | simp))); have kf21 : ∀ o, w2.frozen? ⟨w.heap.size + 1, o, none⟩ = _ := (fun o => hb2.frozen (p := ⟨w.heap.size + 1, o, none⟩) (by (first | omega | (simp; omega) | simp))); have kc22 : ∀ o, w2.cell? ⟨w.heap.size + 1 + 1, o, none⟩ = _ := (fun o => hb2.cell (p := ⟨w.heap.size + 1 + 1, o, none⟩) (by (first | omega | (simp; omega) | simp))); have kf22 : ∀ o, w2.frozen? ⟨w.heap.size + 1 + 1, o, none⟩ = _ := (fun o => hb2.frozen (p := ⟨w.heap.size + 1 + 1, o, none⟩) (by (first | omega | (simp; omega) | simp))); have kz20 : w.heap.size < w2.heap.size := (by have hh := hb2.size; (try simp at hh); omega); have kz21 : w.heap.size + 1 < w2.heap.size := (by have hh := hb2.size; (try simp at hh); omega); have kz22 : w.heap.size + 1 + 1 < w2.heap.size := (by have hh := hb2.size; (try simp at hh); omega); (try (have jzw12 : w1.heap.size < w2.heap.size := (by have hh := hb2.size; (try simp at hh); omega); have jcw12 : ∀ o, w2.cell? ⟨w1.heap.size, o, none⟩ = _ := (fun o => hb2.cell (p := ⟨w1.heap.size, o, none⟩) (by (first | omega | (simp; omega) | simp))); have jfw12 : ∀ o, w2.frozen? ⟨w1.heap.size, o, none⟩ = _ := (fun o => hb2.frozen (p := ⟨w1.heap.size, o, none⟩) (by (first | omega | (simp; omega) | simp)))))
  go_wp2_with fail
  have hN9 := hW.1
  subst hN9
  by_cases hP : pinR p
  case neg =>
    obtain ⟨rfl, hE⟩ := HR.out.no (fun ⟨h1, h2, i, h3, h4⟩ => not_in HLen.out h1 hP (by omega) h3 h4)
    refine (tn (pinOk_any p _) hP).mono ?_
    rintro y w3 ⟨rfl, hb3⟩
    have bc3 := bcell hb3; obtain ⟨hc3, hf3⟩ := bc3; have ks3 := hb3.size; (try simp at ks3); have kc30 : ∀ o, w3.cell? ⟨w.heap.size, o, none⟩ = _ := (fun o => hb3.cell (p := ⟨w.heap.size, o, none⟩) (by (first | omega | (simp; omega) | simp))); have kf30 : ∀ o, w3.frozen? ⟨w.heap.size, o, none⟩ = _ := (fun o => hb3.frozen (p := ⟨w.heap.size, o, none⟩) (by (first | omega | (simp; omega) | simp))); have kc31 : ∀ o, w3.cell? ⟨w.heap.size + 1, o, none⟩ = _ := (fun o => hb3.cell (p := ⟨w.heap.size + 1, o, none⟩) (by (first | omega | (simp; omega) | simp))); have kf31 : ∀ o, w3.frozen? ⟨w.heap.size + 1, o, none⟩ = _ := (fun o => hb3.frozen (p := ⟨w.heap.size + 1, o, none⟩) (by (first | omega | (simp; omega) | simp))); have kc32 : ∀ o, w3.cell? ⟨w.heap.size + 1 + 1, o, none⟩ = _ := (fun o => hb3.cell (p := ⟨w.heap.size + 1 + 1, o, none⟩) (by (first | omega | (simp; omega) | simp))); have kf32 : ∀ o, w3.frozen? ⟨w.heap.size + 1 + 1, o, none⟩ = _ := (fun o => hb3.frozen (p := ⟨w.heap.size + 1 + 1, o, none⟩) (by (first | omega | (simp; omega) | simp))); have kz30 : w.heap.size < w3.heap.size := (by have hh := hb3.size; (try simp at hh); omega); have kz31 : w.heap.size + 1 < w3.heap.size := (by have hh := hb3.size; (try simp at hh); omega); have kz32 : w.heap.size + 1 + 1 < w3.heap.size := (by have hh := hb3.size; (try simp at hh); omega); (try (have jzw13 : w1.heap.size < w3.heap.size := (by have hh := hb3.size; (try simp at hh); omega); have jcw13 : ∀ o, w3.cell? ⟨w1.heap.size, o, none⟩ = _ := (fun o => hb3.cell (p := ⟨w1.heap.size, o, none⟩) (by (first | omega | (simp; omega) | simp))); have jfw13 : ∀ o, w3.frozen? ⟨w1.heap.size, o, none⟩ = _ := (fun o => hb3.frozen (p := ⟨w1.heap.size, o, none⟩) (by (first | omega | (simp; omega) | simp)))))
    go_wp2
    refine bodyPost_ret (v := .tuple #[.agg #[.slice A1 9 c1], .bool false]) (by simp only [results, Try.results8]; first | (go_simp; done) | (go_simp; omega)) rfl ⟨A1, c1, S1, rfl, (((G1.out.below (by (repeat (first | with_reducible exact Below.refl _ _ | with_reducible refine Below.drew ?_ | with_reducible refine below_drewN ?_ _ | (with_reducible refine bel_alloc ?_ ?_ _; (first | omega | (simp; omega) | simp)) | (with_reducible refine bel_set ?_ ?_ _; (first | omega | (simp; omega) | simp)) | (with_reducible refine bel_tr (by assumption) ?_ ?_; (first | omega | (simp; omega) | simp)))))).set_ (by (first | omega | (simp; omega) | simp)) _).own1.1).wide (by (first | omega | (simp; omega) | simp)) (Nat.le_refl _) (by simp [World.setCell]), (fun i hi => by rw [hE i hi]; exact ((M1.out i hi).2).symm), G1.out.own1.2, ?_⟩
    (repeat (first | with_reducible exact Below.refl _ _ | with_reducible refine Below.drew ?_ | with_reducible refine below_drewN ?_ _ | (with_reducible refine bel_alloc ?_ ?_ _; (first | omega | (simp; omega) | simp)) | (with_reducible refine bel_set ?_ ?_ _; (first | omega | (simp; omega) | simp)) | (with_reducible refine bel_tr (by assumption) ?_ ?_; (first | omega | (simp; omega) | simp))))
  refine (ty (pinOk_any p _) hP).mono ?_
  rintro y w3 ⟨rfl, hb3⟩
  have bc3 := bcell hb3; obtain ⟨hc3, hf3⟩ := bc3; have ks3 := hb3.size; (try simp at ks3); have kc30 : ∀ o, w3.cell? ⟨w.heap.size, o, none⟩ = _ := (fun o => hb3.cell (p := ⟨w.heap.size, o, none⟩) (by (first | omega | (simp; omega) | simp))); have kf30 : ∀ o, w3.frozen? ⟨w.heap.size, o, none⟩ = _ := (fun o => hb3.frozen (p := ⟨w.heap.size, o, none⟩) (by (first | omega | (simp; omega) | simp))); have kc31 : ∀ o, w3.cell? ⟨w.heap.size + 1, o, none⟩ = _ := (fun o => hb3.cell (p := ⟨w.heap.size + 1, o, none⟩) (by (first | omega | (simp; omega) | simp))); have kf31 : ∀ o, w3.frozen? ⟨w.heap.size + 1, o, none⟩ = _ := (fun o => hb3.frozen (p := ⟨w.heap.size + 1, o, none⟩) (by (first | omega | (simp; omega) | simp))); have kc32 : ∀ o, w3.cell? ⟨w.heap.size + 1 + 1, o, none⟩ = _ := (fun o => hb3.cell (p := ⟨w.heap.size + 1 + 1, o, none⟩) (by (first | omega | (simp; omega) | simp))); have kf32 : ∀ o, w3.frozen? ⟨w.heap.size + 1 + 1, o, none⟩ = _ := (fun o => hb3.frozen (p := ⟨w.heap.size + 1 + 1, o, none⟩) (by (first | omega | (simp; omega) | simp))); have kz30 : w.heap.size < w3.heap.size := (by have hh := hb3.size; (try simp at hh); omega); have kz31 : w.heap.size + 1 < w3.heap.size := (by have hh := hb3.size; (try simp at hh); omega); have kz32 : w.heap.size + 1 + 1 < w3.heap.size := (by have hh := hb3.size; (try simp at hh); omega); (try (have jzw13 : w1.heap.size < w3.heap.size := (by have hh := hb3.size; (try simp at hh); omega); have jcw13 : ∀ o, w3.cell? ⟨w1.heap.size, o, none⟩ = _ := (fun o => hb3.cell (p := ⟨w1.heap.size, o, none⟩) (by (first | omega | (simp; omega) | simp))); have jfw13 : ∀ o, w3.frozen? ⟨w1.heap.size, o, none⟩ = _ := (fun o => hb3.frozen (p := ⟨w1.heap.size, o, none⟩) (by (first | omega | (simp; omega) | simp)))))
  have hp1 : 1 ≤ p 0 := hP.1.1
  have hp0 : 0 ≤ p 0 := by omega
  have hm0 : 0 ≤ p 0 % 9 := by omega
  have hm9 : p 0 % 9 < 9 := by omega
  have hK : (p 0 % 9).toNat < 9 := by omega
  have hk9 : (((p 0 % 9).toNat : Nat) : Int) = p 0 % 9 := by omega
  have G3 : Hid (Gat (w.heap.size + 3) w3 (.slice A1 9 c1) 9 S1) := Lib.hid (by
    have h := G1.out.below (w' := w3) (by (repeat (first | with_reducible exact Below.refl _ _ | with_reducible refine Below.drew ?_ | with_reducible refine below_drewN ?_ _ | (with_reducible refine bel_alloc ?_ ?_ _; (first | omega | (simp; omega) | simp)) | (with_reducible refine bel_set ?_ ?_ _; (first | omega | (simp; omega) | simp)) | (with_reducible refine bel_tr (by assumption) ?_ ?_; (first | omega | (simp; omega) | simp)))))
    exact h.lower (by (first | omega | (simp; omega) | simp)))
  obtain ⟨b1, off1, hA1⟩ := G3.out.own1.1.rdw.addr (by omega)
  have hoff : off1 = 0 := by
    rcases G3.out.row.2 with ⟨_, h0⟩ | ⟨b2, cap, cur, hv, _⟩
    · omega
    · injection hv with hv _ _
      rw [hA1] at hv
      injection hv with hv
      injection hv
  subst hoff
  subst hA1
  have c3 := G3.out.own1.1.rdw.cell hK
  rw [Nat.zero_add] at c3
  have hb13 := G3.out.own1.1.rdw.lt (by omega)
  have R3 := Lib.hid (G3.out.own1.1.rdw.rd _ hK)
  have htk := tot_one (S := S) hK
  have hnk := (M1.out _ hK).1
  have hek := (M1.out _ hK).2
  have hle := G3.out.own1.1.rdw.cap _ hK
  go_wp2_with fail
  refine (indexPin_any (S1 (p 0 % 9).toNat).A (S1 (p 0 % 9).toNat).n (S1 (p 0 % 9).toNat).c (S1 (p 0 % 9).toNat).es p _ (by omega) R3.out).mono ?_
  rintro y w4 ⟨r, hr, rfl, hb4⟩
  have bc4 := bcell hb4; obtain ⟨hc4, hf4⟩ := bc4; have ks4 := hb4.size; (try simp at ks4); have kc40 : ∀ o, w4.cell? ⟨w.heap.size, o, none⟩ = _ := (fun o => hb4.cell (p := ⟨w.heap.size, o, none⟩) (by (first | omega | (simp; omega) | simp))); have kf40 : ∀ o, w4.frozen? ⟨w.heap.size, o, none⟩ = _ := (fun o => hb4.frozen (p := ⟨w.heap.size, o, none⟩) (by (first | omega | (simp; omega) | simp))); have kc41 : ∀ o, w4.cell? ⟨w.heap.size + 1, o, none⟩ = _ := (fun o => hb4.cell (p := ⟨w.heap.size + 1, o, none⟩) (by (first | omega | (simp; omega) | simp))); have kf41 : ∀ o, w4.frozen? ⟨w.heap.size + 1, o, none⟩ = _ := (fun o => hb4.frozen (p := ⟨w.heap.size + 1, o, none⟩) (by (first | omega | (simp; omega) | simp))); have kc42 : ∀ o, w4.cell? ⟨w.heap.size + 1 + 1, o, none⟩ = _ := (fun o => hb4.cell (p := ⟨w.heap.size + 1 + 1, o, none⟩) (by (first | omega | (simp; omega) | simp))); have kf42 : ∀ o, w4.frozen? ⟨w.heap.size + 1 + 1, o, none⟩ = _ := (fun o => hb4.frozen (p := ⟨w.heap.size + 1 + 1, o, none⟩) (by (first | omega | (simp; omega) | simp))); have kz40 : w.heap.size < w4.heap.size := (by have hh := hb4.size; (try simp at hh); omega); have kz41 : w.heap.size + 1 < w4.heap.size := (by have hh := hb4.size; (try simp at hh); omega); have kz42 : w.heap.size + 1 + 1 < w4.heap.size := (by have hh := hb4.size; (try simp at hh); omega); (try (have jzw14 : w1.heap.size < w4.heap.size := (by have hh := hb4.size; (try simp at hh); omega); have jcw14 : ∀ o, w4.cell? ⟨w1.heap.size, o, none⟩ = _ := (fun o => hb4.cell (p := ⟨w1.heap.size, o, none⟩) (by (first | omega | (simp; omega) | simp))); have jfw14 : ∀ o, w4.frozen? ⟨w1.heap.size, o, none⟩ = _ := (fun o => hb4.frozen (p := ⟨w1.heap.size, o, none⟩) (by (first | omega | (simp; omega) | simp)))))
  rcases hr with ⟨i, hi, rfl, hy, hbe⟩ | ⟨rfl, hno⟩
  case inr =>
    obtain ⟨rfl, hE⟩ := HR.out.no (fun ⟨_, _, i, h3, h4⟩ => by
      rw [hnk] at h3
      rw [hek, hno i h3] at h4
      cases h4)
    go_wp2
    refine bodyPost_ret (v := .tuple #[.agg #[.slice (some ⟨b1, 0, none⟩) 9 c1], .bool false]) (by simp only [results, Try.results8]; first | (go_simp; done) | (go_simp; omega)) rfl ⟨(some ⟨b1, 0, none⟩), c1, S1, rfl, (((G1.out.below (by (repeat (first | with_reducible exact Below.refl _ _ | with_reducible refine Below.drew ?_ | with_reducible refine below_drewN ?_ _ | (with_reducible refine bel_alloc ?_ ?_ _; (first | omega | (simp; omega) | simp)) | (with_reducible refine bel_set ?_ ?_ _; (first | omega | (simp; omega) | simp)) | (with_reducible refine bel_tr (by assumption) ?_ ?_; (first | omega | (simp; omega) | simp)))))).set_ (by (first | omega | (simp; omega) | simp)) _).own1.1).wide (by (first | omega | (simp; omega) | simp)) (Nat.le_refl _) (by simp [World.setCell]), (fun i hi => by rw [hE i hi]; exact ((M1.out i hi).2).symm), G1.out.own1.2, ?_⟩
    (repeat (first | with_reducible exact Below.refl _ _ | with_reducible refine Below.drew ?_ | with_reducible refine below_drewN ?_ _ | (with_reducible refine bel_alloc ?_ ?_ _; (first | omega | (simp; omega) | simp)) | (with_reducible refine bel_set ?_ ?_ _; (first | omega | (simp; omega) | simp)) | (with_reducible refine bel_tr (by assumption) ?_ ?_; (first | omega | (simp; omega) | simp))))
  obtain ⟨rfl, hE⟩ := HR.out.yes hW hp1 (by rw [hnk]; exact hi) (by rw [hek]; exact hy) (by rw [hek]; exact hbe)
  have hi0 : ¬ (i : Int) < 0 := by omega
  have hw1 := wrap_add1 i (by omega)
  have G4 : Hid (Gat (w.heap.size + 3) w4 (.slice (some ⟨b1, 0, none⟩) 9 c1) 9 S1) := Lib.hid (G3.out.below (by (repeat (first | with_reducible exact Below.refl _ _ | with_reducible refine Below.drew ?_ | with_reducible refine below_drewN ?_ _ | (with_reducible refine bel_alloc ?_ ?_ _; (first | omega | (simp; omega) | simp)) | (with_reducible refine bel_set ?_ ?_ _; (first | omega | (simp; omega) | simp)) | (with_reducible refine bel_tr (by assumption) ?_ ?_; (first | omega | (simp; omega) | simp))))))
  obtain ⟨g2, cap, hv2, hnc, hcm, o2⟩ := row_pos (by omega) (by omega) (G4.out.own _ hK).2 (G4.out.own _ hK).1
  have hgw : g2 < w4.heap.size := row_lt (G4.out.own _ hK).1 g2 (by rw [hv2]; rfl)
  have hg3 : w.heap.size + 3 ≤ g2 := row_ge (G4.out.own _ hK).1 (Nat.le_refl _) g2 (by rw [hv2]; rfl)
  have hv3 : (S1 (p 0 % 9).toNat).A = some ⟨g2, 0, none⟩ := by
    have h := hv2
    injection h
  have hv4 : (S1 (p 0 % 9).toNat).c = cap := by
    have h := hv2
    injection h
  rw [hv3, hv4]
  have O2 := Lib.hid o2
  have HV2 := Lib.hid hv2
  have hne1 : ¬ w1.heap.size = g2 := fun e => by
    have h := row_lt (G1.out.own _ hK).1 g2 (by rw [hv2]; rfl)
    omega
  clear hv2 o2 hy hbe hek c3
  have ht9 : (p 0).tmod 9 = p 0 % 9 := Int.tmod_eq_emod_of_nonneg hp0
  have ht0 : 0 ≤ (p 0).tmod 9 := by omega
  have ht1 : (p 0).tmod 9 < 9 := by omega
  go_upto_region 8 with fail
  go_region_held3 (fun w' => w'.cell? ⟨w1.heap.size, 0, none⟩ = some (.slice (some ⟨b1, 0, none⟩) 9 c1) ∧ w'.cell? ⟨w.heap.size + 1, 0, none⟩ = some (.int .i64 (p 0))) ((first | (go_keep; done) | (go_simp; done))) (
      (go_at_call 26; refine (delPin_any (w.heap.size + 3) g2 0 cap (S1 (p 0 % 9).toNat).n i (S1 (p 0 % 9).toNat).es w4.drew hi (by omega) (by omega) (by omega) O2.out).mono ?_; rintro y w5 ⟨rfl, o5, hb5, hg5⟩; have hg6 : w4.grownBy w5 (S1 (p 0 % 9).toNat).v.ownBlock := (by rw [HV2.out]; exact ⟨hg5.os, hg5.tape, hg5.output, hg5.size, hg5.block⟩); clear hb5; obtain ⟨b2, hb2A, hb2w, hb2B, ⟨u2, hu2⟩, hf2, hown5⟩ := G4.out.put (s := ⟨some ⟨g2, 0, none⟩, (S1 (p 0 % 9).toNat).n - 1, cap, cutL (S1 (p 0 % 9).toNat).es i⟩) hK hg6 o5 ⟨by show (S1 (p 0 % 9).toNat).n - 1 ≤ cap; omega, by show cap ≤ 9223372036854775807; omega⟩ (fun a _ ha => .inl (by rw [HV2.out]; cases ha; rfl)); have hb21 : b2 = b1 := (by cases hb2A; rfl); subst hb21; have hown5 := Lib.hid hown5; have s5 := hg6.size; have hb5 : Below (w.heap.size + 3) w4 w5 := ((Below.refl _ w4).grown hg6 (by (first | omega | (simp; omega) | simp)) (row_ge (G4.out.own _ hK).1 (Nat.le_refl _))); have hgx : ∀ x, x < w4.heap.size → some x ≠ (S1 (p 0 % 9).toNat).v.ownBlock → w5.heap[x]? = w4.heap[x]? := hg6.block; have hnx : ∀ x, x < w.heap.size + 3 → some x ≠ (S1 (p 0 % 9).toNat).v.ownBlock := (fun x hx e => (by have h := row_ge (G4.out.own _ hK).1 (Nat.le_refl _) x e.symm; omega)); have kc5 : ∀ o, w5.cell? ⟨w1.heap.size, o, none⟩ = w4.cell? ⟨w1.heap.size, o, none⟩ := (fun o => World.cell?_of_block (w := w4) (w' := w5) (a := ⟨w1.heap.size, o, none⟩) (hgx w1.heap.size (by (first | omega | (simp; omega) | simp)) (fun e => (by have h := row_lt (G1.out.own _ hK).1 w1.heap.size e.symm; omega)))); have kd5 : ∀ x o, x < w.heap.size + 3 → w5.cell? ⟨x, o, none⟩ = w4.cell? ⟨x, o, none⟩ := (fun x o hx => World.cell?_of_block (w := w4) (w' := w5) (a := ⟨x, o, none⟩) (hgx x (by omega) (hnx x hx))); have kf5 : ∀ x o, x < w.heap.size + 3 → w5.frozen? ⟨x, o, none⟩ = w4.frozen? ⟨x, o, none⟩ := (fun x o hx => World.frozen?_of_block (w := w4) (w' := w5) (a := ⟨x, o, none⟩) (hgx x (by omega) (hnx x hx))); have hb1ne : ¬ w1.heap.size = b2 := (fun e => (by have h := row_lt G1.out.row b2 rfl; omega)); have hb1ne2 : ¬ b2 = w1.heap.size := (fun e => hb1ne e.symm); have x50 : w5.cell? ⟨w1.heap.size, 0, none⟩ = some (.slice (some ⟨b2, 0, none⟩) 9 c1) := (kc5 0).trans (by (first | (go_keep; done) | (go_simp; done))); have x51 : w5.cell? ⟨w.heap.size + 1, 0, none⟩ = some (.int .i64 (p 0)) := (kd5 _ 0 (by omega)).trans (by (first | (go_keep; done) | (go_simp; done))); have x52 : w5.cell? ⟨w.heap.size + 1 + 1, 0, none⟩ = some (.slice none 0 0) := (kd5 _ 0 (by omega)).trans (by (first | (go_keep; done) | (go_simp; done))); have x53 : w5.frozen? ⟨w.heap.size + 1 + 1, 0, none⟩ = false := (kf5 _ 0 (by omega)).trans (by (first | (go_keep; done) | (go_simp; done)))))
  clear kc5 kd5 hg6 o5 hu2 hf2
  go_wp2
  refine bodyPost_ret (v := .tuple #[.agg #[.slice (some ⟨b2, 0, none⟩) 9 c1], .bool true]) (by simp only [results, Try.results8]; first | (go_simp; done) | (go_simp; omega)) rfl ⟨(some ⟨b2, 0, none⟩), c1, (updS S1 (p 0 % 9).toNat ⟨some ⟨g2, 0, none⟩, (S1 (p 0 % 9).toNat).n - 1, cap, cutL (S1 (p 0 % 9).toNat).es i⟩), rfl, (hown5.out.set_ (.inl (by (first | omega | (simp; omega) | simp))) _).wide (by omega) (by simp [World.setCell]) (by simp [World.setCell]), (fun j hj => by (try rw [hE j hj]); unfold updS; by_cases h1 : j = (p 0 % 9).toNat; (rw [if_pos h1, if_pos h1, (M1.out _ hK).2]); (rw [if_neg h1, if_neg h1]; exact (M1.out j hj).2.symm)), G1.out.own1.2, ?_⟩
  (repeat (first | with_reducible exact Below.refl _ _ | with_reducible refine Below.drew ?_ | with_reducible refine below_drewN ?_ _ | (with_reducible refine bel_alloc ?_ ?_ _; (first | omega | (simp; omega) | simp)) | (with_reducible refine bel_set ?_ ?_ _; (first | omega | (simp; omega) | simp)) | (with_reducible refine bel_tr (by assumption) ?_ ?_; (first | omega | (simp; omega) | simp))))
end Go.Proofs.Ytehmanlpgjccoaa
