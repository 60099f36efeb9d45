/-
  The contract of the program's WheelPut. No conditions beyond those stated.
-/
import Derived.Test.YtehmanlpgjccoaaWpr
import Derived.Test.YtehmanlpgjccoaaWi
import Derived.Test.YtehmanlpgjccoaaW3
import Derived.Test.YtehmanlpgjccoaaInq
import Derived.Deep.DeepCutAuto
namespace Go.Proofs.Ytehmanlpgjccoaa
open Go.RowKit

set_option maxRecDepth 100000 in
set_option maxHeartbeats 8000000 in
theorem iWheelPut_any (A : Option Addr) (N c : Nat) (S : Nat → Sp) (p : Nat → Int) (E : Nat → List (Nat → Int)) (b : Bool) (w : World) (hN : N ≤ 4194304) (hT : tot S N ≤ 4194303) (h : RdW w A N S) (hR : PutR N S p E b) :
    Calls Try.prog 6 #[.agg #[.slice A N c], .agg #[.int .i64 (p 0), .int .i64 (p 1)]] w fun y w' => ∃ A' c' S', y = .returned (.tuple #[.agg #[.slice A' N c'], .bool b]) ∧ OwnW w.heap.size w'.heap.size w' A' N S' ∧ (∀ i, i < N → (S' i).es = E i) ∧ (N ≤ c' ∧ c' ≤ 9223372036854775807) ∧ Below w.heap.size w w' := by
  have H := Lib.hid h
  have HR := Lib.hid hR
  have HLen := Lib.hid h.lens
  have hT4 : tot S N ≤ 4194304 := by omega
  clear h hR
  go_enter Try.func6, Try.ntmps6
  go_wp2_with fail
  refine (copyWheel_any A N c S _ hN hT4 (H.out.below (by (repeat (first | with_reducible exact Below.refl _ _ | with_reducible refine Below.drew ?_ | with_reducible refine below_drewN ?_ _ | (with_reducible refine bel_alloc ?_ ?_ _; (first | omega | (simp; omega) | simp)) | (with_reducible refine bel_set ?_ ?_ _; (first | omega | (simp; omega) | simp)) | (with_reducible refine bel_tr (by assumption) ?_ ?_; (first | omega | (simp; omega) | simp))))))).mono ?_
  rintro y w1 ⟨A1, c1, S1, rfl, g1, m1, hb1⟩
  have bc1 := bcell hb1; obtain ⟨hc1, hf1⟩ := bc1; have ks1 := hb1.size; (try simp at ks1); have kc10 : ∀ o, w1.cell? ⟨w.heap.size, o, none⟩ = _ := (fun o => hb1.cell (p := ⟨w.heap.size, o, none⟩) (by (first | omega | (simp; omega) | simp))); have kf10 : ∀ o, w1.frozen? ⟨w.heap.size, o, none⟩ = _ := (fun o => hb1.frozen (p := ⟨w.heap.size, o, none⟩) (by (first | omega | (simp; omega) | simp))); have kc11 : ∀ o, w1.cell? ⟨w.heap.size + 1, o, none⟩ = _ := (fun o => hb1.cell (p := ⟨w.heap.size + 1, o, none⟩) (by (first | omega | (simp; omega) | simp))); have kf11 : ∀ o, w1.frozen? ⟨w.heap.size + 1, o, none⟩ = _ := (fun o => hb1.frozen (p := ⟨w.heap.size + 1, o, none⟩) (by (first | omega | (simp; omega) | simp))); have kc12 : ∀ o, w1.cell? ⟨w.heap.size + 1 + 1, o, none⟩ = _ := (fun o => hb1.cell (p := ⟨w.heap.size + 1 + 1, o, none⟩) (by (first | omega | (simp; omega) | simp))); have kf12 : ∀ o, w1.frozen? ⟨w.heap.size + 1 + 1, o, none⟩ = _ := (fun o => hb1.frozen (p := ⟨w.heap.size + 1 + 1, o, none⟩) (by (first | omega | (simp; omega) | simp))); have kz10 : w.heap.size < w1.heap.size := (by have hh := hb1.size; (try simp at hh); omega); have kz11 : w.heap.size + 1 < w1.heap.size := (by have hh := hb1.size; (try simp at hh); omega); have kz12 : w.heap.size + 1 + 1 < w1.heap.size := (by have hh := hb1.size; (try simp at hh); omega)
  have G1 := Lib.hid g1
  have M1 := Lib.hid m1
  clear g1 m1
  go_wp2_with fail
  by_cases hW : WOK N S
  case neg =>
    obtain ⟨rfl, hE⟩ := HR.out.no (fun h => hW h.1)
    refine (tn (iWheelOk_any A N c S _ hN hT4 (H.out.below (by (repeat (first | with_reducible exact Below.refl _ _ | with_reducible refine Below.drew ?_ | with_reducible refine below_drewN ?_ _ | (with_reducible refine bel_alloc ?_ ?_ _; (first | omega | (simp; omega) | simp)) | (with_reducible refine bel_set ?_ ?_ _; (first | omega | (simp; omega) | simp)) | (with_reducible refine bel_tr (by assumption) ?_ ?_; (first | omega | (simp; omega) | simp))))))) hW).mono ?_
    rintro y w2 ⟨rfl, hb2⟩
    have bc2 := bcell hb2; obtain ⟨hc2, hf2⟩ := bc2; have ks2 := hb2.size; (try simp at ks2); have kc20 : ∀ o, w2.cell? ⟨w.heap.size, o, none⟩ = _ := (fun o => hb2.cell (p := ⟨w.heap.size, o, none⟩) (by (first | omega | (simp; omega) | simp))); have kf20 : ∀ o, w2.frozen? ⟨w.heap.size, o, none⟩ = _ := (fun o => hb2.frozen (p := ⟨w.heap.size, o, none⟩) (by (first | omega | (simp; omega) | simp))); have kc21 : ∀ o, w2.cell? ⟨w.heap.size + 1, o, none⟩ = _ := (fun o => hb2.cell (p := ⟨w.heap.size + 1, o, none⟩) (by (first | omega | (simp; omega) | simp))); have kf21 : ∀ o, w2.frozen? ⟨w.heap.size + 1, o, none⟩ = _ := (fun o => hb2.frozen (p := ⟨w.heap.size + 1, o, none⟩) (by (first | omega | (simp; omega) | simp))); have kc22 : ∀ o, w2.cell? ⟨w.heap.size + 1 + 1, o, none⟩ = _ := (fun o => hb2.cell (p := ⟨w.heap.size + 1 + 1, o, none⟩) (by (first | omega | (simp; omega) | simp))); have kf22 : ∀ o, w2.frozen? ⟨w.heap.size + 1 + 1, o, none⟩ = _ := (fun o => hb2.frozen (p := ⟨w.heap.size + 1 + 1, o, none⟩) (by (first | omega | (simp; omega) | simp))); have kz20 : w.heap.size < w2.heap.size := (by have hh := hb2.size; (try simp at hh); omega); have kz21 : w.heap.size + 1 < w2.heap.size := (by have hh := hb2.size; (try simp at hh); omega); have kz22 : w.heap.size + 1 + 1 < w2.heap.size := (by have hh := hb2.size; (try simp at hh); omega); (try (have jzw12 : w1.heap.size < w2.heap.size := (by have hh := hb2.size; (try simp at hh); omega); have jcw12 : ∀ o, w2.cell? ⟨w1.heap.size, o, none⟩ = _ := (fun o => hb2.cell (p := ⟨w1.heap.size, o, none⟩) (by (first | omega | (simp; omega) | simp))); have jfw12 : ∀ o, w2.frozen? ⟨w1.heap.size, o, none⟩ = _ := (fun o => hb2.frozen (p := ⟨w1.heap.size, o, none⟩) (by (first | omega | (simp; omega) | simp)))))
    go_wp2
    refine bodyPost_ret (v := .tuple #[.agg #[.slice A1 N c1], .bool false]) (by simp only [results, Try.results6]; first | (go_simp; done) | (go_simp; omega)) rfl ⟨A1, c1, S1, rfl, (((G1.out.below (by (repeat (first | with_reducible exact Below.refl _ _ | with_reducible refine Below.drew ?_ | with_reducible refine below_drewN ?_ _ | (with_reducible refine bel_alloc ?_ ?_ _; (first | omega | (simp; omega) | simp)) | (with_reducible refine bel_set ?_ ?_ _; (first | omega | (simp; omega) | simp)) | (with_reducible refine bel_tr (by assumption) ?_ ?_; (first | omega | (simp; omega) | simp)))))).set_ (by (first | omega | (simp; omega) | simp)) _).own1.1).wide (by (first | omega | (simp; omega) | simp)) (Nat.le_refl _) (by simp [World.setCell]), (fun i hi => by rw [hE i hi]; exact ((M1.out i hi).2).symm), G1.out.own1.2, ?_⟩
    (repeat (first | with_reducible exact Below.refl _ _ | with_reducible refine Below.drew ?_ | with_reducible refine below_drewN ?_ _ | (with_reducible refine bel_alloc ?_ ?_ _; (first | omega | (simp; omega) | simp)) | (with_reducible refine bel_set ?_ ?_ _; (first | omega | (simp; omega) | simp)) | (with_reducible refine bel_tr (by assumption) ?_ ?_; (first | omega | (simp; omega) | simp))))
  refine (ty (iWheelOk_any A N c S _ hN hT4 (H.out.below (by (repeat (first | with_reducible exact Below.refl _ _ | with_reducible refine Below.drew ?_ | with_reducible refine below_drewN ?_ _ | (with_reducible refine bel_alloc ?_ ?_ _; (first | omega | (simp; omega) | simp)) | (with_reducible refine bel_set ?_ ?_ _; (first | omega | (simp; omega) | simp)) | (with_reducible refine bel_tr (by assumption) ?_ ?_; (first | omega | (simp; omega) | simp))))))) hW).mono ?_
  rintro y w2 ⟨rfl, hb2⟩
  have bc2 := bcell hb2; obtain ⟨hc2, hf2⟩ := bc2; have ks2 := hb2.size; (try simp at ks2); have kc20 : ∀ o, w2.cell? ⟨w.heap.size, o, none⟩ = _ := (fun o => hb2.cell (p := ⟨w.heap.size, o, none⟩) (by (first | omega | (simp; omega) | simp))); have kf20 : ∀ o, w2.frozen? ⟨w.heap.size, o, none⟩ = _ := (fun o => hb2.frozen (p := ⟨w.heap.size, o, none⟩) (by (first | omega | (simp; omega) | simp))); have kc21 : ∀ o, w2.cell? ⟨w.heap.size + 1, o, none⟩ = _ := (fun o => hb2.cell (p := ⟨w.heap.size + 1, o, none⟩) (by (first | omega | (simp; omega) | simp))); have kf21 : ∀ o, w2.frozen? ⟨w.heap.size + 1, o, none⟩ = _ := (fun o => hb2.frozen (p := ⟨w.heap.size + 1, o, none⟩) (by (first | omega | (simp; omega) | simp))); have kc22 : ∀ o, w2.cell? ⟨w.heap.size + 1 + 1, o, none⟩ = _ := (fun o => hb2.cell (p := ⟨w.heap.size + 1 + 1, o, none⟩) (by (first | omega | (simp; omega) | simp))); have kf22 : ∀ o, w2.frozen? ⟨w.heap.size + 1 + 1, o, none⟩ = _ := (fun o => hb2.frozen (p := ⟨w.heap.size + 1 + 1, o, none⟩) (by (first | omega | (simp; omega) | simp))); have kz20 : w.heap.size < w2.heap.size := (by have hh := hb2.size; (try simp at hh); omega); have kz21 : w.heap.size + 1 < w2.heap.size := (by have hh := hb2.size; (try simp at hh); omega); have kz22 : w.heap.size + 1 + 1 < w2.heap.size := (by have hh := hb2.size; (try simp at hh); omega); (try (have jzw12 : w1.heap.size < w2.heap.size := (by have hh := hb2.size; (try simp at hh); omega); have jcw12 : ∀ o, w2.cell? ⟨w1.heap.size, o, none⟩ = _ := (fun o => hb2.cell (p := ⟨w1.heap.size, o, none⟩) (by (first | omega | (simp; omega) | simp))); have jfw12 : ∀ o, w2.frozen? ⟨w1.heap.size, o, none⟩ = _ := (fun o => hb2.frozen (p := ⟨w1.heap.size, o, none⟩) (by (first | omega | (simp; omega) | simp)))))
  go_wp2_with fail
  have hN9 := hW.1
  subst hN9
  by_cases hP : pinR p
  case neg =>
    obtain ⟨rfl, hE⟩ := HR.out.no (fun ⟨_, _, h3⟩ => ins_bad HLen.out (by omega) hP h3)
    refine (tn (pinOk_any p _) hP).mono ?_
    rintro y w3 ⟨rfl, hb3⟩
    have bc3 := bcell hb3; obtain ⟨hc3, hf3⟩ := bc3; have ks3 := hb3.size; (try simp at ks3); have kc30 : ∀ o, w3.cell? ⟨w.heap.size, o, none⟩ = _ := (fun o => hb3.cell (p := ⟨w.heap.size, o, none⟩) (by (first | omega | (simp; omega) | simp))); have kf30 : ∀ o, w3.frozen? ⟨w.heap.size, o, none⟩ = _ := (fun o => hb3.frozen (p := ⟨w.heap.size, o, none⟩) (by (first | omega | (simp; omega) | simp))); have kc31 : ∀ o, w3.cell? ⟨w.heap.size + 1, o, none⟩ = _ := (fun o => hb3.cell (p := ⟨w.heap.size + 1, o, none⟩) (by (first | omega | (simp; omega) | simp))); have kf31 : ∀ o, w3.frozen? ⟨w.heap.size + 1, o, none⟩ = _ := (fun o => hb3.frozen (p := ⟨w.heap.size + 1, o, none⟩) (by (first | omega | (simp; omega) | simp))); have kc32 : ∀ o, w3.cell? ⟨w.heap.size + 1 + 1, o, none⟩ = _ := (fun o => hb3.cell (p := ⟨w.heap.size + 1 + 1, o, none⟩) (by (first | omega | (simp; omega) | simp))); have kf32 : ∀ o, w3.frozen? ⟨w.heap.size + 1 + 1, o, none⟩ = _ := (fun o => hb3.frozen (p := ⟨w.heap.size + 1 + 1, o, none⟩) (by (first | omega | (simp; omega) | simp))); have kz30 : w.heap.size < w3.heap.size := (by have hh := hb3.size; (try simp at hh); omega); have kz31 : w.heap.size + 1 < w3.heap.size := (by have hh := hb3.size; (try simp at hh); omega); have kz32 : w.heap.size + 1 + 1 < w3.heap.size := (by have hh := hb3.size; (try simp at hh); omega); (try (have jzw13 : w1.heap.size < w3.heap.size := (by have hh := hb3.size; (try simp at hh); omega); have jcw13 : ∀ o, w3.cell? ⟨w1.heap.size, o, none⟩ = _ := (fun o => hb3.cell (p := ⟨w1.heap.size, o, none⟩) (by (first | omega | (simp; omega) | simp))); have jfw13 : ∀ o, w3.frozen? ⟨w1.heap.size, o, none⟩ = _ := (fun o => hb3.frozen (p := ⟨w1.heap.size, o, none⟩) (by (first | omega | (simp; omega) | simp)))))
    go_wp2
    refine bodyPost_ret (v := .tuple #[.agg #[.slice A1 9 c1], .bool false]) (by simp only [results, Try.results6]; first | (go_simp; done) | (go_simp; omega)) rfl ⟨A1, c1, S1, rfl, (((G1.out.below (by (repeat (first | with_reducible exact Below.refl _ _ | with_reducible refine Below.drew ?_ | with_reducible refine below_drewN ?_ _ | (with_reducible refine bel_alloc ?_ ?_ _; (first | omega | (simp; omega) | simp)) | (with_reducible refine bel_set ?_ ?_ _; (first | omega | (simp; omega) | simp)) | (with_reducible refine bel_tr (by assumption) ?_ ?_; (first | omega | (simp; omega) | simp)))))).set_ (by (first | omega | (simp; omega) | simp)) _).own1.1).wide (by (first | omega | (simp; omega) | simp)) (Nat.le_refl _) (by simp [World.setCell]), (fun i hi => by rw [hE i hi]; exact ((M1.out i hi).2).symm), G1.out.own1.2, ?_⟩
    (repeat (first | with_reducible exact Below.refl _ _ | with_reducible refine Below.drew ?_ | with_reducible refine below_drewN ?_ _ | (with_reducible refine bel_alloc ?_ ?_ _; (first | omega | (simp; omega) | simp)) | (with_reducible refine bel_set ?_ ?_ _; (first | omega | (simp; omega) | simp)) | (with_reducible refine bel_tr (by assumption) ?_ ?_; (first | omega | (simp; omega) | simp))))
  refine (ty (pinOk_any p _) hP).mono ?_
  rintro y w3 ⟨rfl, hb3⟩
  have bc3 := bcell hb3; obtain ⟨hc3, hf3⟩ := bc3; have ks3 := hb3.size; (try simp at ks3); have kc30 : ∀ o, w3.cell? ⟨w.heap.size, o, none⟩ = _ := (fun o => hb3.cell (p := ⟨w.heap.size, o, none⟩) (by (first | omega | (simp; omega) | simp))); have kf30 : ∀ o, w3.frozen? ⟨w.heap.size, o, none⟩ = _ := (fun o => hb3.frozen (p := ⟨w.heap.size, o, none⟩) (by (first | omega | (simp; omega) | simp))); have kc31 : ∀ o, w3.cell? ⟨w.heap.size + 1, o, none⟩ = _ := (fun o => hb3.cell (p := ⟨w.heap.size + 1, o, none⟩) (by (first | omega | (simp; omega) | simp))); have kf31 : ∀ o, w3.frozen? ⟨w.heap.size + 1, o, none⟩ = _ := (fun o => hb3.frozen (p := ⟨w.heap.size + 1, o, none⟩) (by (first | omega | (simp; omega) | simp))); have kc32 : ∀ o, w3.cell? ⟨w.heap.size + 1 + 1, o, none⟩ = _ := (fun o => hb3.cell (p := ⟨w.heap.size + 1 + 1, o, none⟩) (by (first | omega | (simp; omega) | simp))); have kf32 : ∀ o, w3.frozen? ⟨w.heap.size + 1 + 1, o, none⟩ = _ := (fun o => hb3.frozen (p := ⟨w.heap.size + 1 + 1, o, none⟩) (by (first | omega | (simp; omega) | simp))); have kz30 : w.heap.size < w3.heap.size := (by have hh := hb3.size; (try simp at hh); omega); have kz31 : w.heap.size + 1 < w3.heap.size := (by have hh := hb3.size; (try simp at hh); omega); have kz32 : w.heap.size + 1 + 1 < w3.heap.size := (by have hh := hb3.size; (try simp at hh); omega); (try (have jzw13 : w1.heap.size < w3.heap.size := (by have hh := hb3.size; (try simp at hh); omega); have jcw13 : ∀ o, w3.cell? ⟨w1.heap.size, o, none⟩ = _ := (fun o => hb3.cell (p := ⟨w1.heap.size, o, none⟩) (by (first | omega | (simp; omega) | simp))); have jfw13 : ∀ o, w3.frozen? ⟨w1.heap.size, o, none⟩ = _ := (fun o => hb3.frozen (p := ⟨w1.heap.size, o, none⟩) (by (first | omega | (simp; omega) | simp)))))
  have hp1 : 1 ≤ p 0 := hP.1.1
  have hp0 : 0 ≤ p 0 := by omega
  have hm0 : 0 ≤ p 0 % 9 := by omega
  have hm9 : p 0 % 9 < 9 := by omega
  have hK : (p 0 % 9).toNat < 9 := by omega
  have hk9 : (((p 0 % 9).toNat : Nat) : Int) = p 0 % 9 := by omega
  have G3 : Hid (Gat (w.heap.size + 3) w3 (.slice A1 9 c1) 9 S1) := Lib.hid (by
    have h := G1.out.below (w' := w3) (by (repeat (first | with_reducible exact Below.refl _ _ | with_reducible refine Below.drew ?_ | with_reducible refine below_drewN ?_ _ | (with_reducible refine bel_alloc ?_ ?_ _; (first | omega | (simp; omega) | simp)) | (with_reducible refine bel_set ?_ ?_ _; (first | omega | (simp; omega) | simp)) | (with_reducible refine bel_tr (by assumption) ?_ ?_; (first | omega | (simp; omega) | simp)))))
    exact h.lower (by (first | omega | (simp; omega) | simp)))
  obtain ⟨b1, off1, hA1⟩ := G3.out.own1.1.rdw.addr (by omega)
  have hoff : off1 = 0 := by
    rcases G3.out.row.2 with ⟨_, h0⟩ | ⟨b2, cap, cur, hv, _⟩
    · omega
    · injection hv with hv _ _
      rw [hA1] at hv
      injection hv with hv
      injection hv
  subst hoff
  subst hA1
  have c3 := G3.out.own1.1.rdw.cell hK
  rw [Nat.zero_add] at c3
  have hb13 := G3.out.own1.1.rdw.lt (by omega)
  have R3 := Lib.hid (G3.out.own1.1.rdw.rd _ hK)
  have htk := tot_one (S := S) hK
  have hnk := (M1.out _ hK).1
  have hek := (M1.out _ hK).2
  have hle := G3.out.own1.1.rdw.cap _ hK
  have x0 : w3.cell? ⟨w.heap.size, 0, none⟩ = some (.slice A 9 c) := by (first | (go_keep; done) | (go_simp; done))
  have x1 : w3.cell? ⟨w.heap.size + 1, 0, none⟩ = some (.int .i64 (p 0)) := by (first | (go_keep; done) | (go_simp; done))
  have x2 : w3.cell? ⟨w.heap.size + 1, 1, none⟩ = some (.int .i64 (p 1)) := by (first | (go_keep; done) | (go_simp; done))
  have x3 : w3.cell? ⟨w.heap.size + 1 + 1, 0, none⟩ = some (.slice none 0 0) := by (first | (go_keep; done) | (go_simp; done))
  have x4 : w3.frozen? ⟨w.heap.size + 1 + 1, 0, none⟩ = false := by (first | (go_keep; done) | (go_simp; done))
  have x5 : w3.cell? ⟨w1.heap.size, 0, none⟩ = some (.slice (some ⟨b1, 0, none⟩) 9 c1) := by (first | (go_keep; done) | (go_simp; done))
  have B3 : Hid (Below w.heap.size w w3) := Lib.hid (by
    show Below w.heap.size w w3
    (repeat (first | with_reducible exact Below.refl _ _ | with_reducible refine Below.drew ?_ | with_reducible refine below_drewN ?_ _ | (with_reducible refine bel_alloc ?_ ?_ _; (first | omega | (simp; omega) | simp)) | (with_reducible refine bel_set ?_ ?_ _; (first | omega | (simp; omega) | simp)) | (with_reducible refine bel_tr (by assumption) ?_ ?_; (first | omega | (simp; omega) | simp)))))
  have HNK := Lib.hid hnk
  have hn3 : (S1 (p 0 % 9).toNat).n ≤ 4194303 := by omega
  obtain ⟨A0, c0, hv2, hnc0, hcm0⟩ := slice_of_row (G3.out.own _ hK).1
  have hvA : (S1 (p 0 % 9).toNat).A = A0 := by injection hv2
  have hvc : (S1 (p 0 % 9).toNat).c = c0 := by injection hv2
  clear hnk hek R3 hb3 kc30 kf30 kc31 kf31 kc32 kf32 hc3 hf3 jcw13 jfw13 hb2 kc20 kf20 kc21 kf21 kc22 kf22 hc2 hf2 jcw12 jfw12 hb1 kc10 kf10 kc11 kf11 kc12 kf12 hc1 hf1
  go_upto_region 5 with fail
  obtain ⟨nk, hnk⟩ : ∃ nk, nk = (S1 (p 0 % 9).toNat).n := ⟨_, rfl⟩
  obtain ⟨ek, hek⟩ : ∃ ek, ek = (S1 (p 0 % 9).toNat).es := ⟨_, rfl⟩
  have hnk4 : nk ≤ 4194303 := by omega
  have O3 : Hid (w3.ownsRow (w.heap.size + 3) 28 2 (.slice A0 nk c0) nk (flat 2 ek)) := Lib.hid (by
    rw [hnk, hek, ← hv2]
    exact (G3.out.own _ hK).1)
  have HL : Hid (ek.length = nk) := Lib.hid (by rw [hnk, hek]; exact (G3.out.own _ hK).2)
  have HVV : Hid ((S1 (p 0 % 9).toNat).v = .slice A0 nk c0) := Lib.hid (by rw [hnk]; exact hv2)
  (try rw [hvA])
  (try rw [hvc])
  rw [← hnk]
  have HN := Lib.hid hnk
  have HE := Lib.hid hek
  rw [← hnk] at hnc0
  clear hnk hek hvA hvc hv2 hle hn3
  rcases Nat.eq_zero_or_pos nk with hz | hz
  · subst hz
    have hdz : decide (0 < 0) = false := by simp
    go_wp2
    go_loopw [8] (fun i wr => i = .int .i64 0 ∧ Below w3.heap.size w3 wr) (fun _ _ => 0)
    case atStart => exact ⟨rfl, Below.refl _ _⟩
    case round =>
      obtain ⟨rfl, hbel⟩ := hrel
      have hsz := hbel.size
      go_wp2
      refine wp_region_bw (by kernel_rfl) (by kernel_rfl) (fun W hW => ?_)
      have hbW : Below wr.heap.size wr W := by rw [hW]; (repeat (first | with_reducible exact Below.refl _ _ | with_reducible refine Below.drew ?_ | with_reducible refine below_drewN ?_ _ | (with_reducible refine bel_alloc ?_ ?_ _; (first | omega | (simp; omega) | simp)) | (with_reducible refine bel_set ?_ ?_ _; (first | omega | (simp; omega) | simp)) | (with_reducible refine bel_tr (by assumption) ?_ ?_; (first | omega | (simp; omega) | simp))))
      have HW := Lib.hid hW
      clear hW
      repeat (go_big_quiet_step (fail))
      refine wpQuiet_nil ?_
      intro wq hq
      have hbq : Below W.heap.size W wq := by (obtain ⟨p, hp⟩ := hq; rw [hp]; exact p.below)
      clear hq
      have hbel4 : Below wr.heap.size wr wq := hbW.trans (hbq.mono hbW.size)
      have sq := hbel4.size
      clear hbW hbq HW 
      have bq3 : Below w3.heap.size w3 wq := hbel.trans (hbel4.mono hsz)
      clear hbel4
      have y0 : wq.cell? ⟨w.heap.size, 0, none⟩ = some (.slice A 9 c) := (bq3.cell (p := ⟨w.heap.size, 0, none⟩) (by (first | omega | (simp; omega) | simp))).trans x0
      have y1 : wq.cell? ⟨w.heap.size + 1, 0, none⟩ = some (.int .i64 (p 0)) := (bq3.cell (p := ⟨w.heap.size + 1, 0, none⟩) (by (first | omega | (simp; omega) | simp))).trans x1
      have y2 : wq.cell? ⟨w.heap.size + 1, 1, none⟩ = some (.int .i64 (p 1)) := (bq3.cell (p := ⟨w.heap.size + 1, 1, none⟩) (by (first | omega | (simp; omega) | simp))).trans x2
      have y3 : wq.cell? ⟨w.heap.size + 1 + 1, 0, none⟩ = some (.slice none 0 0) := (bq3.cell (p := ⟨w.heap.size + 1 + 1, 0, none⟩) (by (first | omega | (simp; omega) | simp))).trans x3
      have y4 : wq.frozen? ⟨w.heap.size + 1 + 1, 0, none⟩ = false := (bq3.frozen (p := ⟨w.heap.size + 1 + 1, 0, none⟩) (by (first | omega | (simp; omega) | simp))).trans x4
      have y5 : wq.cell? ⟨w1.heap.size, 0, none⟩ = some (.slice (some ⟨b1, 0, none⟩) 9 c1) := (bq3.cell (p := ⟨w1.heap.size, 0, none⟩) (by (first | omega | (simp; omega) | simp))).trans x5
      clear x0 x1 x2 x3 x4 x5
      have hk : 0 ≤ 0 := Nat.le_refl _
      have HP : Hid (0 = plcP ek p 0) := Lib.hid (by have := plcP_le (es := ek) (p := p) (n := 0); omega)
      have G5 : Hid (Gat (w.heap.size + 3) wq (.slice (some ⟨b1, 0, none⟩) 9 c1) 9 S1) := Lib.hid (G3.out.below bq3)
      have sq3 := bq3.size
      have hb15 : b1 < wq.heap.size := G5.out.own1.1.rdw.lt (by omega)
      have hb1w : b1 < w1.heap.size := row_lt G1.out.row b1 rfl
      have hb13' : w.heap.size + 3 ≤ b1 := row_ge G5.out.row (Nat.le_refl _) b1 rfl
      have hn1 : ¬ w1.heap.size = b1 := by omega
      have hn4 : ¬ b1 = w1.heap.size := by omega
      have hn5 : ¬ b1 = w.heap.size := by omega
      have hn7 : ¬ b1 = w.heap.size + 1 + 1 := by omega
      have hn9 : ¬ b1 = w.heap.size + 1 := by omega
      have c5 := G5.out.own1.1.rdw.cell hK
      rw [Nat.zero_add] at c5
      have hoB := row_lt (G5.out.own _ hK).1
      have HOK := Lib.hid (G5.out.own _ hK)
      have HOE : Hid (wq.ownsRow (w.heap.size + 3) 28 2 (.slice A0 0 c0) 0 (flat 2 ek)) := Lib.hid (row_below O3.out bq3)
      have hnx : ∀ x, x < w.heap.size + 3 → some x ≠ (S1 (p 0 % 9).toNat).v.ownBlock := fun x hx e => by have h := row_ge HOK.out.1 (Nat.le_refl _) x e.symm; omega
      have hnw1 : some w1.heap.size ≠ (S1 (p 0 % 9).toNat).v.ownBlock := fun e => by have h := row_lt (G1.out.own _ hK).1 w1.heap.size e.symm; omega
      have hal : ∀ ob, (wq.alloc ob).heap[wq.heap.size]? = some ob := fun ob => heap_alloc_new wq ob
      have ht9 : (p 0).tmod 9 = p 0 % 9 := Int.tmod_eq_emod_of_nonneg hp0
      have hnk3 : 0 ≤ 4194303 := hnk4
      go_upto_region 8 with fail
      go_region_held3 (fun w' => w'.cell? ⟨w1.heap.size, 0, none⟩ = some (.slice (some ⟨b1, 0, none⟩) 9 c1) ∧ w'.cell? ⟨w.heap.size + 1, 0, none⟩ = some (.int .i64 (p 0)) ∧ w'.cell? ⟨w.heap.size + 1, 1, none⟩ = some (.int .i64 (p 1))) ((first | (go_keep; done) | (go_simp; done))) (
          (go_at_call 21; refine (insPin_any (w.heap.size + 3) 0 0 wq.heap.size 1 (.slice A0 0 c0) ek p ((wq.alloc (.cells #[.int .i64 (p 0), .int .i64 (p 1)] 28)).drew) hnk3 hk HL.out (World.ownsRow.drew (World.ownsRow.alloc HOE.out _)) (by (first | omega | (simp; omega) | simp)) (hal (.cells #[.int .i64 (p 0), .int .i64 (p 1)] 28)) (fun x hx => (by have h := row_lt HOE.out x hx; omega))).mono ?_; rintro y w5 ⟨A4, c4, rfl, hc41, hc42, o5, _, hg5, hloc⟩; have hg6 : wq.grownBy w5 (S1 (p 0 % 9).toNat).v.ownBlock := (by rw [HVV.out]; have h := World.grownBy.trans (World.grownBy_alloc wq _ _) (show (wq.alloc (.cells #[.int .i64 (p 0), .int .i64 (p 1)] 28)).grownBy w5 _ from ⟨hg5.os, hg5.tape, hg5.output, hg5.size, hg5.block⟩); exact h); have s5 := hg6.size; obtain ⟨b3, hb3A, _, _, ⟨u2, hu2⟩, hf2, hown5⟩ := G5.out.put (s := ⟨A4, 0 + 1, c4, insL ek 0 p⟩) hK hg6 o5 ⟨hc41, hc42⟩ (fun a _ ha => (hloc a ha).imp (fun h => (by rw [HVV.out]; exact h)) (fun h => Nat.le_of_lt (Nat.lt_of_lt_of_le (by simp) h))); obtain rfl : b1 = b3 := (by cases hb3A; rfl); have hown5 := Lib.hid hown5; have b5 : Below (w.heap.size + 3) wq w5 := ((Below.refl _ wq).grown hg6 (by (first | omega | (simp; omega) | simp)) (row_ge HOK.out.1 (Nat.le_refl _))); have hgx := hg6.block; have x50 : w5.cell? ⟨w1.heap.size, 0, none⟩ = some (.slice (some ⟨b1, 0, none⟩) 9 c1) := (World.cell?_of_block (w := wq) (w' := w5) (a := ⟨w1.heap.size, 0, none⟩) (hgx w1.heap.size (by (first | omega | (simp; omega) | simp)) hnw1)).trans y5; have x51 := (b5.cell (p := ⟨w.heap.size + 1, 0, none⟩) (by (first | omega | (simp; omega) | simp))).trans y1; have x52 := (b5.cell (p := ⟨w.heap.size + 1, 1, none⟩) (by (first | omega | (simp; omega) | simp))).trans y2; have x53 := (b5.cell (p := ⟨w.heap.size, 0, none⟩) (by (first | omega | (simp; omega) | simp))).trans y0; have x54 := (b5.cell (p := ⟨w.heap.size + 1 + 1, 0, none⟩) (by (first | omega | (simp; omega) | simp))).trans y3; have x5f := (b5.frozen (p := ⟨w.heap.size + 1 + 1, 0, none⟩) (by (first | omega | (simp; omega) | simp))).trans y4; clear o5 hg5 hgx hloc hg6))
      have x55 : (w5.setCell ⟨b1, (p 0 % 9).toNat, none⟩ (.slice A4 (0 + 1) c4)).cell? ⟨w.heap.size, 0, none⟩ = _ := (World.cell?_setCell_far w5 ⟨b1, (p 0 % 9).toNat, none⟩ ⟨w.heap.size, 0, none⟩ _ hn5).trans x53
      have x56 : (w5.setCell ⟨b1, (p 0 % 9).toNat, none⟩ (.slice A4 (0 + 1) c4)).cell? ⟨w.heap.size + 1 + 1, 0, none⟩ = _ := (World.cell?_setCell_far w5 ⟨b1, (p 0 % 9).toNat, none⟩ ⟨w.heap.size + 1 + 1, 0, none⟩ _ hn7).trans x54
      have x57 : (w5.setCell ⟨b1, (p 0 % 9).toNat, none⟩ (.slice A4 (0 + 1) c4)).frozen? ⟨w.heap.size + 1 + 1, 0, none⟩ = _ := (World.frozen?_setCell _ _ _ _).trans x5f
      have x58 : (w5.setCell ⟨b1, (p 0 % 9).toNat, none⟩ (.slice A4 (0 + 1) c4)).cell? ⟨w1.heap.size, 0, none⟩ = _ := (World.cell?_setCell_far w5 ⟨b1, (p 0 % 9).toNat, none⟩ ⟨w1.heap.size, 0, none⟩ _ hn4).trans x50
      have bw5 : Below w.heap.size w w5 := B3.out.trans ((bq3.mono (by (first | omega | (simp; omega) | simp))).trans (b5.mono (by omega)))
      clear b5 bq3 hbel
      rw [HP.out] at hown5
      have T5 : tot (updS S1 (p 0 % 9).toNat ⟨A4, 0 + 1, c4, insL ek (plcP ek p 0) p⟩) 9 ≤ 4194304 := by
        have SN0 : Sam 9 (updS S1 (p 0 % 9).toNat ⟨A4, 0 + 1, c4, insL ek (plcP ek p 0) p⟩) (insW S p) := by have h := upd_sam (A := A4) (c := c4) (n := (S1 (p 0 % 9).toNat).n + 1) M1.out hK rfl; rw [← HN.out, ← HE.out] at h; exact h
        rw [SN0.tot (Nat.le_refl _), insW_tot]
        split <;> omega
      have SN : Hid (Sam 9 (updS S1 (p 0 % 9).toNat ⟨A4, 0 + 1, c4, insL ek (plcP ek p 0) p⟩) (insW S p)) := Lib.hid (by have h := upd_sam (A := A4) (c := c4) (n := (S1 (p 0 % 9).toNat).n + 1) M1.out hK rfl; rw [← HN.out, ← HE.out] at h; exact h)
      go_wp2_with fail
      by_cases hW2 : WOK 9 (insW S p)
      case neg =>
        obtain ⟨rfl, hE⟩ := HR.out.no (fun h => hW2 h.2.2)
        refine (tn (iWheelOk_any _ 9 c1 (updS S1 (p 0 % 9).toNat ⟨A4, 0 + 1, c4, insL ek (plcP ek p 0) p⟩) _ (by omega) T5 hown5.out.rdw) (fun h => hW2 (h.sam SN.out))).mono ?_
        rintro y w6 ⟨rfl, hb6⟩
        have s6 := hb6.size
        (try simp [World.setCell] at s6)
        have x60 := (hb6.cell (p := ⟨w.heap.size, 0, none⟩) (by (first | omega | (simp; omega) | simp))).trans x55
        have x63 := (hb6.cell (p := ⟨w.heap.size + 1 + 1, 0, none⟩) (by (first | omega | (simp; omega) | simp))).trans x56
        have x64 := (hb6.frozen (p := ⟨w.heap.size + 1 + 1, 0, none⟩) (by (first | omega | (simp; omega) | simp))).trans x57
        go_wp2_with fail
        refine (copyWheel_any _ 9 c S _ hN hT4 (H.out.below (by (repeat (first | with_reducible exact Below.refl _ _ | with_reducible refine Below.drew ?_ | with_reducible refine below_drewN ?_ _ | (with_reducible refine bel_alloc ?_ ?_ _; (first | omega | (simp; omega) | simp)) | (with_reducible refine bel_set ?_ ?_ _; (first | omega | (simp; omega) | simp)) | (with_reducible refine bel_tr (by assumption) ?_ ?_; (first | omega | (simp; omega) | simp))))))).mono ?_
        rintro y w7 ⟨A7, c7, S7, rfl, g7, m7, hb7⟩
        have s7 := hb7.size
        have x73 := (hb7.cell (p := ⟨w.heap.size + 1 + 1, 0, none⟩) (by (first | omega | (simp; omega) | simp))).trans x63
        have x74 := (hb7.frozen (p := ⟨w.heap.size + 1 + 1, 0, none⟩) (by (first | omega | (simp; omega) | simp))).trans x64
        have G7 := Lib.hid g7
        have M7 := Lib.hid m7
        clear g7 m7
        go_wp2
        refine bodyPost_ret (v := .tuple #[.agg #[.slice A7 9 c7], .bool false]) (by simp only [results, Try.results6]; first | (go_simp; done) | (go_simp; omega)) rfl ?_
        have hfin : OwnW w.heap.size (w7.setCell ⟨w.heap.size + 1 + 1, 0, none⟩ (.slice A7 9 c7)).heap.size (w7.setCell ⟨w.heap.size + 1 + 1, 0, none⟩ (.slice A7 9 c7)) A7 9 S7 := ((G7.out.set_ (by (first | omega | (simp; omega) | simp)) _).own1.1).wide (by (first | omega | (simp; omega) | simp)) (Nat.le_refl _) (by simp [World.setCell])
        have hes : ∀ i, i < 9 → (S7 i).es = E i := fun i hi => by rw [hE i hi]; exact ((M7.out i hi).2).symm
        have hbl : Below w.heap.size w (w7.setCell ⟨w.heap.size + 1 + 1, 0, none⟩ (.slice A7 9 c7)) := by (repeat (first | with_reducible exact Below.refl _ _ | with_reducible refine Below.drew ?_ | with_reducible refine below_drewN ?_ _ | (with_reducible refine bel_alloc ?_ ?_ _; (first | omega | (simp; omega) | simp)) | (with_reducible refine bel_set ?_ ?_ _; (first | omega | (simp; omega) | simp)) | (with_reducible refine bel_tr (by assumption) ?_ ?_; (first | omega | (simp; omega) | simp))))
        exact ⟨A7, c7, S7, rfl, hfin, hes, G7.out.own1.2, hbl⟩
      obtain ⟨rfl, hE⟩ := HR.out.yes hW hp1 hW2
      refine (ty (iWheelOk_any _ 9 c1 (updS S1 (p 0 % 9).toNat ⟨A4, 0 + 1, c4, insL ek (plcP ek p 0) p⟩) _ (by omega) T5 hown5.out.rdw) (hW2.sam SN.out.symm)).mono ?_
      rintro y w6 ⟨rfl, hb6⟩
      have s6 := hb6.size
      (try simp [World.setCell] at s6)
      have x60 := (hb6.cell (p := ⟨w1.heap.size, 0, none⟩) (by (first | omega | (simp; omega) | simp))).trans x58
      have x63 := (hb6.cell (p := ⟨w.heap.size + 1 + 1, 0, none⟩) (by (first | omega | (simp; omega) | simp))).trans x56
      have x64 := (hb6.frozen (p := ⟨w.heap.size + 1 + 1, 0, none⟩) (by (first | omega | (simp; omega) | simp))).trans x57
      go_wp2
      refine bodyPost_ret (v := .tuple #[.agg #[.slice (some ⟨b1, 0, none⟩) 9 c1], .bool true]) (by simp only [results, Try.results6]; first | (go_simp; done) | (go_simp; omega)) rfl ?_
      have hfin : OwnW w.heap.size (w6.setCell ⟨w.heap.size + 1 + 1, 0, none⟩ (.slice (some ⟨b1, 0, none⟩) 9 c1)).heap.size (w6.setCell ⟨w.heap.size + 1 + 1, 0, none⟩ (.slice (some ⟨b1, 0, none⟩) 9 c1)) (some ⟨b1, 0, none⟩) 9 (updS S1 (p 0 % 9).toNat ⟨A4, 0 + 1, c4, insL ek (plcP ek p 0) p⟩) := (((hown5.out.below hb6).set_ (.inl (by (first | omega | (simp; omega) | simp))) _)).wide (by omega) (by have := hb6.size; (first | omega | (simp; omega) | simp)) (Nat.le_refl _)
      have hes : ∀ i, i < 9 → ((updS S1 (p 0 % 9).toNat ⟨A4, 0 + 1, c4, insL ek (plcP ek p 0) p⟩) i).es = E i := fun i hi => by rw [hE i hi]; exact (SN.out i hi).2
      have hbl : Below w.heap.size w (w6.setCell ⟨w.heap.size + 1 + 1, 0, none⟩ (.slice (some ⟨b1, 0, none⟩) 9 c1)) := by (repeat (first | with_reducible exact Below.refl _ _ | with_reducible refine Below.drew ?_ | with_reducible refine below_drewN ?_ _ | (with_reducible refine bel_alloc ?_ ?_ _; (first | omega | (simp; omega) | simp)) | (with_reducible refine bel_set ?_ ?_ _; (first | omega | (simp; omega) | simp)) | (with_reducible refine bel_tr (by assumption) ?_ ?_; (first | omega | (simp; omega) | simp))))
      exact ⟨some ⟨b1, 0, none⟩, c1, (updS S1 (p 0 % 9).toNat ⟨A4, 0 + 1, c4, insL ek (plcP ek p 0) p⟩), rfl, hfin, hes, G1.out.own1.2, hbl⟩
  · obtain ⟨g2, cap, hv2, hnc, hcm, o2⟩ := row_pos hz (by omega) HL.out O3.out
    injection hv2 with e1 _ e2
    subst e1 e2
    have O2 := Lib.hid o2.rd
    clear o2
    go_wp2
    go_loopw [8] (fun i wr => ∃ k : Nat, k ≤ nk ∧ i = .int .i64 k ∧ Hid (∀ i, i < k → ltP (fld ek i) p) ∧ Below w3.heap.size w3 wr) (fun i _ => nk - (intOf i).toNat)
    case atStart => exact ⟨0, Nat.zero_le _, rfl, Lib.hid (fun i hi => absurd hi (by omega)), Below.refl _ _⟩
    case round =>
      obtain ⟨k, hk, rfl, HQ, hbel⟩ := hrel
      have hsz := hbel.size
      have v0 : wr.cell? ⟨w.heap.size, 0, none⟩ = some (.slice A 9 c) := (hbel.cell (p := ⟨w.heap.size, 0, none⟩) (by (first | omega | (simp; omega) | simp))).trans x0
      have v1 : wr.cell? ⟨w.heap.size + 1, 0, none⟩ = some (.int .i64 (p 0)) := (hbel.cell (p := ⟨w.heap.size + 1, 0, none⟩) (by (first | omega | (simp; omega) | simp))).trans x1
      have v2 : wr.cell? ⟨w.heap.size + 1, 1, none⟩ = some (.int .i64 (p 1)) := (hbel.cell (p := ⟨w.heap.size + 1, 1, none⟩) (by (first | omega | (simp; omega) | simp))).trans x2
      have v3 : wr.cell? ⟨w.heap.size + 1 + 1, 0, none⟩ = some (.slice none 0 0) := (hbel.cell (p := ⟨w.heap.size + 1 + 1, 0, none⟩) (by (first | omega | (simp; omega) | simp))).trans x3
      have v4 : wr.frozen? ⟨w.heap.size + 1 + 1, 0, none⟩ = false := (hbel.frozen (p := ⟨w.heap.size + 1 + 1, 0, none⟩) (by (first | omega | (simp; omega) | simp))).trans x4
      have v5 : wr.cell? ⟨w1.heap.size, 0, none⟩ = some (.slice (some ⟨b1, 0, none⟩) 9 c1) := (hbel.cell (p := ⟨w1.heap.size, 0, none⟩) (by (first | omega | (simp; omega) | simp))).trans x5
      have hki : (k : Int) ≤ (nk : Int) := by omega
      have hk0 : (0 : Int) ≤ (k : Int) := by omega
      by_cases hlt : k < nk
      case neg =>
        have hkn : k = nk := by omega
        have HP : Hid (k = plcP ek p nk) := plcP_of (by omega) HQ.out (.inl hkn)
        have hd : decide (k < nk) = false := by simpa using hlt
        have hlti : ¬ (k : Int) < (nk : Int) := by omega
        have HLT := Lib.hid hlt
        clear hlt hkn
        go_wp2
        refine wp_region_bw (by kernel_rfl) (by kernel_rfl) (fun W hW => ?_)
        have q0 : ∀ pq : BW W, pq.w.cell? ⟨w.heap.size + 1, 0, none⟩ = some (.int .i64 (p 0)) := fun pq => pq.cell (by rw [hW]; (first | omega | (simp; omega) | simp)) (by rw [hW]; (first | (go_keep; done) | (go_simp; done)))
        have q1 : ∀ pq : BW W, pq.w.cell? ⟨w.heap.size + 1, 1, none⟩ = some (.int .i64 (p 1)) := fun pq => pq.cell (by rw [hW]; (first | omega | (simp; omega) | simp)) (by rw [hW]; (first | (go_keep; done) | (go_simp; done)))
        have hbW : Below wr.heap.size wr W := by rw [hW]; (repeat (first | with_reducible exact Below.refl _ _ | with_reducible refine Below.drew ?_ | with_reducible refine below_drewN ?_ _ | (with_reducible refine bel_alloc ?_ ?_ _; (first | omega | (simp; omega) | simp)) | (with_reducible refine bel_set ?_ ?_ _; (first | omega | (simp; omega) | simp)) | (with_reducible refine bel_tr (by assumption) ?_ ?_; (first | omega | (simp; omega) | simp))))
        have HW := Lib.hid hW
        clear hW
        repeat (go_big_quiet_step (fail))
        refine wpQuiet_nil ?_
        intro wq hq
        have hbq : Below W.heap.size W wq := by (obtain ⟨p, hp⟩ := hq; rw [hp]; exact p.below)
        clear hq
        have hbel4 : Below wr.heap.size wr wq := hbW.trans (hbq.mono hbW.size)
        have sq := hbel4.size
        clear hbW hbq HW q0 q1
        have bq3 : Below w3.heap.size w3 wq := hbel.trans (hbel4.mono hsz)
        clear hbel4 v0 v1 v2 v3 v4 v5
        have y0 : wq.cell? ⟨w.heap.size, 0, none⟩ = some (.slice A 9 c) := (bq3.cell (p := ⟨w.heap.size, 0, none⟩) (by (first | omega | (simp; omega) | simp))).trans x0
        have y1 : wq.cell? ⟨w.heap.size + 1, 0, none⟩ = some (.int .i64 (p 0)) := (bq3.cell (p := ⟨w.heap.size + 1, 0, none⟩) (by (first | omega | (simp; omega) | simp))).trans x1
        have y2 : wq.cell? ⟨w.heap.size + 1, 1, none⟩ = some (.int .i64 (p 1)) := (bq3.cell (p := ⟨w.heap.size + 1, 1, none⟩) (by (first | omega | (simp; omega) | simp))).trans x2
        have y3 : wq.cell? ⟨w.heap.size + 1 + 1, 0, none⟩ = some (.slice none 0 0) := (bq3.cell (p := ⟨w.heap.size + 1 + 1, 0, none⟩) (by (first | omega | (simp; omega) | simp))).trans x3
        have y4 : wq.frozen? ⟨w.heap.size + 1 + 1, 0, none⟩ = false := (bq3.frozen (p := ⟨w.heap.size + 1 + 1, 0, none⟩) (by (first | omega | (simp; omega) | simp))).trans x4
        have y5 : wq.cell? ⟨w1.heap.size, 0, none⟩ = some (.slice (some ⟨b1, 0, none⟩) 9 c1) := (bq3.cell (p := ⟨w1.heap.size, 0, none⟩) (by (first | omega | (simp; omega) | simp))).trans x5
        clear x0 x1 x2 x3 x4 x5
        have G5 : Hid (Gat (w.heap.size + 3) wq (.slice (some ⟨b1, 0, none⟩) 9 c1) 9 S1) := Lib.hid (G3.out.below bq3)
        have sq3 := bq3.size
        have hb15 : b1 < wq.heap.size := G5.out.own1.1.rdw.lt (by omega)
        have hb1w : b1 < w1.heap.size := row_lt G1.out.row b1 rfl
        have hb13' : w.heap.size + 3 ≤ b1 := row_ge G5.out.row (Nat.le_refl _) b1 rfl
        have hn1 : ¬ w1.heap.size = b1 := by omega
        have hn4 : ¬ b1 = w1.heap.size := by omega
        have hn5 : ¬ b1 = w.heap.size := by omega
        have hn7 : ¬ b1 = w.heap.size + 1 + 1 := by omega
        have hn9 : ¬ b1 = w.heap.size + 1 := by omega
        have c5 := G5.out.own1.1.rdw.cell hK
        rw [Nat.zero_add] at c5
        have hoB := row_lt (G5.out.own _ hK).1
        have HOK := Lib.hid (G5.out.own _ hK)
        have HOE : Hid (wq.ownsRow (w.heap.size + 3) 28 2 (.slice (some ⟨g2, 0, none⟩) nk c0) nk (flat 2 ek)) := Lib.hid (row_below O3.out bq3)
        have hnx : ∀ x, x < w.heap.size + 3 → some x ≠ (S1 (p 0 % 9).toNat).v.ownBlock := fun x hx e => by have h := row_ge HOK.out.1 (Nat.le_refl _) x e.symm; omega
        have hnw1 : some w1.heap.size ≠ (S1 (p 0 % 9).toNat).v.ownBlock := fun e => by have h := row_lt (G1.out.own _ hK).1 w1.heap.size e.symm; omega
        have hal : ∀ ob, (wq.alloc ob).heap[wq.heap.size]? = some ob := fun ob => heap_alloc_new wq ob
        have ht9 : (p 0).tmod 9 = p 0 % 9 := Int.tmod_eq_emod_of_nonneg hp0
        have hnk3 : nk ≤ 4194303 := hnk4
        go_upto_region 8 with fail
        go_region_held3 (fun w' => w'.cell? ⟨w1.heap.size, 0, none⟩ = some (.slice (some ⟨b1, 0, none⟩) 9 c1) ∧ w'.cell? ⟨w.heap.size + 1, 0, none⟩ = some (.int .i64 (p 0)) ∧ w'.cell? ⟨w.heap.size + 1, 1, none⟩ = some (.int .i64 (p 1))) ((first | (go_keep; done) | (go_simp; done))) (
            (go_at_call 21; refine (insPin_any (w.heap.size + 3) nk k wq.heap.size 1 (.slice (some ⟨g2, 0, none⟩) nk c0) ek p ((wq.alloc (.cells #[.int .i64 (p 0), .int .i64 (p 1)] 28)).drew) hnk3 hk HL.out (World.ownsRow.drew (World.ownsRow.alloc HOE.out _)) (by (first | omega | (simp; omega) | simp)) (hal (.cells #[.int .i64 (p 0), .int .i64 (p 1)] 28)) (fun x hx => (by have h := row_lt HOE.out x hx; omega))).mono ?_; rintro y w5 ⟨A4, c4, rfl, hc41, hc42, o5, _, hg5, hloc⟩; have hg6 : wq.grownBy w5 (S1 (p 0 % 9).toNat).v.ownBlock := (by rw [HVV.out]; have h := World.grownBy.trans (World.grownBy_alloc wq _ _) (show (wq.alloc (.cells #[.int .i64 (p 0), .int .i64 (p 1)] 28)).grownBy w5 _ from ⟨hg5.os, hg5.tape, hg5.output, hg5.size, hg5.block⟩); exact h); have s5 := hg6.size; obtain ⟨b3, hb3A, _, _, ⟨u2, hu2⟩, hf2, hown5⟩ := G5.out.put (s := ⟨A4, nk + 1, c4, insL ek k p⟩) hK hg6 o5 ⟨hc41, hc42⟩ (fun a _ ha => (hloc a ha).imp (fun h => (by rw [HVV.out]; exact h)) (fun h => Nat.le_of_lt (Nat.lt_of_lt_of_le (by simp) h))); obtain rfl : b1 = b3 := (by cases hb3A; rfl); have hown5 := Lib.hid hown5; have b5 : Below (w.heap.size + 3) wq w5 := ((Below.refl _ wq).grown hg6 (by (first | omega | (simp; omega) | simp)) (row_ge HOK.out.1 (Nat.le_refl _))); have hgx := hg6.block; have x50 : w5.cell? ⟨w1.heap.size, 0, none⟩ = some (.slice (some ⟨b1, 0, none⟩) 9 c1) := (World.cell?_of_block (w := wq) (w' := w5) (a := ⟨w1.heap.size, 0, none⟩) (hgx w1.heap.size (by (first | omega | (simp; omega) | simp)) hnw1)).trans y5; have x51 := (b5.cell (p := ⟨w.heap.size + 1, 0, none⟩) (by (first | omega | (simp; omega) | simp))).trans y1; have x52 := (b5.cell (p := ⟨w.heap.size + 1, 1, none⟩) (by (first | omega | (simp; omega) | simp))).trans y2; have x53 := (b5.cell (p := ⟨w.heap.size, 0, none⟩) (by (first | omega | (simp; omega) | simp))).trans y0; have x54 := (b5.cell (p := ⟨w.heap.size + 1 + 1, 0, none⟩) (by (first | omega | (simp; omega) | simp))).trans y3; have x5f := (b5.frozen (p := ⟨w.heap.size + 1 + 1, 0, none⟩) (by (first | omega | (simp; omega) | simp))).trans y4; clear o5 hg5 hgx hloc hg6))
        have x55 : (w5.setCell ⟨b1, (p 0 % 9).toNat, none⟩ (.slice A4 (nk + 1) c4)).cell? ⟨w.heap.size, 0, none⟩ = _ := (World.cell?_setCell_far w5 ⟨b1, (p 0 % 9).toNat, none⟩ ⟨w.heap.size, 0, none⟩ _ hn5).trans x53
        have x56 : (w5.setCell ⟨b1, (p 0 % 9).toNat, none⟩ (.slice A4 (nk + 1) c4)).cell? ⟨w.heap.size + 1 + 1, 0, none⟩ = _ := (World.cell?_setCell_far w5 ⟨b1, (p 0 % 9).toNat, none⟩ ⟨w.heap.size + 1 + 1, 0, none⟩ _ hn7).trans x54
        have x57 : (w5.setCell ⟨b1, (p 0 % 9).toNat, none⟩ (.slice A4 (nk + 1) c4)).frozen? ⟨w.heap.size + 1 + 1, 0, none⟩ = _ := (World.frozen?_setCell _ _ _ _).trans x5f
        have x58 : (w5.setCell ⟨b1, (p 0 % 9).toNat, none⟩ (.slice A4 (nk + 1) c4)).cell? ⟨w1.heap.size, 0, none⟩ = _ := (World.cell?_setCell_far w5 ⟨b1, (p 0 % 9).toNat, none⟩ ⟨w1.heap.size, 0, none⟩ _ hn4).trans x50
        have bw5 : Below w.heap.size w w5 := B3.out.trans ((bq3.mono (by (first | omega | (simp; omega) | simp))).trans (b5.mono (by omega)))
        clear b5 bq3 hbel
        rw [HP.out] at hown5
        have T5 : tot (updS S1 (p 0 % 9).toNat ⟨A4, nk + 1, c4, insL ek (plcP ek p nk) p⟩) 9 ≤ 4194304 := by
          have SN0 : Sam 9 (updS S1 (p 0 % 9).toNat ⟨A4, nk + 1, c4, insL ek (plcP ek p nk) p⟩) (insW S p) := by have h := upd_sam (A := A4) (c := c4) (n := (S1 (p 0 % 9).toNat).n + 1) M1.out hK rfl; rw [← HN.out, ← HE.out] at h; exact h
          rw [SN0.tot (Nat.le_refl _), insW_tot]
          split <;> omega
        have SN : Hid (Sam 9 (updS S1 (p 0 % 9).toNat ⟨A4, nk + 1, c4, insL ek (plcP ek p nk) p⟩) (insW S p)) := Lib.hid (by have h := upd_sam (A := A4) (c := c4) (n := (S1 (p 0 % 9).toNat).n + 1) M1.out hK rfl; rw [← HN.out, ← HE.out] at h; exact h)
        go_wp2_with fail
        by_cases hW2 : WOK 9 (insW S p)
        case neg =>
          obtain ⟨rfl, hE⟩ := HR.out.no (fun h => hW2 h.2.2)
          refine (tn (iWheelOk_any _ 9 c1 (updS S1 (p 0 % 9).toNat ⟨A4, nk + 1, c4, insL ek (plcP ek p nk) p⟩) _ (by omega) T5 hown5.out.rdw) (fun h => hW2 (h.sam SN.out))).mono ?_
          rintro y w6 ⟨rfl, hb6⟩
          have s6 := hb6.size
          (try simp [World.setCell] at s6)
          have x60 := (hb6.cell (p := ⟨w.heap.size, 0, none⟩) (by (first | omega | (simp; omega) | simp))).trans x55
          have x63 := (hb6.cell (p := ⟨w.heap.size + 1 + 1, 0, none⟩) (by (first | omega | (simp; omega) | simp))).trans x56
          have x64 := (hb6.frozen (p := ⟨w.heap.size + 1 + 1, 0, none⟩) (by (first | omega | (simp; omega) | simp))).trans x57
          go_wp2_with fail
          refine (copyWheel_any _ 9 c S _ hN hT4 (H.out.below (by (repeat (first | with_reducible exact Below.refl _ _ | with_reducible refine Below.drew ?_ | with_reducible refine below_drewN ?_ _ | (with_reducible refine bel_alloc ?_ ?_ _; (first | omega | (simp; omega) | simp)) | (with_reducible refine bel_set ?_ ?_ _; (first | omega | (simp; omega) | simp)) | (with_reducible refine bel_tr (by assumption) ?_ ?_; (first | omega | (simp; omega) | simp))))))).mono ?_
          rintro y w7 ⟨A7, c7, S7, rfl, g7, m7, hb7⟩
          have s7 := hb7.size
          have x73 := (hb7.cell (p := ⟨w.heap.size + 1 + 1, 0, none⟩) (by (first | omega | (simp; omega) | simp))).trans x63
          have x74 := (hb7.frozen (p := ⟨w.heap.size + 1 + 1, 0, none⟩) (by (first | omega | (simp; omega) | simp))).trans x64
          have G7 := Lib.hid g7
          have M7 := Lib.hid m7
          clear g7 m7
          go_wp2
          refine bodyPost_ret (v := .tuple #[.agg #[.slice A7 9 c7], .bool false]) (by simp only [results, Try.results6]; first | (go_simp; done) | (go_simp; omega)) rfl ?_
          have hfin : OwnW w.heap.size (w7.setCell ⟨w.heap.size + 1 + 1, 0, none⟩ (.slice A7 9 c7)).heap.size (w7.setCell ⟨w.heap.size + 1 + 1, 0, none⟩ (.slice A7 9 c7)) A7 9 S7 := ((G7.out.set_ (by (first | omega | (simp; omega) | simp)) _).own1.1).wide (by (first | omega | (simp; omega) | simp)) (Nat.le_refl _) (by simp [World.setCell])
          have hes : ∀ i, i < 9 → (S7 i).es = E i := fun i hi => by rw [hE i hi]; exact ((M7.out i hi).2).symm
          have hbl : Below w.heap.size w (w7.setCell ⟨w.heap.size + 1 + 1, 0, none⟩ (.slice A7 9 c7)) := by (repeat (first | with_reducible exact Below.refl _ _ | with_reducible refine Below.drew ?_ | with_reducible refine below_drewN ?_ _ | (with_reducible refine bel_alloc ?_ ?_ _; (first | omega | (simp; omega) | simp)) | (with_reducible refine bel_set ?_ ?_ _; (first | omega | (simp; omega) | simp)) | (with_reducible refine bel_tr (by assumption) ?_ ?_; (first | omega | (simp; omega) | simp))))
          exact ⟨A7, c7, S7, rfl, hfin, hes, G7.out.own1.2, hbl⟩
        obtain ⟨rfl, hE⟩ := HR.out.yes hW hp1 hW2
        refine (ty (iWheelOk_any _ 9 c1 (updS S1 (p 0 % 9).toNat ⟨A4, nk + 1, c4, insL ek (plcP ek p nk) p⟩) _ (by omega) T5 hown5.out.rdw) (hW2.sam SN.out.symm)).mono ?_
        rintro y w6 ⟨rfl, hb6⟩
        have s6 := hb6.size
        (try simp [World.setCell] at s6)
        have x60 := (hb6.cell (p := ⟨w1.heap.size, 0, none⟩) (by (first | omega | (simp; omega) | simp))).trans x58
        have x63 := (hb6.cell (p := ⟨w.heap.size + 1 + 1, 0, none⟩) (by (first | omega | (simp; omega) | simp))).trans x56
        have x64 := (hb6.frozen (p := ⟨w.heap.size + 1 + 1, 0, none⟩) (by (first | omega | (simp; omega) | simp))).trans x57
        go_wp2
        refine bodyPost_ret (v := .tuple #[.agg #[.slice (some ⟨b1, 0, none⟩) 9 c1], .bool true]) (by simp only [results, Try.results6]; first | (go_simp; done) | (go_simp; omega)) rfl ?_
        have hfin : OwnW w.heap.size (w6.setCell ⟨w.heap.size + 1 + 1, 0, none⟩ (.slice (some ⟨b1, 0, none⟩) 9 c1)).heap.size (w6.setCell ⟨w.heap.size + 1 + 1, 0, none⟩ (.slice (some ⟨b1, 0, none⟩) 9 c1)) (some ⟨b1, 0, none⟩) 9 (updS S1 (p 0 % 9).toNat ⟨A4, nk + 1, c4, insL ek (plcP ek p nk) p⟩) := (((hown5.out.below hb6).set_ (.inl (by (first | omega | (simp; omega) | simp))) _)).wide (by omega) (by have := hb6.size; (first | omega | (simp; omega) | simp)) (Nat.le_refl _)
        have hes : ∀ i, i < 9 → ((updS S1 (p 0 % 9).toNat ⟨A4, nk + 1, c4, insL ek (plcP ek p nk) p⟩) i).es = E i := fun i hi => by rw [hE i hi]; exact (SN.out i hi).2
        have hbl : Below w.heap.size w (w6.setCell ⟨w.heap.size + 1 + 1, 0, none⟩ (.slice (some ⟨b1, 0, none⟩) 9 c1)) := by (repeat (first | with_reducible exact Below.refl _ _ | with_reducible refine Below.drew ?_ | with_reducible refine below_drewN ?_ _ | (with_reducible refine bel_alloc ?_ ?_ _; (first | omega | (simp; omega) | simp)) | (with_reducible refine bel_set ?_ ?_ _; (first | omega | (simp; omega) | simp)) | (with_reducible refine bel_tr (by assumption) ?_ ?_; (first | omega | (simp; omega) | simp))))
        exact ⟨some ⟨b1, 0, none⟩, c1, (updS S1 (p 0 % 9).toNat ⟨A4, nk + 1, c4, insL ek (plcP ek p nk) p⟩), rfl, hfin, hes, G1.out.own1.2, hbl⟩
      obtain ⟨_, _, hbb, hb, hc⟩ := O2.out.2.resolve_left (by omega)
      injection hbb with hbb
      injection hbb with hb1' hb2'
      subst hb1' hb2'
      have f0 : wr.cell? ⟨g2, k * 2, none⟩ = some (.int .i64 (fld ek k 0)) := (hbel.cell (p := ⟨g2, k * 2, none⟩) hb).trans (by have h := hc k hlt 0 (by omega); rw [Nat.zero_add, Nat.add_zero] at h; exact h)
      have f1 : wr.cell? ⟨g2, k * 2 + 1, none⟩ = some (.int .i64 (fld ek k 1)) := (hbel.cell (p := ⟨g2, k * 2 + 1, none⟩) hb).trans (by have h := hc k hlt 1 (by omega); rw [Nat.zero_add] at h; exact h)
      have hd : decide (k < nk) = true := by simpa using hlt
      have hlti : (k : Int) < (nk : Int) := by omega
      clear hc
      by_cases hL : ltP (fld ek k) p
      · have HQ2 : Hid (∀ i, i < k + 1 → ltP (fld ek i) p) := fun i hi => by
          by_cases h1 : i < k
          · exact HQ.out i h1
          · obtain rfl : i = k := by omega
            exact hL
        have hcp : cmpP (fld ek k) p < 0 := cmpP_neg.2 hL
        have hcd : decide (cmpP (fld ek k) p < 0) = true := by simpa using hcp
        clear hL
        go_wp2
        refine wp_region_bw (by kernel_rfl) (by kernel_rfl) (fun W hW => ?_)
        have q0 : ∀ pq : BW W, pq.w.cell? ⟨w.heap.size + 1, 0, none⟩ = some (.int .i64 (p 0)) := fun pq => pq.cell (by rw [hW]; (first | omega | (simp; omega) | simp)) (by rw [hW]; (first | (go_keep; done) | (go_simp; done)))
        have q1 : ∀ pq : BW W, pq.w.cell? ⟨w.heap.size + 1, 1, none⟩ = some (.int .i64 (p 1)) := fun pq => pq.cell (by rw [hW]; (first | omega | (simp; omega) | simp)) (by rw [hW]; (first | (go_keep; done) | (go_simp; done)))
        have q2 : ∀ pq : BW W, pq.w.cell? ⟨g2, k * 2, none⟩ = some (.int .i64 (fld ek k 0)) := fun pq => pq.cell (by rw [hW]; (first | omega | (simp; omega) | simp)) (by rw [hW]; (first | (go_keep; done) | (go_simp; done)))
        have q3 : ∀ pq : BW W, pq.w.cell? ⟨g2, k * 2 + 1, none⟩ = some (.int .i64 (fld ek k 1)) := fun pq => pq.cell (by rw [hW]; (first | omega | (simp; omega) | simp)) (by rw [hW]; (first | (go_keep; done) | (go_simp; done)))
        have hbW : Below wr.heap.size wr W := by rw [hW]; (repeat (first | with_reducible exact Below.refl _ _ | with_reducible refine Below.drew ?_ | with_reducible refine below_drewN ?_ _ | (with_reducible refine bel_alloc ?_ ?_ _; (first | omega | (simp; omega) | simp)) | (with_reducible refine bel_set ?_ ?_ _; (first | omega | (simp; omega) | simp)) | (with_reducible refine bel_tr (by assumption) ?_ ?_; (first | omega | (simp; omega) | simp))))
        have HW := Lib.hid hW
        clear hW
        repeat (go_big_quiet_step ((go_at_call 20; exact bw_of (comparePins_any (fld ek k) p _))))
        refine wpQuiet_nil ?_
        intro wq hq
        have hbq : Below W.heap.size W wq := by (obtain ⟨p, hp⟩ := hq; rw [hp]; exact p.below)
        clear hq
        have hbel4 : Below wr.heap.size wr wq := hbW.trans (hbq.mono hbW.size)
        have sq := hbel4.size
        clear hbW hbq HW q0 q1 q2 q3
        go_wp2
        go_roundw
        case rel => exact ⟨k + 1, by omega, by go_num, HQ2, hbel.trans (hbel4.mono hsz)⟩
        case measure => simp [intOf]; omega
      · have HP : Hid (k = plcP ek p nk) := plcP_of (by omega) HQ.out (.inr ⟨hlt, hL⟩)
        have hcp : ¬ cmpP (fld ek k) p < 0 := fun h => hL (cmpP_neg.1 h)
        have hcd : decide (cmpP (fld ek k) p < 0) = false := by simpa using hcp
        clear hL
        go_wp2
        refine wp_region_bw (by kernel_rfl) (by kernel_rfl) (fun W hW => ?_)
        have q0 : ∀ pq : BW W, pq.w.cell? ⟨w.heap.size + 1, 0, none⟩ = some (.int .i64 (p 0)) := fun pq => pq.cell (by rw [hW]; (first | omega | (simp; omega) | simp)) (by rw [hW]; (first | (go_keep; done) | (go_simp; done)))
        have q1 : ∀ pq : BW W, pq.w.cell? ⟨w.heap.size + 1, 1, none⟩ = some (.int .i64 (p 1)) := fun pq => pq.cell (by rw [hW]; (first | omega | (simp; omega) | simp)) (by rw [hW]; (first | (go_keep; done) | (go_simp; done)))
        have q2 : ∀ pq : BW W, pq.w.cell? ⟨g2, k * 2, none⟩ = some (.int .i64 (fld ek k 0)) := fun pq => pq.cell (by rw [hW]; (first | omega | (simp; omega) | simp)) (by rw [hW]; (first | (go_keep; done) | (go_simp; done)))
        have q3 : ∀ pq : BW W, pq.w.cell? ⟨g2, k * 2 + 1, none⟩ = some (.int .i64 (fld ek k 1)) := fun pq => pq.cell (by rw [hW]; (first | omega | (simp; omega) | simp)) (by rw [hW]; (first | (go_keep; done) | (go_simp; done)))
        have hbW : Below wr.heap.size wr W := by rw [hW]; (repeat (first | with_reducible exact Below.refl _ _ | with_reducible refine Below.drew ?_ | with_reducible refine below_drewN ?_ _ | (with_reducible refine bel_alloc ?_ ?_ _; (first | omega | (simp; omega) | simp)) | (with_reducible refine bel_set ?_ ?_ _; (first | omega | (simp; omega) | simp)) | (with_reducible refine bel_tr (by assumption) ?_ ?_; (first | omega | (simp; omega) | simp))))
        have HW := Lib.hid hW
        clear hW
        repeat (go_big_quiet_step ((go_at_call 20; exact bw_of (comparePins_any (fld ek k) p _))))
        refine wpQuiet_nil ?_
        intro wq hq
        have hbq : Below W.heap.size W wq := by (obtain ⟨p, hp⟩ := hq; rw [hp]; exact p.below)
        clear hq
        have hbel4 : Below wr.heap.size wr wq := hbW.trans (hbq.mono hbW.size)
        have sq := hbel4.size
        clear hbW hbq HW q0 q1 q2 q3
        have bq3 : Below w3.heap.size w3 wq := hbel.trans (hbel4.mono hsz)
        clear hbel4 v0 v1 v2 v3 v4 v5 f0 f1
        have y0 : wq.cell? ⟨w.heap.size, 0, none⟩ = some (.slice A 9 c) := (bq3.cell (p := ⟨w.heap.size, 0, none⟩) (by (first | omega | (simp; omega) | simp))).trans x0
        have y1 : wq.cell? ⟨w.heap.size + 1, 0, none⟩ = some (.int .i64 (p 0)) := (bq3.cell (p := ⟨w.heap.size + 1, 0, none⟩) (by (first | omega | (simp; omega) | simp))).trans x1
        have y2 : wq.cell? ⟨w.heap.size + 1, 1, none⟩ = some (.int .i64 (p 1)) := (bq3.cell (p := ⟨w.heap.size + 1, 1, none⟩) (by (first | omega | (simp; omega) | simp))).trans x2
        have y3 : wq.cell? ⟨w.heap.size + 1 + 1, 0, none⟩ = some (.slice none 0 0) := (bq3.cell (p := ⟨w.heap.size + 1 + 1, 0, none⟩) (by (first | omega | (simp; omega) | simp))).trans x3
        have y4 : wq.frozen? ⟨w.heap.size + 1 + 1, 0, none⟩ = false := (bq3.frozen (p := ⟨w.heap.size + 1 + 1, 0, none⟩) (by (first | omega | (simp; omega) | simp))).trans x4
        have y5 : wq.cell? ⟨w1.heap.size, 0, none⟩ = some (.slice (some ⟨b1, 0, none⟩) 9 c1) := (bq3.cell (p := ⟨w1.heap.size, 0, none⟩) (by (first | omega | (simp; omega) | simp))).trans x5
        clear x0 x1 x2 x3 x4 x5
        have G5 : Hid (Gat (w.heap.size + 3) wq (.slice (some ⟨b1, 0, none⟩) 9 c1) 9 S1) := Lib.hid (G3.out.below bq3)
        have sq3 := bq3.size
        have hb15 : b1 < wq.heap.size := G5.out.own1.1.rdw.lt (by omega)
        have hb1w : b1 < w1.heap.size := row_lt G1.out.row b1 rfl
        have hb13' : w.heap.size + 3 ≤ b1 := row_ge G5.out.row (Nat.le_refl _) b1 rfl
        have hn1 : ¬ w1.heap.size = b1 := by omega
        have hn4 : ¬ b1 = w1.heap.size := by omega
        have hn5 : ¬ b1 = w.heap.size := by omega
        have hn7 : ¬ b1 = w.heap.size + 1 + 1 := by omega
        have hn9 : ¬ b1 = w.heap.size + 1 := by omega
        have c5 := G5.out.own1.1.rdw.cell hK
        rw [Nat.zero_add] at c5
        have hoB := row_lt (G5.out.own _ hK).1
        have HOK := Lib.hid (G5.out.own _ hK)
        have HOE : Hid (wq.ownsRow (w.heap.size + 3) 28 2 (.slice (some ⟨g2, 0, none⟩) nk c0) nk (flat 2 ek)) := Lib.hid (row_below O3.out bq3)
        have hnx : ∀ x, x < w.heap.size + 3 → some x ≠ (S1 (p 0 % 9).toNat).v.ownBlock := fun x hx e => by have h := row_ge HOK.out.1 (Nat.le_refl _) x e.symm; omega
        have hnw1 : some w1.heap.size ≠ (S1 (p 0 % 9).toNat).v.ownBlock := fun e => by have h := row_lt (G1.out.own _ hK).1 w1.heap.size e.symm; omega
        have hal : ∀ ob, (wq.alloc ob).heap[wq.heap.size]? = some ob := fun ob => heap_alloc_new wq ob
        have ht9 : (p 0).tmod 9 = p 0 % 9 := Int.tmod_eq_emod_of_nonneg hp0
        have hnk3 : nk ≤ 4194303 := hnk4
        go_upto_region 8 with fail
        go_region_held3 (fun w' => w'.cell? ⟨w1.heap.size, 0, none⟩ = some (.slice (some ⟨b1, 0, none⟩) 9 c1) ∧ w'.cell? ⟨w.heap.size + 1, 0, none⟩ = some (.int .i64 (p 0)) ∧ w'.cell? ⟨w.heap.size + 1, 1, none⟩ = some (.int .i64 (p 1))) ((first | (go_keep; done) | (go_simp; done))) (
            (go_at_call 21; refine (insPin_any (w.heap.size + 3) nk k wq.heap.size 1 (.slice (some ⟨g2, 0, none⟩) nk c0) ek p ((wq.alloc (.cells #[.int .i64 (p 0), .int .i64 (p 1)] 28)).drew) hnk3 hk HL.out (World.ownsRow.drew (World.ownsRow.alloc HOE.out _)) (by (first | omega | (simp; omega) | simp)) (hal (.cells #[.int .i64 (p 0), .int .i64 (p 1)] 28)) (fun x hx => (by have h := row_lt HOE.out x hx; omega))).mono ?_; rintro y w5 ⟨A4, c4, rfl, hc41, hc42, o5, _, hg5, hloc⟩; have hg6 : wq.grownBy w5 (S1 (p 0 % 9).toNat).v.ownBlock := (by rw [HVV.out]; have h := World.grownBy.trans (World.grownBy_alloc wq _ _) (show (wq.alloc (.cells #[.int .i64 (p 0), .int .i64 (p 1)] 28)).grownBy w5 _ from ⟨hg5.os, hg5.tape, hg5.output, hg5.size, hg5.block⟩); exact h); have s5 := hg6.size; obtain ⟨b3, hb3A, _, _, ⟨u2, hu2⟩, hf2, hown5⟩ := G5.out.put (s := ⟨A4, nk + 1, c4, insL ek k p⟩) hK hg6 o5 ⟨hc41, hc42⟩ (fun a _ ha => (hloc a ha).imp (fun h => (by rw [HVV.out]; exact h)) (fun h => Nat.le_of_lt (Nat.lt_of_lt_of_le (by simp) h))); obtain rfl : b1 = b3 := (by cases hb3A; rfl); have hown5 := Lib.hid hown5; have b5 : Below (w.heap.size + 3) wq w5 := ((Below.refl _ wq).grown hg6 (by (first | omega | (simp; omega) | simp)) (row_ge HOK.out.1 (Nat.le_refl _))); have hgx := hg6.block; have x50 : w5.cell? ⟨w1.heap.size, 0, none⟩ = some (.slice (some ⟨b1, 0, none⟩) 9 c1) := (World.cell?_of_block (w := wq) (w' := w5) (a := ⟨w1.heap.size, 0, none⟩) (hgx w1.heap.size (by (first | omega | (simp; omega) | simp)) hnw1)).trans y5; have x51 := (b5.cell (p := ⟨w.heap.size + 1, 0, none⟩) (by (first | omega | (simp; omega) | simp))).trans y1; have x52 := (b5.cell (p := ⟨w.heap.size + 1, 1, none⟩) (by (first | omega | (simp; omega) | simp))).trans y2; have x53 := (b5.cell (p := ⟨w.heap.size, 0, none⟩) (by (first | omega | (simp; omega) | simp))).trans y0; have x54 := (b5.cell (p := ⟨w.heap.size + 1 + 1, 0, none⟩) (by (first | omega | (simp; omega) | simp))).trans y3; have x5f := (b5.frozen (p := ⟨w.heap.size + 1 + 1, 0, none⟩) (by (first | omega | (simp; omega) | simp))).trans y4; clear o5 hg5 hgx hloc hg6))
        have x55 : (w5.setCell ⟨b1, (p 0 % 9).toNat, none⟩ (.slice A4 (nk + 1) c4)).cell? ⟨w.heap.size, 0, none⟩ = _ := (World.cell?_setCell_far w5 ⟨b1, (p 0 % 9).toNat, none⟩ ⟨w.heap.size, 0, none⟩ _ hn5).trans x53
        have x56 : (w5.setCell ⟨b1, (p 0 % 9).toNat, none⟩ (.slice A4 (nk + 1) c4)).cell? ⟨w.heap.size + 1 + 1, 0, none⟩ = _ := (World.cell?_setCell_far w5 ⟨b1, (p 0 % 9).toNat, none⟩ ⟨w.heap.size + 1 + 1, 0, none⟩ _ hn7).trans x54
        have x57 : (w5.setCell ⟨b1, (p 0 % 9).toNat, none⟩ (.slice A4 (nk + 1) c4)).frozen? ⟨w.heap.size + 1 + 1, 0, none⟩ = _ := (World.frozen?_setCell _ _ _ _).trans x5f
        have x58 : (w5.setCell ⟨b1, (p 0 % 9).toNat, none⟩ (.slice A4 (nk + 1) c4)).cell? ⟨w1.heap.size, 0, none⟩ = _ := (World.cell?_setCell_far w5 ⟨b1, (p 0 % 9).toNat, none⟩ ⟨w1.heap.size, 0, none⟩ _ hn4).trans x50
        have bw5 : Below w.heap.size w w5 := B3.out.trans ((bq3.mono (by (first | omega | (simp; omega) | simp))).trans (b5.mono (by omega)))
        clear b5 bq3 hbel
        rw [HP.out] at hown5
        have T5 : tot (updS S1 (p 0 % 9).toNat ⟨A4, nk + 1, c4, insL ek (plcP ek p nk) p⟩) 9 ≤ 4194304 := by
          have SN0 : Sam 9 (updS S1 (p 0 % 9).toNat ⟨A4, nk + 1, c4, insL ek (plcP ek p nk) p⟩) (insW S p) := by have h := upd_sam (A := A4) (c := c4) (n := (S1 (p 0 % 9).toNat).n + 1) M1.out hK rfl; rw [← HN.out, ← HE.out] at h; exact h
          rw [SN0.tot (Nat.le_refl _), insW_tot]
          split <;> omega
        have SN : Hid (Sam 9 (updS S1 (p 0 % 9).toNat ⟨A4, nk + 1, c4, insL ek (plcP ek p nk) p⟩) (insW S p)) := Lib.hid (by have h := upd_sam (A := A4) (c := c4) (n := (S1 (p 0 % 9).toNat).n + 1) M1.out hK rfl; rw [← HN.out, ← HE.out] at h; exact h)
        go_wp2_with fail
        by_cases hW2 : WOK 9 (insW S p)
        case neg =>
          obtain ⟨rfl, hE⟩ := HR.out.no (fun h => hW2 h.2.2)
          refine (tn (iWheelOk_any _ 9 c1 (updS S1 (p 0 % 9).toNat ⟨A4, nk + 1, c4, insL ek (plcP ek p nk) p⟩) _ (by omega) T5 hown5.out.rdw) (fun h => hW2 (h.sam SN.out))).mono ?_
          rintro y w6 ⟨rfl, hb6⟩
          have s6 := hb6.size
          (try simp [World.setCell] at s6)
          have x60 := (hb6.cell (p := ⟨w.heap.size, 0, none⟩) (by (first | omega | (simp; omega) | simp))).trans x55
          have x63 := (hb6.cell (p := ⟨w.heap.size + 1 + 1, 0, none⟩) (by (first | omega | (simp; omega) | simp))).trans x56
          have x64 := (hb6.frozen (p := ⟨w.heap.size + 1 + 1, 0, none⟩) (by (first | omega | (simp; omega) | simp))).trans x57
          go_wp2_with fail
          refine (copyWheel_any _ 9 c S _ hN hT4 (H.out.below (by (repeat (first | with_reducible exact Below.refl _ _ | with_reducible refine Below.drew ?_ | with_reducible refine below_drewN ?_ _ | (with_reducible refine bel_alloc ?_ ?_ _; (first | omega | (simp; omega) | simp)) | (with_reducible refine bel_set ?_ ?_ _; (first | omega | (simp; omega) | simp)) | (with_reducible refine bel_tr (by assumption) ?_ ?_; (first | omega | (simp; omega) | simp))))))).mono ?_
          rintro y w7 ⟨A7, c7, S7, rfl, g7, m7, hb7⟩
          have s7 := hb7.size
          have x73 := (hb7.cell (p := ⟨w.heap.size + 1 + 1, 0, none⟩) (by (first | omega | (simp; omega) | simp))).trans x63
          have x74 := (hb7.frozen (p := ⟨w.heap.size + 1 + 1, 0, none⟩) (by (first | omega | (simp; omega) | simp))).trans x64
          have G7 := Lib.hid g7
          have M7 := Lib.hid m7
          clear g7 m7
          go_wp2
          refine bodyPost_ret (v := .tuple #[.agg #[.slice A7 9 c7], .bool false]) (by simp only [results, Try.results6]; first | (go_simp; done) | (go_simp; omega)) rfl ?_
          have hfin : OwnW w.heap.size (w7.setCell ⟨w.heap.size + 1 + 1, 0, none⟩ (.slice A7 9 c7)).heap.size (w7.setCell ⟨w.heap.size + 1 + 1, 0, none⟩ (.slice A7 9 c7)) A7 9 S7 := ((G7.out.set_ (by (first | omega | (simp; omega) | simp)) _).own1.1).wide (by (first | omega | (simp; omega) | simp)) (Nat.le_refl _) (by simp [World.setCell])
          have hes : ∀ i, i < 9 → (S7 i).es = E i := fun i hi => by rw [hE i hi]; exact ((M7.out i hi).2).symm
          have hbl : Below w.heap.size w (w7.setCell ⟨w.heap.size + 1 + 1, 0, none⟩ (.slice A7 9 c7)) := by (repeat (first | with_reducible exact Below.refl _ _ | with_reducible refine Below.drew ?_ | with_reducible refine below_drewN ?_ _ | (with_reducible refine bel_alloc ?_ ?_ _; (first | omega | (simp; omega) | simp)) | (with_reducible refine bel_set ?_ ?_ _; (first | omega | (simp; omega) | simp)) | (with_reducible refine bel_tr (by assumption) ?_ ?_; (first | omega | (simp; omega) | simp))))
          exact ⟨A7, c7, S7, rfl, hfin, hes, G7.out.own1.2, hbl⟩
        obtain ⟨rfl, hE⟩ := HR.out.yes hW hp1 hW2
        refine (ty (iWheelOk_any _ 9 c1 (updS S1 (p 0 % 9).toNat ⟨A4, nk + 1, c4, insL ek (plcP ek p nk) p⟩) _ (by omega) T5 hown5.out.rdw) (hW2.sam SN.out.symm)).mono ?_
        rintro y w6 ⟨rfl, hb6⟩
        have s6 := hb6.size
        (try simp [World.setCell] at s6)
        have x60 := (hb6.cell (p := ⟨w1.heap.size, 0, none⟩) (by (first | omega | (simp; omega) | simp))).trans x58
        have x63 := (hb6.cell (p := ⟨w.heap.size + 1 + 1, 0, none⟩) (by (first | omega | (simp; omega) | simp))).trans x56
        have x64 := (hb6.frozen (p := ⟨w.heap.size + 1 + 1, 0, none⟩) (by (first | omega | (simp; omega) | simp))).trans x57
        go_wp2
        refine bodyPost_ret (v := .tuple #[.agg #[.slice (some ⟨b1, 0, none⟩) 9 c1], .bool true]) (by simp only [results, Try.results6]; first | (go_simp; done) | (go_simp; omega)) rfl ?_
        have hfin : OwnW w.heap.size (w6.setCell ⟨w.heap.size + 1 + 1, 0, none⟩ (.slice (some ⟨b1, 0, none⟩) 9 c1)).heap.size (w6.setCell ⟨w.heap.size + 1 + 1, 0, none⟩ (.slice (some ⟨b1, 0, none⟩) 9 c1)) (some ⟨b1, 0, none⟩) 9 (updS S1 (p 0 % 9).toNat ⟨A4, nk + 1, c4, insL ek (plcP ek p nk) p⟩) := (((hown5.out.below hb6).set_ (.inl (by (first | omega | (simp; omega) | simp))) _)).wide (by omega) (by have := hb6.size; (first | omega | (simp; omega) | simp)) (Nat.le_refl _)
        have hes : ∀ i, i < 9 → ((updS S1 (p 0 % 9).toNat ⟨A4, nk + 1, c4, insL ek (plcP ek p nk) p⟩) i).es = E i := fun i hi => by rw [hE i hi]; exact (SN.out i hi).2
        have hbl : Below w.heap.size w (w6.setCell ⟨w.heap.size + 1 + 1, 0, none⟩ (.slice (some ⟨b1, 0, none⟩) 9 c1)) := by (repeat (first | with_reducible exact Below.refl _ _ | with_reducible refine Below.drew ?_ | with_reducible refine below_drewN ?_ _ | (with_reducible refine bel_alloc ?_ ?_ _; (first | omega | (simp; omega) | simp)) | (with_reducible refine bel_set ?_ ?_ _; (first | omega | (simp; omega) | simp)) | (with_reducible refine bel_tr (by assumption) ?_ ?_; (first | omega | (simp; omega) | simp))))
        exact ⟨some ⟨b1, 0, none⟩, c1, (updS S1 (p 0 % 9).toNat ⟨A4, nk + 1, c4, insL ek (plcP ek p nk) p⟩), rfl, hfin, hes, G1.out.own1.2, hbl⟩
end Go.Proofs.Ytehmanlpgjccoaa
