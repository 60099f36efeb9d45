/-
  The walk of the law on WheelNew. No conditions.
-/
import Derived.Test.YtndgaandcmiinaaW5
namespace Go.Proofs.Ytndgaandcmiinaa
open Go.RowKit

set_option maxRecDepth 100000 in
set_option maxHeartbeats 4000000 in
theorem lawWheelNew (w : World) :
    Calls Try.prog 3 #[] w fun y w' => y = .returned (.bool true) ∧ Below w.heap.size w w' := by
  go_enter Try.func3, Try.ntmps3
  go_wp2_with fail
  refine (sWheelNew_any _).mono ?_
  rintro y w1 ⟨A1, c1, S1, rfl, G1, E1, hb1⟩
  have s1 := hb1.size
  have O1 := Lib.hid G1.own1.1
  have Z1 := Lib.hid E1
  clear G1 E1
  go_wp2_with fail
  refine (iWheelNew_any _).mono ?_
  rintro y w2 ⟨A2, c2, S2, rfl, G2, E2, hb2⟩
  have s2 := hb2.size
  (try simp at s2)
  have O2 := Lib.hid G2.own1.1
  have Z2 := Lib.hid E2
  have hT2 : Hid (tot S2 9 ≤ 4194304) := Lib.hid (by
    have h : ∀ k, k ≤ 9 → tot S2 k = 0 := fun k => by
      induction k with
      | zero => intro _; rfl
      | succ k ih => intro hk; simp only [tot]; rw [ih (by omega), (E2 k (by omega)).1]
    rw [h 9 (by omega)]; omega)
  have hS21 : Hid (Sam 9 S2 S1) := Lib.hid fun i hi => ⟨(E2 i hi).1.trans (Z1.out i hi).1.symm, (E2 i hi).2.trans (Z1.out i hi).2.symm⟩
  clear G2 E2
  have bc2 := bcell hb2; obtain ⟨hc2, hf2⟩ := bc2; have ks2 := hb2.size; (try simp at ks2); (try (have jzw12 : w1.heap.size < w2.heap.size := (by have hh := hb2.size; (try simp at hh); omega); have jcw12 : ∀ o, w2.cell? ⟨w1.heap.size, o, none⟩ = _ := (fun o => hb2.cell (p := ⟨w1.heap.size, o, none⟩) (by (first | omega | (simp; omega) | simp))); have jfw12 : ∀ o, w2.frozen? ⟨w1.heap.size, o, none⟩ = _ := (fun o => hb2.frozen (p := ⟨w1.heap.size, o, none⟩) (by (first | omega | (simp; omega) | simp)))))
  go_wp2_with fail
  refine (eqWheel_same A2 A1 9 c2 c1 S2 S1 _ (by omega) hT2.out (O2.out.rdw.below (by (repeat (first | with_reducible exact Below.refl _ _ | with_reducible refine Below.drew ?_ | with_reducible refine below_drewN ?_ _ | (with_reducible refine bel_alloc ?_ ?_ _; (first | omega | (simp; omega) | simp)) | (with_reducible refine bel_set ?_ ?_ _; (first | omega | (simp; omega) | simp)) | (with_reducible refine bel_tr (by assumption) ?_ ?_; (first | omega | (simp; omega) | simp)))))) (O1.out.rdw.below (by (repeat (first | with_reducible exact Below.refl _ _ | with_reducible refine Below.drew ?_ | with_reducible refine below_drewN ?_ _ | (with_reducible refine bel_alloc ?_ ?_ _; (first | omega | (simp; omega) | simp)) | (with_reducible refine bel_set ?_ ?_ _; (first | omega | (simp; omega) | simp)) | (with_reducible refine bel_tr (by assumption) ?_ ?_; (first | omega | (simp; omega) | simp)))))) hS21.out).mono ?_
  rintro y w3 ⟨rfl, hb3⟩
  have s3 := hb3.size
  (try simp at s3)
  have bc3 := bcell hb3; obtain ⟨hc3, hf3⟩ := bc3; have ks3 := hb3.size; (try simp at ks3); (try (have jzw13 : w1.heap.size < w3.heap.size := (by have hh := hb3.size; (try simp at hh); omega); have jcw13 : ∀ o, w3.cell? ⟨w1.heap.size, o, none⟩ = _ := (fun o => hb3.cell (p := ⟨w1.heap.size, o, none⟩) (by (first | omega | (simp; omega) | simp))); have jfw13 : ∀ o, w3.frozen? ⟨w1.heap.size, o, none⟩ = _ := (fun o => hb3.frozen (p := ⟨w1.heap.size, o, none⟩) (by (first | omega | (simp; omega) | simp))))); (try (have jzw23 : w2.heap.size < w3.heap.size := (by have hh := hb3.size; (try simp at hh); omega); have jcw23 : ∀ o, w3.cell? ⟨w2.heap.size, o, none⟩ = _ := (fun o => hb3.cell (p := ⟨w2.heap.size, o, none⟩) (by (first | omega | (simp; omega) | simp))); have jfw23 : ∀ o, w3.frozen? ⟨w2.heap.size, o, none⟩ = _ := (fun o => hb3.frozen (p := ⟨w2.heap.size, o, none⟩) (by (first | omega | (simp; omega) | simp)))))
  go_wp2_with fail
  refine (markWheel_any _ _ A2 9 c2 1 S2 _ (by omega) hT2.out (by omega) (O2.out.below (by (repeat (first | with_reducible exact Below.refl _ _ | with_reducible refine Below.drew ?_ | with_reducible refine below_drewN ?_ _ | (with_reducible refine bel_alloc ?_ ?_ _; (first | omega | (simp; omega) | simp)) | (with_reducible refine bel_set ?_ ?_ _; (first | omega | (simp; omega) | simp)) | (with_reducible refine bel_tr (by assumption) ?_ ?_; (first | omega | (simp; omega) | simp))))))).mono ?_
  rintro y w4 ⟨rfl, o4, m4⟩
  have O4 := Lib.hid o4
  clear o4
  have s4 := m4.size
  have b4 : Below w.heap.size w3 w4 := m4.below (by (first | omega | (simp; omega) | simp)) (by (first | omega | (simp; omega) | simp))
  have P1 : Hid (OwnW w.heap.size w1.heap.size w4 A1 9 S1) := Lib.hid ((O1.out.below (w' := w3) (by (repeat (first | with_reducible exact Below.refl _ _ | with_reducible refine Below.drew ?_ | with_reducible refine below_drewN ?_ _ | (with_reducible refine bel_alloc ?_ ?_ _; (first | omega | (simp; omega) | simp)) | (with_reducible refine bel_set ?_ ?_ _; (first | omega | (simp; omega) | simp)) | (with_reducible refine bel_tr (by assumption) ?_ ?_; (first | omega | (simp; omega) | simp)))))).marked m4 (.inl (by (first | omega | (simp; omega) | simp))))
  have mc1 : ∀ o, w4.cell? ⟨w1.heap.size, o, none⟩ = _ := fun o => m4.cell (p := ⟨w1.heap.size, o, none⟩) (by (first | omega | (simp; omega) | simp)) (.inl (by (first | omega | (simp; omega) | simp)))
  have mc2 : ∀ o, w4.cell? ⟨w2.heap.size, o, none⟩ = _ := fun o => m4.cell (p := ⟨w2.heap.size, o, none⟩) (by (first | omega | (simp; omega) | simp)) (.inr (by (first | omega | (simp; omega) | simp)))
  clear m4
  go_wp2_with fail
  refine (heldWheel_any A2 9 c2 1 S2 _ (by omega) hT2.out (by omega) O4.out.rdw).mono ?_
  rintro y w5 ⟨rfl, hb5⟩
  have s5 := hb5.size
  have bc5 := bcell hb5; obtain ⟨hc5, hf5⟩ := bc5; have ks5 := hb5.size; (try simp at ks5); (try (have jzw15 : w1.heap.size < w5.heap.size := (by have hh := hb5.size; (try simp at hh); omega); have jcw15 : ∀ o, w5.cell? ⟨w1.heap.size, o, none⟩ = _ := (fun o => hb5.cell (p := ⟨w1.heap.size, o, none⟩) (by (first | omega | (simp; omega) | simp))); have jfw15 : ∀ o, w5.frozen? ⟨w1.heap.size, o, none⟩ = _ := (fun o => hb5.frozen (p := ⟨w1.heap.size, o, none⟩) (by (first | omega | (simp; omega) | simp))))); (try (have jzw25 : w2.heap.size < w5.heap.size := (by have hh := hb5.size; (try simp at hh); omega); have jcw25 : ∀ o, w5.cell? ⟨w2.heap.size, o, none⟩ = _ := (fun o => hb5.cell (p := ⟨w2.heap.size, o, none⟩) (by (first | omega | (simp; omega) | simp))); have jfw25 : ∀ o, w5.frozen? ⟨w2.heap.size, o, none⟩ = _ := (fun o => hb5.frozen (p := ⟨w2.heap.size, o, none⟩) (by (first | omega | (simp; omega) | simp)))))
  go_wp2_with fail
  refine (iWheelNew_any _).mono ?_
  rintro y w6 ⟨A6, c6, S6, rfl, G6, E6, hb6⟩
  have s6 := hb6.size
  have O6 := Lib.hid G6.own1.1
  have hT6 : Hid (tot S6 9 ≤ 4194304) := Lib.hid (by
    have h : ∀ k, k ≤ 9 → tot S6 k = 0 := fun k => by
      induction k with
      | zero => intro _; rfl
      | succ k ih => intro hk; simp only [tot]; rw [ih (by omega), (E6 k (by omega)).1]
    rw [h 9 (by omega)]; omega)
  have hS61 : Hid (Sam 9 S6 S1) := Lib.hid fun i hi => ⟨(E6 i hi).1.trans (Z1.out i hi).1.symm, (E6 i hi).2.trans (Z1.out i hi).2.symm⟩
  clear G6 E6
  have bc6 := bcell hb6; obtain ⟨hc6, hf6⟩ := bc6; have ks6 := hb6.size; (try simp at ks6); (try (have jzw16 : w1.heap.size < w6.heap.size := (by have hh := hb6.size; (try simp at hh); omega); have jcw16 : ∀ o, w6.cell? ⟨w1.heap.size, o, none⟩ = _ := (fun o => hb6.cell (p := ⟨w1.heap.size, o, none⟩) (by (first | omega | (simp; omega) | simp))); have jfw16 : ∀ o, w6.frozen? ⟨w1.heap.size, o, none⟩ = _ := (fun o => hb6.frozen (p := ⟨w1.heap.size, o, none⟩) (by (first | omega | (simp; omega) | simp))))); (try (have jzw26 : w2.heap.size < w6.heap.size := (by have hh := hb6.size; (try simp at hh); omega); have jcw26 : ∀ o, w6.cell? ⟨w2.heap.size, o, none⟩ = _ := (fun o => hb6.cell (p := ⟨w2.heap.size, o, none⟩) (by (first | omega | (simp; omega) | simp))); have jfw26 : ∀ o, w6.frozen? ⟨w2.heap.size, o, none⟩ = _ := (fun o => hb6.frozen (p := ⟨w2.heap.size, o, none⟩) (by (first | omega | (simp; omega) | simp)))))
  go_wp2_with fail
  refine (eqWheel_same A6 A1 9 c6 c1 S6 S1 _ (by omega) hT6.out (O6.out.rdw.below (by (repeat (first | with_reducible exact Below.refl _ _ | with_reducible refine Below.drew ?_ | with_reducible refine below_drewN ?_ _ | (with_reducible refine bel_alloc ?_ ?_ _; (first | omega | (simp; omega) | simp)) | (with_reducible refine bel_set ?_ ?_ _; (first | omega | (simp; omega) | simp)) | (with_reducible refine bel_tr (by assumption) ?_ ?_; (first | omega | (simp; omega) | simp)))))) (P1.out.rdw.below (by (repeat (first | with_reducible exact Below.refl _ _ | with_reducible refine Below.drew ?_ | with_reducible refine below_drewN ?_ _ | (with_reducible refine bel_alloc ?_ ?_ _; (first | omega | (simp; omega) | simp)) | (with_reducible refine bel_set ?_ ?_ _; (first | omega | (simp; omega) | simp)) | (with_reducible refine bel_tr (by assumption) ?_ ?_; (first | omega | (simp; omega) | simp)))))) hS61.out).mono ?_
  rintro y w7 ⟨rfl, hb7⟩
  have s7 := hb7.size
  (try simp at s7)
  have bc7 := bcell hb7; obtain ⟨hc7, hf7⟩ := bc7; have ks7 := hb7.size; (try simp at ks7); (try (have jzw17 : w1.heap.size < w7.heap.size := (by have hh := hb7.size; (try simp at hh); omega); have jcw17 : ∀ o, w7.cell? ⟨w1.heap.size, o, none⟩ = _ := (fun o => hb7.cell (p := ⟨w1.heap.size, o, none⟩) (by (first | omega | (simp; omega) | simp))); have jfw17 : ∀ o, w7.frozen? ⟨w1.heap.size, o, none⟩ = _ := (fun o => hb7.frozen (p := ⟨w1.heap.size, o, none⟩) (by (first | omega | (simp; omega) | simp))))); (try (have jzw27 : w2.heap.size < w7.heap.size := (by have hh := hb7.size; (try simp at hh); omega); have jcw27 : ∀ o, w7.cell? ⟨w2.heap.size, o, none⟩ = _ := (fun o => hb7.cell (p := ⟨w2.heap.size, o, none⟩) (by (first | omega | (simp; omega) | simp))); have jfw27 : ∀ o, w7.frozen? ⟨w2.heap.size, o, none⟩ = _ := (fun o => hb7.frozen (p := ⟨w2.heap.size, o, none⟩) (by (first | omega | (simp; omega) | simp)))))
  go_wp2_with fail
  refine (heldWheel_any A2 9 c2 1 S2 _ (by omega) hT2.out (by omega) (O4.out.rdw.below (by (repeat (first | with_reducible exact Below.refl _ _ | with_reducible refine Below.drew ?_ | with_reducible refine below_drewN ?_ _ | (with_reducible refine bel_alloc ?_ ?_ _; (first | omega | (simp; omega) | simp)) | (with_reducible refine bel_set ?_ ?_ _; (first | omega | (simp; omega) | simp)) | (with_reducible refine bel_tr (by assumption) ?_ ?_; (first | omega | (simp; omega) | simp))))))).mono ?_
  rintro y w8 ⟨rfl, hb8⟩
  have s8 := hb8.size
  go_wp2
  go_ret
  exact ⟨rfl, by (repeat (first | with_reducible exact Below.refl _ _ | with_reducible refine Below.drew ?_ | with_reducible refine below_drewN ?_ _ | (with_reducible refine bel_alloc ?_ ?_ _; (first | omega | (simp; omega) | simp)) | (with_reducible refine bel_set ?_ ?_ _; (first | omega | (simp; omega) | simp)) | (with_reducible refine bel_tr (by assumption) ?_ ?_; (first | omega | (simp; omega) | simp))))⟩
end Go.Proofs.Ytndgaandcmiinaa
