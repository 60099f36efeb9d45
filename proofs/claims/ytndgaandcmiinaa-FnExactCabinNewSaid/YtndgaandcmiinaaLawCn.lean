/-
  The walk of the law on CabinNew. No conditions.
-/
import Derived.Test.YtndgaandcmiinaaCab
namespace Go.Proofs.Ytndgaandcmiinaa
open Go.RowKit

set_option maxRecDepth 100000 in
set_option maxHeartbeats 8000000 in
theorem lawCabinNew (t : Int) (w : World) :
    Calls Try.prog 14 #[.int .i64 t] w fun y w' => y = .returned (.bool true) ∧ Below w.heap.size w w' := by
  obtain ⟨x, N, b, hC⟩ := cabV_ex t
  have hN : N ≤ 4194304 := by rcases hC with ⟨_, _, h1, _⟩ | ⟨_, _, h1, _⟩ <;> omega
  have HC := Lib.hid hC
  clear hC
  go_enter Try.func14, Try.ntmps14
  go_wp2_with fail
  refine (sCabinNew_any t x N b _ HC.out).mono ?_
  rintro y w1 ⟨A1, c1, S1, rfl, o1, e1, hb1⟩
  have bc1 := bcell hb1; obtain ⟨hc1, hf1⟩ := bc1; have ks1 := hb1.size; (try simp at ks1)
  have O1 := Lib.hid o1
  have E1 := Lib.hid e1
  clear o1 e1
  go_wp2_with fail
  refine (iCabinNew_any t x N b _ HC.out).mono ?_
  rintro y w2 ⟨A2, c2, S2, rfl, o2, e2, hb2⟩
  have bc2 := bcell hb2; obtain ⟨hc2, hf2⟩ := bc2; have ks2 := hb2.size; (try simp at ks2); (try (have jzw12 : w1.heap.size < w2.heap.size := (by have hh := hb2.size; (try simp at hh); omega); have jcw12 : ∀ o, w2.cell? ⟨w1.heap.size, o, none⟩ = _ := (fun o => hb2.cell (p := ⟨w1.heap.size, o, none⟩) (by (first | omega | (simp; omega) | simp))); have jfw12 : ∀ o, w2.frozen? ⟨w1.heap.size, o, none⟩ = _ := (fun o => hb2.frozen (p := ⟨w1.heap.size, o, none⟩) (by (first | omega | (simp; omega) | simp)))))
  have O2 := Lib.hid o2
  have T2 : tot S2 N ≤ 4194304 := by rw [tot_zero fun i hi => (e2 i hi).1]; omega
  have S21 : Hid (Sam N S2 S1) := Lib.hid fun i hi => ⟨(e2 i hi).1.trans (E1.out i hi).1.symm, (e2 i hi).2.trans (E1.out i hi).2.symm⟩
  clear o2 e2
  go_wp2_with fail
  refine (eqCabin_same x A2 A1 N c2 c1 S2 S1 _ hN T2 (O2.out.rdw.below (by (repeat (first | with_reducible exact Below.refl _ _ | with_reducible refine Below.drew ?_ | with_reducible refine below_drewN ?_ _ | (with_reducible refine bel_alloc ?_ ?_ _; (first | omega | (simp; omega) | simp)) | (with_reducible refine bel_set ?_ ?_ _; (first | omega | (simp; omega) | simp)) | (with_reducible refine bel_tr (by assumption) ?_ ?_; (first | omega | (simp; omega) | simp)))))) (O1.out.rdw.below (by (repeat (first | with_reducible exact Below.refl _ _ | with_reducible refine Below.drew ?_ | with_reducible refine below_drewN ?_ _ | (with_reducible refine bel_alloc ?_ ?_ _; (first | omega | (simp; omega) | simp)) | (with_reducible refine bel_set ?_ ?_ _; (first | omega | (simp; omega) | simp)) | (with_reducible refine bel_tr (by assumption) ?_ ?_; (first | omega | (simp; omega) | simp)))))) S21.out).mono ?_
  rintro y w3 ⟨rfl, hb3⟩
  have bc3 := bcell hb3; obtain ⟨hc3, hf3⟩ := bc3; have ks3 := hb3.size; (try simp at ks3); (try (have jzw13 : w1.heap.size < w3.heap.size := (by have hh := hb3.size; (try simp at hh); omega); have jcw13 : ∀ o, w3.cell? ⟨w1.heap.size, o, none⟩ = _ := (fun o => hb3.cell (p := ⟨w1.heap.size, o, none⟩) (by (first | omega | (simp; omega) | simp))); have jfw13 : ∀ o, w3.frozen? ⟨w1.heap.size, o, none⟩ = _ := (fun o => hb3.frozen (p := ⟨w1.heap.size, o, none⟩) (by (first | omega | (simp; omega) | simp))))); (try (have jzw23 : w2.heap.size < w3.heap.size := (by have hh := hb3.size; (try simp at hh); omega); have jcw23 : ∀ o, w3.cell? ⟨w2.heap.size, o, none⟩ = _ := (fun o => hb3.cell (p := ⟨w2.heap.size, o, none⟩) (by (first | omega | (simp; omega) | simp))); have jfw23 : ∀ o, w3.frozen? ⟨w2.heap.size, o, none⟩ = _ := (fun o => hb3.frozen (p := ⟨w2.heap.size, o, none⟩) (by (first | omega | (simp; omega) | simp)))))
  go_wp2_with fail
  refine (markCabin_any x _ _ A2 N c2 S2 _ hN T2 (O2.out.below (by (repeat (first | with_reducible exact Below.refl _ _ | with_reducible refine Below.drew ?_ | with_reducible refine below_drewN ?_ _ | (with_reducible refine bel_alloc ?_ ?_ _; (first | omega | (simp; omega) | simp)) | (with_reducible refine bel_set ?_ ?_ _; (first | omega | (simp; omega) | simp)) | (with_reducible refine bel_tr (by assumption) ?_ ?_; (first | omega | (simp; omega) | simp))))))).mono ?_
  rintro y w4 ⟨rfl, o4, m4⟩
  have K4 := Lib.hid o4
  clear o4
  have s4 := m4.size
  have k14 : ∀ o, w4.cell? ⟨w1.heap.size, o, none⟩ = _ := fun o => m4.cell (p := ⟨w1.heap.size, o, none⟩) (by (first | omega | (simp; omega) | simp)) (.inl (by (first | omega | (simp; omega) | simp)))
  have k24 : ∀ o, w4.cell? ⟨w2.heap.size, o, none⟩ = _ := fun o => m4.cell (p := ⟨w2.heap.size, o, none⟩) (by (first | omega | (simp; omega) | simp)) (.inr (by (first | omega | (simp; omega) | simp)))
  have z14 : w1.heap.size < w4.heap.size := by (first | omega | (simp; omega) | simp)
  have z24 : w2.heap.size < w4.heap.size := by (first | omega | (simp; omega) | simp)
  have b4 : Below w1.heap.size w3 w4 := m4.below (by (first | omega | (simp; omega) | simp)) (by (first | omega | (simp; omega) | simp))
  have Q1 := Lib.hid ((O1.out.below (w' := w3) (by (repeat (first | with_reducible exact Below.refl _ _ | with_reducible refine Below.drew ?_ | with_reducible refine below_drewN ?_ _ | (with_reducible refine bel_alloc ?_ ?_ _; (first | omega | (simp; omega) | simp)) | (with_reducible refine bel_set ?_ ?_ _; (first | omega | (simp; omega) | simp)) | (with_reducible refine bel_tr (by assumption) ?_ ?_; (first | omega | (simp; omega) | simp)))))).marked m4 (.inl (by (first | omega | (simp; omega) | simp))))
  clear m4
  have hq4 : ¬ (((1 + 2 * tot S2 N : Nat) : Nat) : Int) < 0 := by omega
  go_wp2_with fail
  refine (heldCabin_any x A2 N c2 S2 _ hN T2 K4.out.rdw).mono ?_
  rintro y w5 ⟨rfl, hb5⟩
  have bc5 := bcell hb5; obtain ⟨hc5, hf5⟩ := bc5; have ks5 := hb5.size; (try simp at ks5); (try (have jzw15 : w1.heap.size < w5.heap.size := (by have hh := hb5.size; (try simp at hh); omega); have jcw15 : ∀ o, w5.cell? ⟨w1.heap.size, o, none⟩ = _ := (fun o => hb5.cell (p := ⟨w1.heap.size, o, none⟩) (by (first | omega | (simp; omega) | simp))); have jfw15 : ∀ o, w5.frozen? ⟨w1.heap.size, o, none⟩ = _ := (fun o => hb5.frozen (p := ⟨w1.heap.size, o, none⟩) (by (first | omega | (simp; omega) | simp))))); (try (have jzw25 : w2.heap.size < w5.heap.size := (by have hh := hb5.size; (try simp at hh); omega); have jcw25 : ∀ o, w5.cell? ⟨w2.heap.size, o, none⟩ = _ := (fun o => hb5.cell (p := ⟨w2.heap.size, o, none⟩) (by (first | omega | (simp; omega) | simp))); have jfw25 : ∀ o, w5.frozen? ⟨w2.heap.size, o, none⟩ = _ := (fun o => hb5.frozen (p := ⟨w2.heap.size, o, none⟩) (by (first | omega | (simp; omega) | simp)))))
  go_wp2_with fail
  refine (iCabinNew_any t x N b _ HC.out).mono ?_
  rintro y w6 ⟨A6, c6, S6, rfl, o6, e6, hb6⟩
  have bc6 := bcell hb6; obtain ⟨hc6, hf6⟩ := bc6; have ks6 := hb6.size; (try simp at ks6); (try (have jzw16 : w1.heap.size < w6.heap.size := (by have hh := hb6.size; (try simp at hh); omega); have jcw16 : ∀ o, w6.cell? ⟨w1.heap.size, o, none⟩ = _ := (fun o => hb6.cell (p := ⟨w1.heap.size, o, none⟩) (by (first | omega | (simp; omega) | simp))); have jfw16 : ∀ o, w6.frozen? ⟨w1.heap.size, o, none⟩ = _ := (fun o => hb6.frozen (p := ⟨w1.heap.size, o, none⟩) (by (first | omega | (simp; omega) | simp))))); (try (have jzw26 : w2.heap.size < w6.heap.size := (by have hh := hb6.size; (try simp at hh); omega); have jcw26 : ∀ o, w6.cell? ⟨w2.heap.size, o, none⟩ = _ := (fun o => hb6.cell (p := ⟨w2.heap.size, o, none⟩) (by (first | omega | (simp; omega) | simp))); have jfw26 : ∀ o, w6.frozen? ⟨w2.heap.size, o, none⟩ = _ := (fun o => hb6.frozen (p := ⟨w2.heap.size, o, none⟩) (by (first | omega | (simp; omega) | simp)))))
  have O6 := Lib.hid o6
  have T6 : tot S6 N ≤ 4194304 := by rw [tot_zero fun i hi => (e6 i hi).1]; omega
  have S61 : Hid (Sam N S6 S1) := Lib.hid fun i hi => ⟨(e6 i hi).1.trans (E1.out i hi).1.symm, (e6 i hi).2.trans (E1.out i hi).2.symm⟩
  clear o6 e6
  go_wp2_with fail
  refine (eqCabin_same x A6 A1 N c6 c1 S6 S1 _ hN T6 (O6.out.rdw.below (by (repeat (first | with_reducible exact Below.refl _ _ | with_reducible refine Below.drew ?_ | with_reducible refine below_drewN ?_ _ | (with_reducible refine bel_alloc ?_ ?_ _; (first | omega | (simp; omega) | simp)) | (with_reducible refine bel_set ?_ ?_ _; (first | omega | (simp; omega) | simp)) | (with_reducible refine bel_tr (by assumption) ?_ ?_; (first | omega | (simp; omega) | simp)))))) (Q1.out.rdw.below (by (repeat (first | with_reducible exact Below.refl _ _ | with_reducible refine Below.drew ?_ | with_reducible refine below_drewN ?_ _ | (with_reducible refine bel_alloc ?_ ?_ _; (first | omega | (simp; omega) | simp)) | (with_reducible refine bel_set ?_ ?_ _; (first | omega | (simp; omega) | simp)) | (with_reducible refine bel_tr (by assumption) ?_ ?_; (first | omega | (simp; omega) | simp)))))) S61.out).mono ?_
  rintro y w7 ⟨rfl, hb7⟩
  have bc7 := bcell hb7; obtain ⟨hc7, hf7⟩ := bc7; have ks7 := hb7.size; (try simp at ks7); (try (have jzw17 : w1.heap.size < w7.heap.size := (by have hh := hb7.size; (try simp at hh); omega); have jcw17 : ∀ o, w7.cell? ⟨w1.heap.size, o, none⟩ = _ := (fun o => hb7.cell (p := ⟨w1.heap.size, o, none⟩) (by (first | omega | (simp; omega) | simp))); have jfw17 : ∀ o, w7.frozen? ⟨w1.heap.size, o, none⟩ = _ := (fun o => hb7.frozen (p := ⟨w1.heap.size, o, none⟩) (by (first | omega | (simp; omega) | simp))))); (try (have jzw27 : w2.heap.size < w7.heap.size := (by have hh := hb7.size; (try simp at hh); omega); have jcw27 : ∀ o, w7.cell? ⟨w2.heap.size, o, none⟩ = _ := (fun o => hb7.cell (p := ⟨w2.heap.size, o, none⟩) (by (first | omega | (simp; omega) | simp))); have jfw27 : ∀ o, w7.frozen? ⟨w2.heap.size, o, none⟩ = _ := (fun o => hb7.frozen (p := ⟨w2.heap.size, o, none⟩) (by (first | omega | (simp; omega) | simp)))))
  go_wp2_with fail
  refine (heldCabin_any x A2 N c2 S2 _ hN T2 (K4.out.rdw.below (by (repeat (first | with_reducible exact Below.refl _ _ | with_reducible refine Below.drew ?_ | with_reducible refine below_drewN ?_ _ | (with_reducible refine bel_alloc ?_ ?_ _; (first | omega | (simp; omega) | simp)) | (with_reducible refine bel_set ?_ ?_ _; (first | omega | (simp; omega) | simp)) | (with_reducible refine bel_tr (by assumption) ?_ ?_; (first | omega | (simp; omega) | simp))))))).mono ?_
  rintro y w8 ⟨rfl, hb8⟩
  go_wp2
  go_ret
  exact ⟨rfl, by (repeat (first | with_reducible exact Below.refl _ _ | with_reducible refine Below.drew ?_ | with_reducible refine below_drewN ?_ _ | (with_reducible refine bel_alloc ?_ ?_ _; (first | omega | (simp; omega) | simp)) | (with_reducible refine bel_set ?_ ?_ _; (first | omega | (simp; omega) | simp)) | (with_reducible refine bel_tr (by assumption) ?_ ?_; (first | omega | (simp; omega) | simp))))⟩
end Go.Proofs.Ytndgaandcmiinaa
