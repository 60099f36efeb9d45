/-
  The walk of the law on WheelOf. No conditions.
-/
import Derived.Test.YtndgaandcmiinaaWoi
import Derived.Test.YtndgaandcmiinaaWos
namespace Go.Proofs.Ytndgaandcmiinaa
open Go.RowKit

set_option maxRecDepth 100000 in
set_option maxHeartbeats 8000000 in
theorem lawWheelOf (A : Option Addr) (n c : Nat) (es : List (Nat → Int)) (w : World) (hn0 : n ≤ 9223372036854775807) (h : Rd w 2 A n es) :
    Calls Try.prog 7 #[.slice A n c] w fun y w' => y = .returned (.bool true) ∧ Below w.heap.size w w' := by
  obtain ⟨N, E, bv, hR⟩ := wofR_ex es n
  have hN4 : N ≤ 4194304 := by rcases hR with ⟨_, h1, _⟩ | ⟨_, h1, _⟩ <;> omega
  have HR := Lib.hid hR
  have H := Lib.hid h
  clear h hR
  by_cases hn : n ≤ 1048576
  · have hn4 : n ≤ 4194304 := by omega
    have hni : (n : Int) ≤ 1048576 := by omega
    go_enter Try.func7, Try.ntmps7
    go_wp2_with fail
    refine (szPinS_any A n c 1048576 _ hn0 (by omega) (by omega)).mono ?_
    rw [if_pos (by omega : (n : Int) ≤ 1048576)]
    rintro y w0 ⟨rfl, rfl⟩
    go_wp2_with fail
    refine (toPinS_n A n c es _ hn H.out).mono ?_
    rintro y w1 ⟨A1, rfl, o1, hb1⟩
    have bc1 := bcell hb1; obtain ⟨hc1, hf1⟩ := bc1; have ks1 := hb1.size; (try simp at ks1)
    have O1 := Lib.hid o1
    have I1 := Lib.hid o1.inB
    clear o1
    go_wp2_with fail
    refine (sWheelOf_any A1 n n N es E bv _ hn4 (O1.out.rd) HR.out).mono ?_
    rintro y w2 ⟨A2, c2, S2, rfl, o2, e2, t2, _, hb2⟩
    have bc2 := bcell hb2; obtain ⟨hc2, hf2⟩ := bc2; have ks2 := hb2.size; (try simp at ks2)
    have O2 := Lib.hid o2
    have E2 := Lib.hid e2
    have T2 : tot S2 N ≤ 4194304 := by omega
    clear o2 e2
    go_wp2_with fail
    refine (toPinS_n A n c es _ hn (H.out.below (by (repeat (first | with_reducible exact Below.refl _ _ | with_reducible refine Below.drew ?_ | with_reducible refine below_drewN ?_ _ | (with_reducible refine bel_alloc ?_ ?_ _; (first | omega | (simp; omega) | simp)) | (with_reducible refine bel_set ?_ ?_ _; (first | omega | (simp; omega) | simp)) | (with_reducible refine bel_tr (by assumption) ?_ ?_; (first | omega | (simp; omega) | simp))))))).mono ?_
    rintro y w3 ⟨A3, rfl, o3, hb3⟩
    have bc3 := bcell hb3; obtain ⟨hc3, hf3⟩ := bc3; have ks3 := hb3.size; (try simp at ks3); (try (have jzw23 : w2.heap.size < w3.heap.size := (by have hh := hb3.size; (try simp at hh); omega); have jcw23 : ∀ o, w3.cell? ⟨w2.heap.size, o, none⟩ = _ := (fun o => hb3.cell (p := ⟨w2.heap.size, o, none⟩) (by (first | omega | (simp; omega) | simp))); have jfw23 : ∀ o, w3.frozen? ⟨w2.heap.size, o, none⟩ = _ := (fun o => hb3.frozen (p := ⟨w2.heap.size, o, none⟩) (by (first | omega | (simp; omega) | simp)))))
    have O3 := Lib.hid o3
    have I3 := Lib.hid o3.inB
    clear o3
    go_wp2_with fail
    refine (iWheelOf_any A3 n n N es E bv _ hn4 (O3.out.rd) HR.out).mono ?_
    rintro y w4 ⟨A4, c4, S4, rfl, o4, e4, t4, _, hb4⟩
    have bc4 := bcell hb4; obtain ⟨hc4, hf4⟩ := bc4; have ks4 := hb4.size; (try simp at ks4); (try (have jzw24 : w2.heap.size < w4.heap.size := (by have hh := hb4.size; (try simp at hh); omega); have jcw24 : ∀ o, w4.cell? ⟨w2.heap.size, o, none⟩ = _ := (fun o => hb4.cell (p := ⟨w2.heap.size, o, none⟩) (by (first | omega | (simp; omega) | simp))); have jfw24 : ∀ o, w4.frozen? ⟨w2.heap.size, o, none⟩ = _ := (fun o => hb4.frozen (p := ⟨w2.heap.size, o, none⟩) (by (first | omega | (simp; omega) | simp)))))
    have O4 := Lib.hid o4
    have E4 := Lib.hid e4
    have T4 : tot S4 N ≤ 4194304 := by omega
    clear o4 e4
    have S42 : Hid (Sam N S4 S2) := Lib.hid (sam_es O4.out.rdw O2.out.rdw fun i hi => (E4.out i hi).trans (E2.out i hi).symm)
    go_wp2_with fail
    refine (eqWheel_same A4 A2 N c4 c2 S4 S2 _ hN4 T4 (O4.out.rdw.below (by (repeat (first | with_reducible exact Below.refl _ _ | with_reducible refine Below.drew ?_ | with_reducible refine below_drewN ?_ _ | (with_reducible refine bel_alloc ?_ ?_ _; (first | omega | (simp; omega) | simp)) | (with_reducible refine bel_set ?_ ?_ _; (first | omega | (simp; omega) | simp)) | (with_reducible refine bel_tr (by assumption) ?_ ?_; (first | omega | (simp; omega) | simp)))))) (O2.out.rdw.below (by (repeat (first | with_reducible exact Below.refl _ _ | with_reducible refine Below.drew ?_ | with_reducible refine below_drewN ?_ _ | (with_reducible refine bel_alloc ?_ ?_ _; (first | omega | (simp; omega) | simp)) | (with_reducible refine bel_set ?_ ?_ _; (first | omega | (simp; omega) | simp)) | (with_reducible refine bel_tr (by assumption) ?_ ?_; (first | omega | (simp; omega) | simp)))))) S42.out).mono ?_
    rintro y w5 ⟨rfl, hb5⟩
    have bc5 := bcell hb5; obtain ⟨hc5, hf5⟩ := bc5; have ks5 := hb5.size; (try simp at ks5); (try (have jzw25 : w2.heap.size < w5.heap.size := (by have hh := hb5.size; (try simp at hh); omega); have jcw25 : ∀ o, w5.cell? ⟨w2.heap.size, o, none⟩ = _ := (fun o => hb5.cell (p := ⟨w2.heap.size, o, none⟩) (by (first | omega | (simp; omega) | simp))); have jfw25 : ∀ o, w5.frozen? ⟨w2.heap.size, o, none⟩ = _ := (fun o => hb5.frozen (p := ⟨w2.heap.size, o, none⟩) (by (first | omega | (simp; omega) | simp))))); (try (have jzw45 : w4.heap.size < w5.heap.size := (by have hh := hb5.size; (try simp at hh); omega); have jcw45 : ∀ o, w5.cell? ⟨w4.heap.size, o, none⟩ = _ := (fun o => hb5.cell (p := ⟨w4.heap.size, o, none⟩) (by (first | omega | (simp; omega) | simp))); have jfw45 : ∀ o, w5.frozen? ⟨w4.heap.size, o, none⟩ = _ := (fun o => hb5.frozen (p := ⟨w4.heap.size, o, none⟩) (by (first | omega | (simp; omega) | simp)))))
    go_wp2_with fail
    refine (toPinS_n A n c es _ hn (H.out.below (by (repeat (first | with_reducible exact Below.refl _ _ | with_reducible refine Below.drew ?_ | with_reducible refine below_drewN ?_ _ | (with_reducible refine bel_alloc ?_ ?_ _; (first | omega | (simp; omega) | simp)) | (with_reducible refine bel_set ?_ ?_ _; (first | omega | (simp; omega) | simp)) | (with_reducible refine bel_tr (by assumption) ?_ ?_; (first | omega | (simp; omega) | simp))))))).mono ?_
    rintro y w6 ⟨A6, rfl, o6, hb6⟩
    have bc6 := bcell hb6; obtain ⟨hc6, hf6⟩ := bc6; have ks6 := hb6.size; (try simp at ks6); (try (have jzw26 : w2.heap.size < w6.heap.size := (by have hh := hb6.size; (try simp at hh); omega); have jcw26 : ∀ o, w6.cell? ⟨w2.heap.size, o, none⟩ = _ := (fun o => hb6.cell (p := ⟨w2.heap.size, o, none⟩) (by (first | omega | (simp; omega) | simp))); have jfw26 : ∀ o, w6.frozen? ⟨w2.heap.size, o, none⟩ = _ := (fun o => hb6.frozen (p := ⟨w2.heap.size, o, none⟩) (by (first | omega | (simp; omega) | simp))))); (try (have jzw46 : w4.heap.size < w6.heap.size := (by have hh := hb6.size; (try simp at hh); omega); have jcw46 : ∀ o, w6.cell? ⟨w4.heap.size, o, none⟩ = _ := (fun o => hb6.cell (p := ⟨w4.heap.size, o, none⟩) (by (first | omega | (simp; omega) | simp))); have jfw46 : ∀ o, w6.frozen? ⟨w4.heap.size, o, none⟩ = _ := (fun o => hb6.frozen (p := ⟨w4.heap.size, o, none⟩) (by (first | omega | (simp; omega) | simp)))))
    have O6 := Lib.hid o6
    have I6 := Lib.hid o6.inB
    clear o6
    go_wp2_with fail
    refine (eqPinS_same A3 A6 n n n es _ hn4 (O3.out.rd.below (by (repeat (first | with_reducible exact Below.refl _ _ | with_reducible refine Below.drew ?_ | with_reducible refine below_drewN ?_ _ | (with_reducible refine bel_alloc ?_ ?_ _; (first | omega | (simp; omega) | simp)) | (with_reducible refine bel_set ?_ ?_ _; (first | omega | (simp; omega) | simp)) | (with_reducible refine bel_tr (by assumption) ?_ ?_; (first | omega | (simp; omega) | simp)))))) O6.out.rd).mono ?_
    rintro y w7 ⟨rfl, hb7⟩
    have bc7 := bcell hb7; obtain ⟨hc7, hf7⟩ := bc7; have ks7 := hb7.size; (try simp at ks7); (try (have jzw27 : w2.heap.size < w7.heap.size := (by have hh := hb7.size; (try simp at hh); omega); have jcw27 : ∀ o, w7.cell? ⟨w2.heap.size, o, none⟩ = _ := (fun o => hb7.cell (p := ⟨w2.heap.size, o, none⟩) (by (first | omega | (simp; omega) | simp))); have jfw27 : ∀ o, w7.frozen? ⟨w2.heap.size, o, none⟩ = _ := (fun o => hb7.frozen (p := ⟨w2.heap.size, o, none⟩) (by (first | omega | (simp; omega) | simp))))); (try (have jzw47 : w4.heap.size < w7.heap.size := (by have hh := hb7.size; (try simp at hh); omega); have jcw47 : ∀ o, w7.cell? ⟨w4.heap.size, o, none⟩ = _ := (fun o => hb7.cell (p := ⟨w4.heap.size, o, none⟩) (by (first | omega | (simp; omega) | simp))); have jfw47 : ∀ o, w7.frozen? ⟨w4.heap.size, o, none⟩ = _ := (fun o => hb7.frozen (p := ⟨w4.heap.size, o, none⟩) (by (first | omega | (simp; omega) | simp)))))
    have sz7 : w2.heap.size + 1 ≤ w3.heap.size := by (first | omega | (simp; omega) | simp)
    go_wp2_with fail
    refine (markPinS_any (w2.heap.size + 1) A3 n n 1 es _ hn4 (by omega) ((O3.out.mono (by (first | omega | (simp; omega) | simp))).below (by (repeat (first | with_reducible exact Below.refl _ _ | with_reducible refine Below.drew ?_ | with_reducible refine below_drewN ?_ _ | (with_reducible refine bel_alloc ?_ ?_ _; (first | omega | (simp; omega) | simp)) | (with_reducible refine bel_set ?_ ?_ _; (first | omega | (simp; omega) | simp)) | (with_reducible refine bel_tr (by assumption) ?_ ?_; (first | omega | (simp; omega) | simp))))))).mono ?_
    rintro y w8 ⟨rfl, m8⟩
    have I3b : InB A3 n (w2.heap.size + 1) w3.heap.size := I3.out.imp id fun ⟨a, h1, h2, h3⟩ => ⟨a, h1, by (try simp at h2); omega, h3⟩
    have bt8 := m8.btw I3b
    have s8 := bt8.size
    have k28 : ∀ o, w8.cell? ⟨w2.heap.size, o, none⟩ = _ := fun o => World.cell?_of_block (bt8.block w2.heap.size (.inl (by omega)))
    have k48 : ∀ o, w8.cell? ⟨w4.heap.size, o, none⟩ = _ := fun o => World.cell?_of_block (bt8.block w4.heap.size (.inr (by (first | omega | (simp; omega) | simp))))
    have z28 : w2.heap.size < w8.heap.size := by (first | omega | (simp; omega) | simp)
    have z48 : w4.heap.size < w8.heap.size := by (first | omega | (simp; omega) | simp)
    have b8 : Below (w2.heap.size + 1) w7 w8 := bt8.below (Nat.le_refl _)
    have P2 := Lib.hid ((O2.out.below (w' := w7) (by (repeat (first | with_reducible exact Below.refl _ _ | with_reducible refine Below.drew ?_ | with_reducible refine below_drewN ?_ _ | (with_reducible refine bel_alloc ?_ ?_ _; (first | omega | (simp; omega) | simp)) | (with_reducible refine bel_set ?_ ?_ _; (first | omega | (simp; omega) | simp)) | (with_reducible refine bel_tr (by assumption) ?_ ?_; (first | omega | (simp; omega) | simp)))))).btw bt8 (.inl (by omega)))
    have P4 := Lib.hid ((O4.out.below (w' := w7) (by (repeat (first | with_reducible exact Below.refl _ _ | with_reducible refine Below.drew ?_ | with_reducible refine below_drewN ?_ _ | (with_reducible refine bel_alloc ?_ ?_ _; (first | omega | (simp; omega) | simp)) | (with_reducible refine bel_set ?_ ?_ _; (first | omega | (simp; omega) | simp)) | (with_reducible refine bel_tr (by assumption) ?_ ?_; (first | omega | (simp; omega) | simp)))))).btw bt8 (.inr (by (first | omega | (simp; omega) | simp))))
    clear bt8 m8
    have hq8 : ¬ (((1 + n * 2 : Nat) : Nat) : Int) < 0 := by omega
    go_wp2_with fail
    refine (eqWheel_same A4 A2 N c4 c2 S4 S2 _ hN4 T4 P4.out.rdw P2.out.rdw S42.out).mono ?_
    rintro y w9 ⟨rfl, hb9⟩
    have bc9 := bcell hb9; obtain ⟨hc9, hf9⟩ := bc9; have ks9 := hb9.size; (try simp at ks9); (try (have jzw29 : w2.heap.size < w9.heap.size := (by have hh := hb9.size; (try simp at hh); omega); have jcw29 : ∀ o, w9.cell? ⟨w2.heap.size, o, none⟩ = _ := (fun o => hb9.cell (p := ⟨w2.heap.size, o, none⟩) (by (first | omega | (simp; omega) | simp))); have jfw29 : ∀ o, w9.frozen? ⟨w2.heap.size, o, none⟩ = _ := (fun o => hb9.frozen (p := ⟨w2.heap.size, o, none⟩) (by (first | omega | (simp; omega) | simp))))); (try (have jzw49 : w4.heap.size < w9.heap.size := (by have hh := hb9.size; (try simp at hh); omega); have jcw49 : ∀ o, w9.cell? ⟨w4.heap.size, o, none⟩ = _ := (fun o => hb9.cell (p := ⟨w4.heap.size, o, none⟩) (by (first | omega | (simp; omega) | simp))); have jfw49 : ∀ o, w9.frozen? ⟨w4.heap.size, o, none⟩ = _ := (fun o => hb9.frozen (p := ⟨w4.heap.size, o, none⟩) (by (first | omega | (simp; omega) | simp)))))
    go_wp2_with fail
    refine (markWheel_any _ _ A4 N c4 1 S4 _ hN4 T4 (by omega) (P4.out.below (by (repeat (first | with_reducible exact Below.refl _ _ | with_reducible refine Below.drew ?_ | with_reducible refine below_drewN ?_ _ | (with_reducible refine bel_alloc ?_ ?_ _; (first | omega | (simp; omega) | simp)) | (with_reducible refine bel_set ?_ ?_ _; (first | omega | (simp; omega) | simp)) | (with_reducible refine bel_tr (by assumption) ?_ ?_; (first | omega | (simp; omega) | simp))))))).mono ?_
    rintro y w10 ⟨rfl, o10, m10⟩
    have K4 := Lib.hid o10
    clear o10
    have s10 := m10.size
    have k210 : ∀ o, w10.cell? ⟨w2.heap.size, o, none⟩ = _ := fun o => m10.cell (p := ⟨w2.heap.size, o, none⟩) (by (first | omega | (simp; omega) | simp)) (.inl (by (first | omega | (simp; omega) | simp)))
    have k410 : ∀ o, w10.cell? ⟨w4.heap.size, o, none⟩ = _ := fun o => m10.cell (p := ⟨w4.heap.size, o, none⟩) (by (first | omega | (simp; omega) | simp)) (.inr (by (first | omega | (simp; omega) | simp)))
    have z210 : w2.heap.size < w10.heap.size := by omega
    have z410 : w4.heap.size < w10.heap.size := by omega
    have b10 : Below (w2.heap.size + 1) w9 w10 := m10.below (by (first | omega | (simp; omega) | simp)) (by (first | omega | (simp; omega) | simp))
    have Q2 := Lib.hid ((P2.out.below (w' := w9) (by (repeat (first | with_reducible exact Below.refl _ _ | with_reducible refine Below.drew ?_ | with_reducible refine below_drewN ?_ _ | (with_reducible refine bel_alloc ?_ ?_ _; (first | omega | (simp; omega) | simp)) | (with_reducible refine bel_set ?_ ?_ _; (first | omega | (simp; omega) | simp)) | (with_reducible refine bel_tr (by assumption) ?_ ?_; (first | omega | (simp; omega) | simp)))))).marked m10 (.inl (by (first | omega | (simp; omega) | simp))))
    clear m10
    have hq10 : ¬ (((1 + 2 * tot S4 N : Nat) : Nat) : Int) < 0 := by omega
    go_wp2_with fail
    refine (heldWheel_any A4 N c4 1 S4 _ hN4 T4 (by omega) K4.out.rdw).mono ?_
    rintro y w11 ⟨rfl, hb11⟩
    have bc11 := bcell hb11; obtain ⟨hc11, hf11⟩ := bc11; have ks11 := hb11.size; (try simp at ks11); (try (have jzw211 : w2.heap.size < w11.heap.size := (by have hh := hb11.size; (try simp at hh); omega); have jcw211 : ∀ o, w11.cell? ⟨w2.heap.size, o, none⟩ = _ := (fun o => hb11.cell (p := ⟨w2.heap.size, o, none⟩) (by (first | omega | (simp; omega) | simp))); have jfw211 : ∀ o, w11.frozen? ⟨w2.heap.size, o, none⟩ = _ := (fun o => hb11.frozen (p := ⟨w2.heap.size, o, none⟩) (by (first | omega | (simp; omega) | simp))))); (try (have jzw411 : w4.heap.size < w11.heap.size := (by have hh := hb11.size; (try simp at hh); omega); have jcw411 : ∀ o, w11.cell? ⟨w4.heap.size, o, none⟩ = _ := (fun o => hb11.cell (p := ⟨w4.heap.size, o, none⟩) (by (first | omega | (simp; omega) | simp))); have jfw411 : ∀ o, w11.frozen? ⟨w4.heap.size, o, none⟩ = _ := (fun o => hb11.frozen (p := ⟨w4.heap.size, o, none⟩) (by (first | omega | (simp; omega) | simp)))))
    go_wp2_with fail
    refine (toPinS_n A n c es _ hn (H.out.below (by (repeat (first | with_reducible exact Below.refl _ _ | with_reducible refine Below.drew ?_ | with_reducible refine below_drewN ?_ _ | (with_reducible refine bel_alloc ?_ ?_ _; (first | omega | (simp; omega) | simp)) | (with_reducible refine bel_set ?_ ?_ _; (first | omega | (simp; omega) | simp)) | (with_reducible refine bel_tr (by assumption) ?_ ?_; (first | omega | (simp; omega) | simp))))))).mono ?_
    rintro y w12 ⟨A12, rfl, o12, hb12⟩
    have bc12 := bcell hb12; obtain ⟨hc12, hf12⟩ := bc12; have ks12 := hb12.size; (try simp at ks12); (try (have jzw212 : w2.heap.size < w12.heap.size := (by have hh := hb12.size; (try simp at hh); omega); have jcw212 : ∀ o, w12.cell? ⟨w2.heap.size, o, none⟩ = _ := (fun o => hb12.cell (p := ⟨w2.heap.size, o, none⟩) (by (first | omega | (simp; omega) | simp))); have jfw212 : ∀ o, w12.frozen? ⟨w2.heap.size, o, none⟩ = _ := (fun o => hb12.frozen (p := ⟨w2.heap.size, o, none⟩) (by (first | omega | (simp; omega) | simp))))); (try (have jzw412 : w4.heap.size < w12.heap.size := (by have hh := hb12.size; (try simp at hh); omega); have jcw412 : ∀ o, w12.cell? ⟨w4.heap.size, o, none⟩ = _ := (fun o => hb12.cell (p := ⟨w4.heap.size, o, none⟩) (by (first | omega | (simp; omega) | simp))); have jfw412 : ∀ o, w12.frozen? ⟨w4.heap.size, o, none⟩ = _ := (fun o => hb12.frozen (p := ⟨w4.heap.size, o, none⟩) (by (first | omega | (simp; omega) | simp)))))
    have O12 := Lib.hid o12
    have I12 := Lib.hid o12.inB
    clear o12
    go_wp2_with fail
    refine (iWheelOf_any A12 n n N es E bv _ hn4 (O12.out.rd) HR.out).mono ?_
    rintro y w13 ⟨A13, c13, S13, rfl, o13, e13, t13, _, hb13⟩
    have bc13 := bcell hb13; obtain ⟨hc13, hf13⟩ := bc13; have ks13 := hb13.size; (try simp at ks13); (try (have jzw213 : w2.heap.size < w13.heap.size := (by have hh := hb13.size; (try simp at hh); omega); have jcw213 : ∀ o, w13.cell? ⟨w2.heap.size, o, none⟩ = _ := (fun o => hb13.cell (p := ⟨w2.heap.size, o, none⟩) (by (first | omega | (simp; omega) | simp))); have jfw213 : ∀ o, w13.frozen? ⟨w2.heap.size, o, none⟩ = _ := (fun o => hb13.frozen (p := ⟨w2.heap.size, o, none⟩) (by (first | omega | (simp; omega) | simp))))); (try (have jzw413 : w4.heap.size < w13.heap.size := (by have hh := hb13.size; (try simp at hh); omega); have jcw413 : ∀ o, w13.cell? ⟨w4.heap.size, o, none⟩ = _ := (fun o => hb13.cell (p := ⟨w4.heap.size, o, none⟩) (by (first | omega | (simp; omega) | simp))); have jfw413 : ∀ o, w13.frozen? ⟨w4.heap.size, o, none⟩ = _ := (fun o => hb13.frozen (p := ⟨w4.heap.size, o, none⟩) (by (first | omega | (simp; omega) | simp)))))
    have O13 := Lib.hid o13
    have E13 := Lib.hid e13
    have T13 : tot S13 N ≤ 4194304 := by omega
    clear o13 e13
    have S132 : Hid (Sam N S13 S2) := Lib.hid (sam_es O13.out.rdw Q2.out.rdw fun i hi => (E13.out i hi).trans (E2.out i hi).symm)
    go_wp2_with fail
    refine (eqWheel_same A13 A2 N c13 c2 S13 S2 _ hN4 T13 (O13.out.rdw.below (by (repeat (first | with_reducible exact Below.refl _ _ | with_reducible refine Below.drew ?_ | with_reducible refine below_drewN ?_ _ | (with_reducible refine bel_alloc ?_ ?_ _; (first | omega | (simp; omega) | simp)) | (with_reducible refine bel_set ?_ ?_ _; (first | omega | (simp; omega) | simp)) | (with_reducible refine bel_tr (by assumption) ?_ ?_; (first | omega | (simp; omega) | simp)))))) (Q2.out.rdw.below (by (repeat (first | with_reducible exact Below.refl _ _ | with_reducible refine Below.drew ?_ | with_reducible refine below_drewN ?_ _ | (with_reducible refine bel_alloc ?_ ?_ _; (first | omega | (simp; omega) | simp)) | (with_reducible refine bel_set ?_ ?_ _; (first | omega | (simp; omega) | simp)) | (with_reducible refine bel_tr (by assumption) ?_ ?_; (first | omega | (simp; omega) | simp)))))) S132.out).mono ?_
    rintro y w14 ⟨rfl, hb14⟩
    have bc14 := bcell hb14; obtain ⟨hc14, hf14⟩ := bc14; have ks14 := hb14.size; (try simp at ks14); (try (have jzw214 : w2.heap.size < w14.heap.size := (by have hh := hb14.size; (try simp at hh); omega); have jcw214 : ∀ o, w14.cell? ⟨w2.heap.size, o, none⟩ = _ := (fun o => hb14.cell (p := ⟨w2.heap.size, o, none⟩) (by (first | omega | (simp; omega) | simp))); have jfw214 : ∀ o, w14.frozen? ⟨w2.heap.size, o, none⟩ = _ := (fun o => hb14.frozen (p := ⟨w2.heap.size, o, none⟩) (by (first | omega | (simp; omega) | simp))))); (try (have jzw414 : w4.heap.size < w14.heap.size := (by have hh := hb14.size; (try simp at hh); omega); have jcw414 : ∀ o, w14.cell? ⟨w4.heap.size, o, none⟩ = _ := (fun o => hb14.cell (p := ⟨w4.heap.size, o, none⟩) (by (first | omega | (simp; omega) | simp))); have jfw414 : ∀ o, w14.frozen? ⟨w4.heap.size, o, none⟩ = _ := (fun o => hb14.frozen (p := ⟨w4.heap.size, o, none⟩) (by (first | omega | (simp; omega) | simp)))))
    go_wp2_with fail
    refine (heldWheel_any A4 N c4 1 S4 _ hN4 T4 (by omega) (K4.out.rdw.below (by (repeat (first | with_reducible exact Below.refl _ _ | with_reducible refine Below.drew ?_ | with_reducible refine below_drewN ?_ _ | (with_reducible refine bel_alloc ?_ ?_ _; (first | omega | (simp; omega) | simp)) | (with_reducible refine bel_set ?_ ?_ _; (first | omega | (simp; omega) | simp)) | (with_reducible refine bel_tr (by assumption) ?_ ?_; (first | omega | (simp; omega) | simp))))))).mono ?_
    rintro y w15 ⟨rfl, hb15⟩
    go_wp2
    go_ret
    exact ⟨rfl, by (repeat (first | with_reducible exact Below.refl _ _ | with_reducible refine Below.drew ?_ | with_reducible refine below_drewN ?_ _ | (with_reducible refine bel_alloc ?_ ?_ _; (first | omega | (simp; omega) | simp)) | (with_reducible refine bel_set ?_ ?_ _; (first | omega | (simp; omega) | simp)) | (with_reducible refine bel_tr (by assumption) ?_ ?_; (first | omega | (simp; omega) | simp))))⟩
  · have hni : ¬ (n : Int) ≤ 1048576 := by omega
    go_enter Try.func7, Try.ntmps7
    go_wp2_with fail
    refine (szPinS_any A n c 1048576 _ hn0 (by omega) (by omega)).mono ?_
    rw [if_neg (by omega : ¬ (n : Int) ≤ 1048576)]
    rintro y w0 ⟨rfl, rfl⟩
    go_wp2
    go_ret
    exact ⟨rfl, Below.refl _ _⟩
end Go.Proofs.Ytndgaandcmiinaa
