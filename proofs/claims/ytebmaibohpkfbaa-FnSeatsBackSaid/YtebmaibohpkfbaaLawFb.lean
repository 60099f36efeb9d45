/-
  Walk of the law FnSeatsBack: it returns true and leaves old memory alone.
-/
import Derived.Test.YtebmaibohpkfbaaLawsM
import Derived.Test.YtebmaibohpkfbaaDl
namespace Go.Proofs.Ytebmaibohpkfbaa
open Go.RowKit

set_option maxRecDepth 100000 in
set_option maxHeartbeats 16000000 in
theorem lawFnSeatsBack (A : Option Addr) (n c : Nat) (w : World) (hn0 : n ≤ 9223372036854775807) (hB : RdB w A n) :
    Calls Try.prog 4 #[.slice A n c] w fun y w' => y = .returned (.bool true) ∧ Below w.heap.size w w' := by
  by_cases hn : n ≤ 1048576
  case neg =>
    have hbig : decide (1048576 < n) = true := by simp; omega
    go_enter Try.func4, Try.ntmps4
    go_wp2_with fail
    refine (big_any A n c _).mono ?_
    rintro y _ ⟨rfl, rfl⟩
    go_wp2
    go_ret
    exact ⟨rfl, Below.refl _ _⟩
  have hB2 := Lib.hid hB
  clear hB
  have hbig : decide (1048576 < n) = false := by simpa using hn
  go_enter Try.func4, Try.ntmps4
  go_wp2_with fail
  refine (big_any A n c _).mono ?_
  rintro y _ ⟨rfl, rfl⟩
  go_wp2_with fail
  refine (drawHold_any A n c _ hn hB2.out).mono ?_
  rintro y w1 ⟨e, x, rfl, b1⟩
  have s1 := b1.size
  generalize e 0 = t
  generalize e 1 = f
  generalize e 2 = h
  generalize e 3 = s
  generalize e 4 = d
  clear e hB2
  by_cases hH : LOk t f h s d ∧ (0 ≤ x ∧ x ≤ 60) ∧ LOk t (f - x) (h + x) s d
  · skip
    by_cases hS : LOk t f h s d ∧ (0 ≤ x ∧ x ≤ 60) ∧ LOk t f (h - x) (s + x) d
    · skip
      by_cases hT : LOk t f h s d ∧ (0 ≤ x ∧ x ≤ 60) ∧ LOk t f h s (d + x)
      · skip
        have hH2 : LOk t (f - x) (h + x) s d ∧ (0 ≤ x ∧ x ≤ 60) ∧ LOk t (f - x + x) (h + x - x) s d := ⟨hH.2.2, hH.2.1, by have := hH.1; unfold LOk at *; omega⟩
        have hT2 : LOk t f h s (d + x) ∧ (0 ≤ x ∧ x ≤ 60) ∧ LOk t f h s (d + x - x) := ⟨hT.2.2, hT.2.1, by have := hT.1; unfold LOk at *; omega⟩
        have hS2 : LOk t f (h - x) (s + x) d ∧ (0 ≤ x ∧ x ≤ 60) ∧ LOk t (f + x) (h - x) (s + x - x) d := ⟨hS.2.2, hS.2.1, by have := hS.1; have := hS.2; unfold LOk at *; omega⟩
        have hw1 : wrap64 (f + x) = f + x := by have := hS.1; have := hS.2.1; unfold LOk at *; unfold wrap64; omega
        have hw2 : wrap64 (h - x) = h - x := by have := hS.1; have := hS.2.1; unfold LOk at *; unfold wrap64; omega
        go_wp2_with fail
        refine (my (impl_Hold t f h s d x _) hH).mono ?_
        rintro y w2 ⟨rfl, b2⟩
        simp only [List.map_cons, List.map_nil]
        have s2 := b2.size
        (try simp at s2)
        have kc2_0 : ∀ o, w2.cell? ⟨w1.heap.size, o, none⟩ = _ := fun o => b2.cell (p := ⟨w1.heap.size, o, none⟩) (by (first | omega | (simp; omega) | simp))
        have kz2_0 : w1.heap.size < w2.heap.size := by omega
        have ky2_0 : ¬ w1.heap.size = w2.heap.size := by omega
        have kx2_0 : ¬ w2.heap.size = w1.heap.size := by omega
        go_wp2_with fail
        refine (my (impl_Sell t f h s d x _) hS).mono ?_
        rintro y w3 ⟨rfl, b3⟩
        simp only [List.map_cons, List.map_nil]
        have s3 := b3.size
        (try simp at s3)
        have kc3_0 : ∀ o, w3.cell? ⟨w1.heap.size, o, none⟩ = _ := fun o => b3.cell (p := ⟨w1.heap.size, o, none⟩) (by (first | omega | (simp; omega) | simp))
        have kc3_1 : ∀ o, w3.cell? ⟨w2.heap.size, o, none⟩ = _ := fun o => b3.cell (p := ⟨w2.heap.size, o, none⟩) (by (first | omega | (simp; omega) | simp))
        have kz3_0 : w1.heap.size < w3.heap.size := by omega
        have ky3_0 : ¬ w1.heap.size = w3.heap.size := by omega
        have kx3_0 : ¬ w3.heap.size = w1.heap.size := by omega
        have kz3_1 : w2.heap.size < w3.heap.size := by omega
        have ky3_1 : ¬ w2.heap.size = w3.heap.size := by omega
        have kx3_1 : ¬ w3.heap.size = w2.heap.size := by omega
        go_wp2_with fail
        refine (my (impl_Tie t f h s d x _) hT).mono ?_
        rintro y w4 ⟨rfl, b4⟩
        simp only [List.map_cons, List.map_nil]
        have s4 := b4.size
        (try simp at s4)
        have kc4_0 : ∀ o, w4.cell? ⟨w1.heap.size, o, none⟩ = _ := fun o => b4.cell (p := ⟨w1.heap.size, o, none⟩) (by (first | omega | (simp; omega) | simp))
        have kc4_1 : ∀ o, w4.cell? ⟨w2.heap.size, o, none⟩ = _ := fun o => b4.cell (p := ⟨w2.heap.size, o, none⟩) (by (first | omega | (simp; omega) | simp))
        have kc4_2 : ∀ o, w4.cell? ⟨w3.heap.size, o, none⟩ = _ := fun o => b4.cell (p := ⟨w3.heap.size, o, none⟩) (by (first | omega | (simp; omega) | simp))
        have kz4_0 : w1.heap.size < w4.heap.size := by omega
        have ky4_0 : ¬ w1.heap.size = w4.heap.size := by omega
        have kx4_0 : ¬ w4.heap.size = w1.heap.size := by omega
        have kz4_1 : w2.heap.size < w4.heap.size := by omega
        have ky4_1 : ¬ w2.heap.size = w4.heap.size := by omega
        have kx4_1 : ¬ w4.heap.size = w2.heap.size := by omega
        have kz4_2 : w3.heap.size < w4.heap.size := by omega
        have ky4_2 : ¬ w3.heap.size = w4.heap.size := by omega
        have kx4_2 : ¬ w4.heap.size = w3.heap.size := by omega
        go_wp2_with fail
        refine (my (spec_Hold t f h s d x _) hH).mono ?_
        rintro y w5 ⟨rfl, b5⟩
        simp only [List.map_cons, List.map_nil]
        have s5 := b5.size
        (try simp at s5)
        have kc5_0 : ∀ o, w5.cell? ⟨w1.heap.size, o, none⟩ = _ := fun o => b5.cell (p := ⟨w1.heap.size, o, none⟩) (by (first | omega | (simp; omega) | simp))
        have kc5_1 : ∀ o, w5.cell? ⟨w2.heap.size, o, none⟩ = _ := fun o => b5.cell (p := ⟨w2.heap.size, o, none⟩) (by (first | omega | (simp; omega) | simp))
        have kc5_2 : ∀ o, w5.cell? ⟨w3.heap.size, o, none⟩ = _ := fun o => b5.cell (p := ⟨w3.heap.size, o, none⟩) (by (first | omega | (simp; omega) | simp))
        have kc5_3 : ∀ o, w5.cell? ⟨w4.heap.size, o, none⟩ = _ := fun o => b5.cell (p := ⟨w4.heap.size, o, none⟩) (by (first | omega | (simp; omega) | simp))
        have kz5_0 : w1.heap.size < w5.heap.size := by omega
        have ky5_0 : ¬ w1.heap.size = w5.heap.size := by omega
        have kx5_0 : ¬ w5.heap.size = w1.heap.size := by omega
        have kz5_1 : w2.heap.size < w5.heap.size := by omega
        have ky5_1 : ¬ w2.heap.size = w5.heap.size := by omega
        have kx5_1 : ¬ w5.heap.size = w2.heap.size := by omega
        have kz5_2 : w3.heap.size < w5.heap.size := by omega
        have ky5_2 : ¬ w3.heap.size = w5.heap.size := by omega
        have kx5_2 : ¬ w5.heap.size = w3.heap.size := by omega
        have kz5_3 : w4.heap.size < w5.heap.size := by omega
        have ky5_3 : ¬ w4.heap.size = w5.heap.size := by omega
        have kx5_3 : ¬ w5.heap.size = w4.heap.size := by omega
        go_wp2_with fail
        refine (my (spec_Sell t f h s d x _) hS).mono ?_
        rintro y w6 ⟨rfl, b6⟩
        simp only [List.map_cons, List.map_nil]
        have s6 := b6.size
        (try simp at s6)
        have kc6_0 : ∀ o, w6.cell? ⟨w1.heap.size, o, none⟩ = _ := fun o => b6.cell (p := ⟨w1.heap.size, o, none⟩) (by (first | omega | (simp; omega) | simp))
        have kc6_1 : ∀ o, w6.cell? ⟨w2.heap.size, o, none⟩ = _ := fun o => b6.cell (p := ⟨w2.heap.size, o, none⟩) (by (first | omega | (simp; omega) | simp))
        have kc6_2 : ∀ o, w6.cell? ⟨w3.heap.size, o, none⟩ = _ := fun o => b6.cell (p := ⟨w3.heap.size, o, none⟩) (by (first | omega | (simp; omega) | simp))
        have kc6_3 : ∀ o, w6.cell? ⟨w4.heap.size, o, none⟩ = _ := fun o => b6.cell (p := ⟨w4.heap.size, o, none⟩) (by (first | omega | (simp; omega) | simp))
        have kz6_0 : w1.heap.size < w6.heap.size := by omega
        have ky6_0 : ¬ w1.heap.size = w6.heap.size := by omega
        have kx6_0 : ¬ w6.heap.size = w1.heap.size := by omega
        have kz6_1 : w2.heap.size < w6.heap.size := by omega
        have ky6_1 : ¬ w2.heap.size = w6.heap.size := by omega
        have kx6_1 : ¬ w6.heap.size = w2.heap.size := by omega
        have kz6_2 : w3.heap.size < w6.heap.size := by omega
        have ky6_2 : ¬ w3.heap.size = w6.heap.size := by omega
        have kx6_2 : ¬ w6.heap.size = w3.heap.size := by omega
        have kz6_3 : w4.heap.size < w6.heap.size := by omega
        have ky6_3 : ¬ w4.heap.size = w6.heap.size := by omega
        have kx6_3 : ¬ w6.heap.size = w4.heap.size := by omega
        go_wp2_with fail
        refine (my (spec_Tie t f h s d x _) hT).mono ?_
        rintro y w7 ⟨rfl, b7⟩
        simp only [List.map_cons, List.map_nil]
        have s7 := b7.size
        (try simp at s7)
        have kc7_0 : ∀ o, w7.cell? ⟨w1.heap.size, o, none⟩ = _ := fun o => b7.cell (p := ⟨w1.heap.size, o, none⟩) (by (first | omega | (simp; omega) | simp))
        have kc7_1 : ∀ o, w7.cell? ⟨w2.heap.size, o, none⟩ = _ := fun o => b7.cell (p := ⟨w2.heap.size, o, none⟩) (by (first | omega | (simp; omega) | simp))
        have kc7_2 : ∀ o, w7.cell? ⟨w3.heap.size, o, none⟩ = _ := fun o => b7.cell (p := ⟨w3.heap.size, o, none⟩) (by (first | omega | (simp; omega) | simp))
        have kc7_3 : ∀ o, w7.cell? ⟨w4.heap.size, o, none⟩ = _ := fun o => b7.cell (p := ⟨w4.heap.size, o, none⟩) (by (first | omega | (simp; omega) | simp))
        have kz7_0 : w1.heap.size < w7.heap.size := by omega
        have ky7_0 : ¬ w1.heap.size = w7.heap.size := by omega
        have kx7_0 : ¬ w7.heap.size = w1.heap.size := by omega
        have kz7_1 : w2.heap.size < w7.heap.size := by omega
        have ky7_1 : ¬ w2.heap.size = w7.heap.size := by omega
        have kx7_1 : ¬ w7.heap.size = w2.heap.size := by omega
        have kz7_2 : w3.heap.size < w7.heap.size := by omega
        have ky7_2 : ¬ w3.heap.size = w7.heap.size := by omega
        have kx7_2 : ¬ w7.heap.size = w3.heap.size := by omega
        have kz7_3 : w4.heap.size < w7.heap.size := by omega
        have ky7_3 : ¬ w4.heap.size = w7.heap.size := by omega
        have kx7_3 : ¬ w7.heap.size = w4.heap.size := by omega
        go_wp2_with fail
        refine (my (impl_Drop t (f - x) (h + x) s d x _) hH2).mono ?_
        rintro y w8 ⟨rfl, b8⟩
        simp only [List.map_cons, List.map_nil]
        have s8 := b8.size
        (try simp at s8)
        have kc8_0 : ∀ o, w8.cell? ⟨w1.heap.size, o, none⟩ = _ := fun o => b8.cell (p := ⟨w1.heap.size, o, none⟩) (by (first | omega | (simp; omega) | simp))
        have kc8_1 : ∀ o, w8.cell? ⟨w2.heap.size, o, none⟩ = _ := fun o => b8.cell (p := ⟨w2.heap.size, o, none⟩) (by (first | omega | (simp; omega) | simp))
        have kc8_2 : ∀ o, w8.cell? ⟨w3.heap.size, o, none⟩ = _ := fun o => b8.cell (p := ⟨w3.heap.size, o, none⟩) (by (first | omega | (simp; omega) | simp))
        have kc8_3 : ∀ o, w8.cell? ⟨w4.heap.size, o, none⟩ = _ := fun o => b8.cell (p := ⟨w4.heap.size, o, none⟩) (by (first | omega | (simp; omega) | simp))
        have kz8_0 : w1.heap.size < w8.heap.size := by omega
        have ky8_0 : ¬ w1.heap.size = w8.heap.size := by omega
        have kx8_0 : ¬ w8.heap.size = w1.heap.size := by omega
        have kz8_1 : w2.heap.size < w8.heap.size := by omega
        have ky8_1 : ¬ w2.heap.size = w8.heap.size := by omega
        have kx8_1 : ¬ w8.heap.size = w2.heap.size := by omega
        have kz8_2 : w3.heap.size < w8.heap.size := by omega
        have ky8_2 : ¬ w3.heap.size = w8.heap.size := by omega
        have kx8_2 : ¬ w8.heap.size = w3.heap.size := by omega
        have kz8_3 : w4.heap.size < w8.heap.size := by omega
        have ky8_3 : ¬ w4.heap.size = w8.heap.size := by omega
        have kx8_3 : ¬ w8.heap.size = w4.heap.size := by omega
        go_wp2_with fail
        refine (my (impl_Untie t f h s (d + x) x _) hT2).mono ?_
        rintro y w9 ⟨rfl, b9⟩
        simp only [List.map_cons, List.map_nil]
        have s9 := b9.size
        (try simp at s9)
        have kc9_0 : ∀ o, w9.cell? ⟨w1.heap.size, o, none⟩ = _ := fun o => b9.cell (p := ⟨w1.heap.size, o, none⟩) (by (first | omega | (simp; omega) | simp))
        have kc9_1 : ∀ o, w9.cell? ⟨w2.heap.size, o, none⟩ = _ := fun o => b9.cell (p := ⟨w2.heap.size, o, none⟩) (by (first | omega | (simp; omega) | simp))
        have kc9_2 : ∀ o, w9.cell? ⟨w3.heap.size, o, none⟩ = _ := fun o => b9.cell (p := ⟨w3.heap.size, o, none⟩) (by (first | omega | (simp; omega) | simp))
        have kc9_3 : ∀ o, w9.cell? ⟨w4.heap.size, o, none⟩ = _ := fun o => b9.cell (p := ⟨w4.heap.size, o, none⟩) (by (first | omega | (simp; omega) | simp))
        have kz9_0 : w1.heap.size < w9.heap.size := by omega
        have ky9_0 : ¬ w1.heap.size = w9.heap.size := by omega
        have kx9_0 : ¬ w9.heap.size = w1.heap.size := by omega
        have kz9_1 : w2.heap.size < w9.heap.size := by omega
        have ky9_1 : ¬ w2.heap.size = w9.heap.size := by omega
        have kx9_1 : ¬ w9.heap.size = w2.heap.size := by omega
        have kz9_2 : w3.heap.size < w9.heap.size := by omega
        have ky9_2 : ¬ w3.heap.size = w9.heap.size := by omega
        have kx9_2 : ¬ w9.heap.size = w3.heap.size := by omega
        have kz9_3 : w4.heap.size < w9.heap.size := by omega
        have ky9_3 : ¬ w4.heap.size = w9.heap.size := by omega
        have kx9_3 : ¬ w9.heap.size = w4.heap.size := by omega
        go_wp2_with fail
        refine (my (impl_Free t f (h - x) (s + x) d x _) hS2).mono ?_
        rintro y w10 ⟨rfl, b10⟩
        simp only [List.map_cons, List.map_nil]
        have s10 := b10.size
        (try simp at s10)
        have kc10_0 : ∀ o, w10.cell? ⟨w1.heap.size, o, none⟩ = _ := fun o => b10.cell (p := ⟨w1.heap.size, o, none⟩) (by (first | omega | (simp; omega) | simp))
        have kc10_1 : ∀ o, w10.cell? ⟨w2.heap.size, o, none⟩ = _ := fun o => b10.cell (p := ⟨w2.heap.size, o, none⟩) (by (first | omega | (simp; omega) | simp))
        have kc10_2 : ∀ o, w10.cell? ⟨w3.heap.size, o, none⟩ = _ := fun o => b10.cell (p := ⟨w3.heap.size, o, none⟩) (by (first | omega | (simp; omega) | simp))
        have kc10_3 : ∀ o, w10.cell? ⟨w4.heap.size, o, none⟩ = _ := fun o => b10.cell (p := ⟨w4.heap.size, o, none⟩) (by (first | omega | (simp; omega) | simp))
        have kz10_0 : w1.heap.size < w10.heap.size := by omega
        have ky10_0 : ¬ w1.heap.size = w10.heap.size := by omega
        have kx10_0 : ¬ w10.heap.size = w1.heap.size := by omega
        have kz10_1 : w2.heap.size < w10.heap.size := by omega
        have ky10_1 : ¬ w2.heap.size = w10.heap.size := by omega
        have kx10_1 : ¬ w10.heap.size = w2.heap.size := by omega
        have kz10_2 : w3.heap.size < w10.heap.size := by omega
        have ky10_2 : ¬ w3.heap.size = w10.heap.size := by omega
        have kx10_2 : ¬ w10.heap.size = w3.heap.size := by omega
        have kz10_3 : w4.heap.size < w10.heap.size := by omega
        have ky10_3 : ¬ w4.heap.size = w10.heap.size := by omega
        have kx10_3 : ¬ w10.heap.size = w4.heap.size := by omega
        go_wp2
        all_goals (try (exfalso; rename_i hq; apply hq; omega))
        all_goals go_ret
        all_goals exact ⟨by first | rfl | (simp; done) | (simp <;> omega), by (repeat (first | with_reducible exact Below.refl _ _ | with_reducible refine Below.drew ?_ | with_reducible refine below_drewN ?_ _ | (with_reducible refine bel_alloc ?_ ?_ _; (first | omega | (simp; omega) | simp)) | (with_reducible refine bel_set ?_ ?_ _; (first | omega | (simp; omega) | simp)) | (with_reducible refine bel_tr (by assumption) ?_ ?_; (first | omega | (simp; omega) | simp))))⟩
      · skip
        have hH2 : LOk t (f - x) (h + x) s d ∧ (0 ≤ x ∧ x ≤ 60) ∧ LOk t (f - x + x) (h + x - x) s d := ⟨hH.2.2, hH.2.1, by have := hH.1; unfold LOk at *; omega⟩
        have hS2 : LOk t f (h - x) (s + x) d ∧ (0 ≤ x ∧ x ≤ 60) ∧ LOk t (f + x) (h - x) (s + x - x) d := ⟨hS.2.2, hS.2.1, by have := hS.1; have := hS.2; unfold LOk at *; omega⟩
        have hw1 : wrap64 (f + x) = f + x := by have := hS.1; have := hS.2.1; unfold LOk at *; unfold wrap64; omega
        have hw2 : wrap64 (h - x) = h - x := by have := hS.1; have := hS.2.1; unfold LOk at *; unfold wrap64; omega
        go_wp2_with fail
        refine (my (impl_Hold t f h s d x _) hH).mono ?_
        rintro y w2 ⟨rfl, b2⟩
        simp only [List.map_cons, List.map_nil]
        have s2 := b2.size
        (try simp at s2)
        have kc2_0 : ∀ o, w2.cell? ⟨w1.heap.size, o, none⟩ = _ := fun o => b2.cell (p := ⟨w1.heap.size, o, none⟩) (by (first | omega | (simp; omega) | simp))
        have kz2_0 : w1.heap.size < w2.heap.size := by omega
        have ky2_0 : ¬ w1.heap.size = w2.heap.size := by omega
        have kx2_0 : ¬ w2.heap.size = w1.heap.size := by omega
        go_wp2_with fail
        refine (my (impl_Sell t f h s d x _) hS).mono ?_
        rintro y w3 ⟨rfl, b3⟩
        simp only [List.map_cons, List.map_nil]
        have s3 := b3.size
        (try simp at s3)
        have kc3_0 : ∀ o, w3.cell? ⟨w1.heap.size, o, none⟩ = _ := fun o => b3.cell (p := ⟨w1.heap.size, o, none⟩) (by (first | omega | (simp; omega) | simp))
        have kc3_1 : ∀ o, w3.cell? ⟨w2.heap.size, o, none⟩ = _ := fun o => b3.cell (p := ⟨w2.heap.size, o, none⟩) (by (first | omega | (simp; omega) | simp))
        have kz3_0 : w1.heap.size < w3.heap.size := by omega
        have ky3_0 : ¬ w1.heap.size = w3.heap.size := by omega
        have kx3_0 : ¬ w3.heap.size = w1.heap.size := by omega
        have kz3_1 : w2.heap.size < w3.heap.size := by omega
        have ky3_1 : ¬ w2.heap.size = w3.heap.size := by omega
        have kx3_1 : ¬ w3.heap.size = w2.heap.size := by omega
        go_wp2_with fail
        refine (mn (impl_Tie t f h s d x _) hT).mono ?_
        rintro y w4 ⟨rfl, b4⟩
        simp only [List.map_cons, List.map_nil]
        have s4 := b4.size
        (try simp at s4)
        have kc4_0 : ∀ o, w4.cell? ⟨w1.heap.size, o, none⟩ = _ := fun o => b4.cell (p := ⟨w1.heap.size, o, none⟩) (by (first | omega | (simp; omega) | simp))
        have kc4_1 : ∀ o, w4.cell? ⟨w2.heap.size, o, none⟩ = _ := fun o => b4.cell (p := ⟨w2.heap.size, o, none⟩) (by (first | omega | (simp; omega) | simp))
        have kc4_2 : ∀ o, w4.cell? ⟨w3.heap.size, o, none⟩ = _ := fun o => b4.cell (p := ⟨w3.heap.size, o, none⟩) (by (first | omega | (simp; omega) | simp))
        have kz4_0 : w1.heap.size < w4.heap.size := by omega
        have ky4_0 : ¬ w1.heap.size = w4.heap.size := by omega
        have kx4_0 : ¬ w4.heap.size = w1.heap.size := by omega
        have kz4_1 : w2.heap.size < w4.heap.size := by omega
        have ky4_1 : ¬ w2.heap.size = w4.heap.size := by omega
        have kx4_1 : ¬ w4.heap.size = w2.heap.size := by omega
        have kz4_2 : w3.heap.size < w4.heap.size := by omega
        have ky4_2 : ¬ w3.heap.size = w4.heap.size := by omega
        have kx4_2 : ¬ w4.heap.size = w3.heap.size := by omega
        go_wp2_with fail
        refine (my (spec_Hold t f h s d x _) hH).mono ?_
        rintro y w5 ⟨rfl, b5⟩
        simp only [List.map_cons, List.map_nil]
        have s5 := b5.size
        (try simp at s5)
        have kc5_0 : ∀ o, w5.cell? ⟨w1.heap.size, o, none⟩ = _ := fun o => b5.cell (p := ⟨w1.heap.size, o, none⟩) (by (first | omega | (simp; omega) | simp))
        have kc5_1 : ∀ o, w5.cell? ⟨w2.heap.size, o, none⟩ = _ := fun o => b5.cell (p := ⟨w2.heap.size, o, none⟩) (by (first | omega | (simp; omega) | simp))
        have kc5_2 : ∀ o, w5.cell? ⟨w3.heap.size, o, none⟩ = _ := fun o => b5.cell (p := ⟨w3.heap.size, o, none⟩) (by (first | omega | (simp; omega) | simp))
        have kc5_3 : ∀ o, w5.cell? ⟨w4.heap.size, o, none⟩ = _ := fun o => b5.cell (p := ⟨w4.heap.size, o, none⟩) (by (first | omega | (simp; omega) | simp))
        have kz5_0 : w1.heap.size < w5.heap.size := by omega
        have ky5_0 : ¬ w1.heap.size = w5.heap.size := by omega
        have kx5_0 : ¬ w5.heap.size = w1.heap.size := by omega
        have kz5_1 : w2.heap.size < w5.heap.size := by omega
        have ky5_1 : ¬ w2.heap.size = w5.heap.size := by omega
        have kx5_1 : ¬ w5.heap.size = w2.heap.size := by omega
        have kz5_2 : w3.heap.size < w5.heap.size := by omega
        have ky5_2 : ¬ w3.heap.size = w5.heap.size := by omega
        have kx5_2 : ¬ w5.heap.size = w3.heap.size := by omega
        have kz5_3 : w4.heap.size < w5.heap.size := by omega
        have ky5_3 : ¬ w4.heap.size = w5.heap.size := by omega
        have kx5_3 : ¬ w5.heap.size = w4.heap.size := by omega
        go_wp2_with fail
        refine (my (spec_Sell t f h s d x _) hS).mono ?_
        rintro y w6 ⟨rfl, b6⟩
        simp only [List.map_cons, List.map_nil]
        have s6 := b6.size
        (try simp at s6)
        have kc6_0 : ∀ o, w6.cell? ⟨w1.heap.size, o, none⟩ = _ := fun o => b6.cell (p := ⟨w1.heap.size, o, none⟩) (by (first | omega | (simp; omega) | simp))
        have kc6_1 : ∀ o, w6.cell? ⟨w2.heap.size, o, none⟩ = _ := fun o => b6.cell (p := ⟨w2.heap.size, o, none⟩) (by (first | omega | (simp; omega) | simp))
        have kc6_2 : ∀ o, w6.cell? ⟨w3.heap.size, o, none⟩ = _ := fun o => b6.cell (p := ⟨w3.heap.size, o, none⟩) (by (first | omega | (simp; omega) | simp))
        have kc6_3 : ∀ o, w6.cell? ⟨w4.heap.size, o, none⟩ = _ := fun o => b6.cell (p := ⟨w4.heap.size, o, none⟩) (by (first | omega | (simp; omega) | simp))
        have kz6_0 : w1.heap.size < w6.heap.size := by omega
        have ky6_0 : ¬ w1.heap.size = w6.heap.size := by omega
        have kx6_0 : ¬ w6.heap.size = w1.heap.size := by omega
        have kz6_1 : w2.heap.size < w6.heap.size := by omega
        have ky6_1 : ¬ w2.heap.size = w6.heap.size := by omega
        have kx6_1 : ¬ w6.heap.size = w2.heap.size := by omega
        have kz6_2 : w3.heap.size < w6.heap.size := by omega
        have ky6_2 : ¬ w3.heap.size = w6.heap.size := by omega
        have kx6_2 : ¬ w6.heap.size = w3.heap.size := by omega
        have kz6_3 : w4.heap.size < w6.heap.size := by omega
        have ky6_3 : ¬ w4.heap.size = w6.heap.size := by omega
        have kx6_3 : ¬ w6.heap.size = w4.heap.size := by omega
        go_wp2_with fail
        refine (mn (spec_Tie t f h s d x _) hT).mono ?_
        rintro y w7 ⟨rfl, b7⟩
        simp only [List.map_cons, List.map_nil]
        have s7 := b7.size
        (try simp at s7)
        have kc7_0 : ∀ o, w7.cell? ⟨w1.heap.size, o, none⟩ = _ := fun o => b7.cell (p := ⟨w1.heap.size, o, none⟩) (by (first | omega | (simp; omega) | simp))
        have kc7_1 : ∀ o, w7.cell? ⟨w2.heap.size, o, none⟩ = _ := fun o => b7.cell (p := ⟨w2.heap.size, o, none⟩) (by (first | omega | (simp; omega) | simp))
        have kc7_2 : ∀ o, w7.cell? ⟨w3.heap.size, o, none⟩ = _ := fun o => b7.cell (p := ⟨w3.heap.size, o, none⟩) (by (first | omega | (simp; omega) | simp))
        have kc7_3 : ∀ o, w7.cell? ⟨w4.heap.size, o, none⟩ = _ := fun o => b7.cell (p := ⟨w4.heap.size, o, none⟩) (by (first | omega | (simp; omega) | simp))
        have kz7_0 : w1.heap.size < w7.heap.size := by omega
        have ky7_0 : ¬ w1.heap.size = w7.heap.size := by omega
        have kx7_0 : ¬ w7.heap.size = w1.heap.size := by omega
        have kz7_1 : w2.heap.size < w7.heap.size := by omega
        have ky7_1 : ¬ w2.heap.size = w7.heap.size := by omega
        have kx7_1 : ¬ w7.heap.size = w2.heap.size := by omega
        have kz7_2 : w3.heap.size < w7.heap.size := by omega
        have ky7_2 : ¬ w3.heap.size = w7.heap.size := by omega
        have kx7_2 : ¬ w7.heap.size = w3.heap.size := by omega
        have kz7_3 : w4.heap.size < w7.heap.size := by omega
        have ky7_3 : ¬ w4.heap.size = w7.heap.size := by omega
        have kx7_3 : ¬ w7.heap.size = w4.heap.size := by omega
        go_wp2_with fail
        refine (my (impl_Drop t (f - x) (h + x) s d x _) hH2).mono ?_
        rintro y w8 ⟨rfl, b8⟩
        simp only [List.map_cons, List.map_nil]
        have s8 := b8.size
        (try simp at s8)
        have kc8_0 : ∀ o, w8.cell? ⟨w1.heap.size, o, none⟩ = _ := fun o => b8.cell (p := ⟨w1.heap.size, o, none⟩) (by (first | omega | (simp; omega) | simp))
        have kc8_1 : ∀ o, w8.cell? ⟨w2.heap.size, o, none⟩ = _ := fun o => b8.cell (p := ⟨w2.heap.size, o, none⟩) (by (first | omega | (simp; omega) | simp))
        have kc8_2 : ∀ o, w8.cell? ⟨w3.heap.size, o, none⟩ = _ := fun o => b8.cell (p := ⟨w3.heap.size, o, none⟩) (by (first | omega | (simp; omega) | simp))
        have kc8_3 : ∀ o, w8.cell? ⟨w4.heap.size, o, none⟩ = _ := fun o => b8.cell (p := ⟨w4.heap.size, o, none⟩) (by (first | omega | (simp; omega) | simp))
        have kz8_0 : w1.heap.size < w8.heap.size := by omega
        have ky8_0 : ¬ w1.heap.size = w8.heap.size := by omega
        have kx8_0 : ¬ w8.heap.size = w1.heap.size := by omega
        have kz8_1 : w2.heap.size < w8.heap.size := by omega
        have ky8_1 : ¬ w2.heap.size = w8.heap.size := by omega
        have kx8_1 : ¬ w8.heap.size = w2.heap.size := by omega
        have kz8_2 : w3.heap.size < w8.heap.size := by omega
        have ky8_2 : ¬ w3.heap.size = w8.heap.size := by omega
        have kx8_2 : ¬ w8.heap.size = w3.heap.size := by omega
        have kz8_3 : w4.heap.size < w8.heap.size := by omega
        have ky8_3 : ¬ w4.heap.size = w8.heap.size := by omega
        have kx8_3 : ¬ w8.heap.size = w4.heap.size := by omega
        go_wp2_with fail
        refine (my (impl_Free t f (h - x) (s + x) d x _) hS2).mono ?_
        rintro y w9 ⟨rfl, b9⟩
        simp only [List.map_cons, List.map_nil]
        have s9 := b9.size
        (try simp at s9)
        have kc9_0 : ∀ o, w9.cell? ⟨w1.heap.size, o, none⟩ = _ := fun o => b9.cell (p := ⟨w1.heap.size, o, none⟩) (by (first | omega | (simp; omega) | simp))
        have kc9_1 : ∀ o, w9.cell? ⟨w2.heap.size, o, none⟩ = _ := fun o => b9.cell (p := ⟨w2.heap.size, o, none⟩) (by (first | omega | (simp; omega) | simp))
        have kc9_2 : ∀ o, w9.cell? ⟨w3.heap.size, o, none⟩ = _ := fun o => b9.cell (p := ⟨w3.heap.size, o, none⟩) (by (first | omega | (simp; omega) | simp))
        have kc9_3 : ∀ o, w9.cell? ⟨w4.heap.size, o, none⟩ = _ := fun o => b9.cell (p := ⟨w4.heap.size, o, none⟩) (by (first | omega | (simp; omega) | simp))
        have kz9_0 : w1.heap.size < w9.heap.size := by omega
        have ky9_0 : ¬ w1.heap.size = w9.heap.size := by omega
        have kx9_0 : ¬ w9.heap.size = w1.heap.size := by omega
        have kz9_1 : w2.heap.size < w9.heap.size := by omega
        have ky9_1 : ¬ w2.heap.size = w9.heap.size := by omega
        have kx9_1 : ¬ w9.heap.size = w2.heap.size := by omega
        have kz9_2 : w3.heap.size < w9.heap.size := by omega
        have ky9_2 : ¬ w3.heap.size = w9.heap.size := by omega
        have kx9_2 : ¬ w9.heap.size = w3.heap.size := by omega
        have kz9_3 : w4.heap.size < w9.heap.size := by omega
        have ky9_3 : ¬ w4.heap.size = w9.heap.size := by omega
        have kx9_3 : ¬ w9.heap.size = w4.heap.size := by omega
        go_wp2
        all_goals (try (exfalso; rename_i hq; apply hq; omega))
        all_goals go_ret
        all_goals exact ⟨by first | rfl | (simp; done) | (simp <;> omega), by (repeat (first | with_reducible exact Below.refl _ _ | with_reducible refine Below.drew ?_ | with_reducible refine below_drewN ?_ _ | (with_reducible refine bel_alloc ?_ ?_ _; (first | omega | (simp; omega) | simp)) | (with_reducible refine bel_set ?_ ?_ _; (first | omega | (simp; omega) | simp)) | (with_reducible refine bel_tr (by assumption) ?_ ?_; (first | omega | (simp; omega) | simp))))⟩
    · skip
      by_cases hT : LOk t f h s d ∧ (0 ≤ x ∧ x ≤ 60) ∧ LOk t f h s (d + x)
      · skip
        have hH2 : LOk t (f - x) (h + x) s d ∧ (0 ≤ x ∧ x ≤ 60) ∧ LOk t (f - x + x) (h + x - x) s d := ⟨hH.2.2, hH.2.1, by have := hH.1; unfold LOk at *; omega⟩
        have hT2 : LOk t f h s (d + x) ∧ (0 ≤ x ∧ x ≤ 60) ∧ LOk t f h s (d + x - x) := ⟨hT.2.2, hT.2.1, by have := hT.1; unfold LOk at *; omega⟩
        go_wp2_with fail
        refine (my (impl_Hold t f h s d x _) hH).mono ?_
        rintro y w2 ⟨rfl, b2⟩
        simp only [List.map_cons, List.map_nil]
        have s2 := b2.size
        (try simp at s2)
        have kc2_0 : ∀ o, w2.cell? ⟨w1.heap.size, o, none⟩ = _ := fun o => b2.cell (p := ⟨w1.heap.size, o, none⟩) (by (first | omega | (simp; omega) | simp))
        have kz2_0 : w1.heap.size < w2.heap.size := by omega
        have ky2_0 : ¬ w1.heap.size = w2.heap.size := by omega
        have kx2_0 : ¬ w2.heap.size = w1.heap.size := by omega
        go_wp2_with fail
        refine (mn (impl_Sell t f h s d x _) hS).mono ?_
        rintro y w3 ⟨rfl, b3⟩
        simp only [List.map_cons, List.map_nil]
        have s3 := b3.size
        (try simp at s3)
        have kc3_0 : ∀ o, w3.cell? ⟨w1.heap.size, o, none⟩ = _ := fun o => b3.cell (p := ⟨w1.heap.size, o, none⟩) (by (first | omega | (simp; omega) | simp))
        have kc3_1 : ∀ o, w3.cell? ⟨w2.heap.size, o, none⟩ = _ := fun o => b3.cell (p := ⟨w2.heap.size, o, none⟩) (by (first | omega | (simp; omega) | simp))
        have kz3_0 : w1.heap.size < w3.heap.size := by omega
        have ky3_0 : ¬ w1.heap.size = w3.heap.size := by omega
        have kx3_0 : ¬ w3.heap.size = w1.heap.size := by omega
        have kz3_1 : w2.heap.size < w3.heap.size := by omega
        have ky3_1 : ¬ w2.heap.size = w3.heap.size := by omega
        have kx3_1 : ¬ w3.heap.size = w2.heap.size := by omega
        go_wp2_with fail
        refine (my (impl_Tie t f h s d x _) hT).mono ?_
        rintro y w4 ⟨rfl, b4⟩
        simp only [List.map_cons, List.map_nil]
        have s4 := b4.size
        (try simp at s4)
        have kc4_0 : ∀ o, w4.cell? ⟨w1.heap.size, o, none⟩ = _ := fun o => b4.cell (p := ⟨w1.heap.size, o, none⟩) (by (first | omega | (simp; omega) | simp))
        have kc4_1 : ∀ o, w4.cell? ⟨w2.heap.size, o, none⟩ = _ := fun o => b4.cell (p := ⟨w2.heap.size, o, none⟩) (by (first | omega | (simp; omega) | simp))
        have kc4_2 : ∀ o, w4.cell? ⟨w3.heap.size, o, none⟩ = _ := fun o => b4.cell (p := ⟨w3.heap.size, o, none⟩) (by (first | omega | (simp; omega) | simp))
        have kz4_0 : w1.heap.size < w4.heap.size := by omega
        have ky4_0 : ¬ w1.heap.size = w4.heap.size := by omega
        have kx4_0 : ¬ w4.heap.size = w1.heap.size := by omega
        have kz4_1 : w2.heap.size < w4.heap.size := by omega
        have ky4_1 : ¬ w2.heap.size = w4.heap.size := by omega
        have kx4_1 : ¬ w4.heap.size = w2.heap.size := by omega
        have kz4_2 : w3.heap.size < w4.heap.size := by omega
        have ky4_2 : ¬ w3.heap.size = w4.heap.size := by omega
        have kx4_2 : ¬ w4.heap.size = w3.heap.size := by omega
        go_wp2_with fail
        refine (my (spec_Hold t f h s d x _) hH).mono ?_
        rintro y w5 ⟨rfl, b5⟩
        simp only [List.map_cons, List.map_nil]
        have s5 := b5.size
        (try simp at s5)
        have kc5_0 : ∀ o, w5.cell? ⟨w1.heap.size, o, none⟩ = _ := fun o => b5.cell (p := ⟨w1.heap.size, o, none⟩) (by (first | omega | (simp; omega) | simp))
        have kc5_1 : ∀ o, w5.cell? ⟨w2.heap.size, o, none⟩ = _ := fun o => b5.cell (p := ⟨w2.heap.size, o, none⟩) (by (first | omega | (simp; omega) | simp))
        have kc5_2 : ∀ o, w5.cell? ⟨w3.heap.size, o, none⟩ = _ := fun o => b5.cell (p := ⟨w3.heap.size, o, none⟩) (by (first | omega | (simp; omega) | simp))
        have kc5_3 : ∀ o, w5.cell? ⟨w4.heap.size, o, none⟩ = _ := fun o => b5.cell (p := ⟨w4.heap.size, o, none⟩) (by (first | omega | (simp; omega) | simp))
        have kz5_0 : w1.heap.size < w5.heap.size := by omega
        have ky5_0 : ¬ w1.heap.size = w5.heap.size := by omega
        have kx5_0 : ¬ w5.heap.size = w1.heap.size := by omega
        have kz5_1 : w2.heap.size < w5.heap.size := by omega
        have ky5_1 : ¬ w2.heap.size = w5.heap.size := by omega
        have kx5_1 : ¬ w5.heap.size = w2.heap.size := by omega
        have kz5_2 : w3.heap.size < w5.heap.size := by omega
        have ky5_2 : ¬ w3.heap.size = w5.heap.size := by omega
        have kx5_2 : ¬ w5.heap.size = w3.heap.size := by omega
        have kz5_3 : w4.heap.size < w5.heap.size := by omega
        have ky5_3 : ¬ w4.heap.size = w5.heap.size := by omega
        have kx5_3 : ¬ w5.heap.size = w4.heap.size := by omega
        go_wp2_with fail
        refine (mn (spec_Sell t f h s d x _) hS).mono ?_
        rintro y w6 ⟨rfl, b6⟩
        simp only [List.map_cons, List.map_nil]
        have s6 := b6.size
        (try simp at s6)
        have kc6_0 : ∀ o, w6.cell? ⟨w1.heap.size, o, none⟩ = _ := fun o => b6.cell (p := ⟨w1.heap.size, o, none⟩) (by (first | omega | (simp; omega) | simp))
        have kc6_1 : ∀ o, w6.cell? ⟨w2.heap.size, o, none⟩ = _ := fun o => b6.cell (p := ⟨w2.heap.size, o, none⟩) (by (first | omega | (simp; omega) | simp))
        have kc6_2 : ∀ o, w6.cell? ⟨w3.heap.size, o, none⟩ = _ := fun o => b6.cell (p := ⟨w3.heap.size, o, none⟩) (by (first | omega | (simp; omega) | simp))
        have kc6_3 : ∀ o, w6.cell? ⟨w4.heap.size, o, none⟩ = _ := fun o => b6.cell (p := ⟨w4.heap.size, o, none⟩) (by (first | omega | (simp; omega) | simp))
        have kz6_0 : w1.heap.size < w6.heap.size := by omega
        have ky6_0 : ¬ w1.heap.size = w6.heap.size := by omega
        have kx6_0 : ¬ w6.heap.size = w1.heap.size := by omega
        have kz6_1 : w2.heap.size < w6.heap.size := by omega
        have ky6_1 : ¬ w2.heap.size = w6.heap.size := by omega
        have kx6_1 : ¬ w6.heap.size = w2.heap.size := by omega
        have kz6_2 : w3.heap.size < w6.heap.size := by omega
        have ky6_2 : ¬ w3.heap.size = w6.heap.size := by omega
        have kx6_2 : ¬ w6.heap.size = w3.heap.size := by omega
        have kz6_3 : w4.heap.size < w6.heap.size := by omega
        have ky6_3 : ¬ w4.heap.size = w6.heap.size := by omega
        have kx6_3 : ¬ w6.heap.size = w4.heap.size := by omega
        go_wp2_with fail
        refine (my (spec_Tie t f h s d x _) hT).mono ?_
        rintro y w7 ⟨rfl, b7⟩
        simp only [List.map_cons, List.map_nil]
        have s7 := b7.size
        (try simp at s7)
        have kc7_0 : ∀ o, w7.cell? ⟨w1.heap.size, o, none⟩ = _ := fun o => b7.cell (p := ⟨w1.heap.size, o, none⟩) (by (first | omega | (simp; omega) | simp))
        have kc7_1 : ∀ o, w7.cell? ⟨w2.heap.size, o, none⟩ = _ := fun o => b7.cell (p := ⟨w2.heap.size, o, none⟩) (by (first | omega | (simp; omega) | simp))
        have kc7_2 : ∀ o, w7.cell? ⟨w3.heap.size, o, none⟩ = _ := fun o => b7.cell (p := ⟨w3.heap.size, o, none⟩) (by (first | omega | (simp; omega) | simp))
        have kc7_3 : ∀ o, w7.cell? ⟨w4.heap.size, o, none⟩ = _ := fun o => b7.cell (p := ⟨w4.heap.size, o, none⟩) (by (first | omega | (simp; omega) | simp))
        have kz7_0 : w1.heap.size < w7.heap.size := by omega
        have ky7_0 : ¬ w1.heap.size = w7.heap.size := by omega
        have kx7_0 : ¬ w7.heap.size = w1.heap.size := by omega
        have kz7_1 : w2.heap.size < w7.heap.size := by omega
        have ky7_1 : ¬ w2.heap.size = w7.heap.size := by omega
        have kx7_1 : ¬ w7.heap.size = w2.heap.size := by omega
        have kz7_2 : w3.heap.size < w7.heap.size := by omega
        have ky7_2 : ¬ w3.heap.size = w7.heap.size := by omega
        have kx7_2 : ¬ w7.heap.size = w3.heap.size := by omega
        have kz7_3 : w4.heap.size < w7.heap.size := by omega
        have ky7_3 : ¬ w4.heap.size = w7.heap.size := by omega
        have kx7_3 : ¬ w7.heap.size = w4.heap.size := by omega
        go_wp2_with fail
        refine (my (impl_Drop t (f - x) (h + x) s d x _) hH2).mono ?_
        rintro y w8 ⟨rfl, b8⟩
        simp only [List.map_cons, List.map_nil]
        have s8 := b8.size
        (try simp at s8)
        have kc8_0 : ∀ o, w8.cell? ⟨w1.heap.size, o, none⟩ = _ := fun o => b8.cell (p := ⟨w1.heap.size, o, none⟩) (by (first | omega | (simp; omega) | simp))
        have kc8_1 : ∀ o, w8.cell? ⟨w2.heap.size, o, none⟩ = _ := fun o => b8.cell (p := ⟨w2.heap.size, o, none⟩) (by (first | omega | (simp; omega) | simp))
        have kc8_2 : ∀ o, w8.cell? ⟨w3.heap.size, o, none⟩ = _ := fun o => b8.cell (p := ⟨w3.heap.size, o, none⟩) (by (first | omega | (simp; omega) | simp))
        have kc8_3 : ∀ o, w8.cell? ⟨w4.heap.size, o, none⟩ = _ := fun o => b8.cell (p := ⟨w4.heap.size, o, none⟩) (by (first | omega | (simp; omega) | simp))
        have kz8_0 : w1.heap.size < w8.heap.size := by omega
        have ky8_0 : ¬ w1.heap.size = w8.heap.size := by omega
        have kx8_0 : ¬ w8.heap.size = w1.heap.size := by omega
        have kz8_1 : w2.heap.size < w8.heap.size := by omega
        have ky8_1 : ¬ w2.heap.size = w8.heap.size := by omega
        have kx8_1 : ¬ w8.heap.size = w2.heap.size := by omega
        have kz8_2 : w3.heap.size < w8.heap.size := by omega
        have ky8_2 : ¬ w3.heap.size = w8.heap.size := by omega
        have kx8_2 : ¬ w8.heap.size = w3.heap.size := by omega
        have kz8_3 : w4.heap.size < w8.heap.size := by omega
        have ky8_3 : ¬ w4.heap.size = w8.heap.size := by omega
        have kx8_3 : ¬ w8.heap.size = w4.heap.size := by omega
        go_wp2_with fail
        refine (my (impl_Untie t f h s (d + x) x _) hT2).mono ?_
        rintro y w9 ⟨rfl, b9⟩
        simp only [List.map_cons, List.map_nil]
        have s9 := b9.size
        (try simp at s9)
        have kc9_0 : ∀ o, w9.cell? ⟨w1.heap.size, o, none⟩ = _ := fun o => b9.cell (p := ⟨w1.heap.size, o, none⟩) (by (first | omega | (simp; omega) | simp))
        have kc9_1 : ∀ o, w9.cell? ⟨w2.heap.size, o, none⟩ = _ := fun o => b9.cell (p := ⟨w2.heap.size, o, none⟩) (by (first | omega | (simp; omega) | simp))
        have kc9_2 : ∀ o, w9.cell? ⟨w3.heap.size, o, none⟩ = _ := fun o => b9.cell (p := ⟨w3.heap.size, o, none⟩) (by (first | omega | (simp; omega) | simp))
        have kc9_3 : ∀ o, w9.cell? ⟨w4.heap.size, o, none⟩ = _ := fun o => b9.cell (p := ⟨w4.heap.size, o, none⟩) (by (first | omega | (simp; omega) | simp))
        have kz9_0 : w1.heap.size < w9.heap.size := by omega
        have ky9_0 : ¬ w1.heap.size = w9.heap.size := by omega
        have kx9_0 : ¬ w9.heap.size = w1.heap.size := by omega
        have kz9_1 : w2.heap.size < w9.heap.size := by omega
        have ky9_1 : ¬ w2.heap.size = w9.heap.size := by omega
        have kx9_1 : ¬ w9.heap.size = w2.heap.size := by omega
        have kz9_2 : w3.heap.size < w9.heap.size := by omega
        have ky9_2 : ¬ w3.heap.size = w9.heap.size := by omega
        have kx9_2 : ¬ w9.heap.size = w3.heap.size := by omega
        have kz9_3 : w4.heap.size < w9.heap.size := by omega
        have ky9_3 : ¬ w4.heap.size = w9.heap.size := by omega
        have kx9_3 : ¬ w9.heap.size = w4.heap.size := by omega
        go_wp2
        all_goals (try (exfalso; rename_i hq; apply hq; omega))
        all_goals go_ret
        all_goals exact ⟨by first | rfl | (simp; done) | (simp <;> omega), by (repeat (first | with_reducible exact Below.refl _ _ | with_reducible refine Below.drew ?_ | with_reducible refine below_drewN ?_ _ | (with_reducible refine bel_alloc ?_ ?_ _; (first | omega | (simp; omega) | simp)) | (with_reducible refine bel_set ?_ ?_ _; (first | omega | (simp; omega) | simp)) | (with_reducible refine bel_tr (by assumption) ?_ ?_; (first | omega | (simp; omega) | simp))))⟩
      · skip
        have hH2 : LOk t (f - x) (h + x) s d ∧ (0 ≤ x ∧ x ≤ 60) ∧ LOk t (f - x + x) (h + x - x) s d := ⟨hH.2.2, hH.2.1, by have := hH.1; unfold LOk at *; omega⟩
        go_wp2_with fail
        refine (my (impl_Hold t f h s d x _) hH).mono ?_
        rintro y w2 ⟨rfl, b2⟩
        simp only [List.map_cons, List.map_nil]
        have s2 := b2.size
        (try simp at s2)
        have kc2_0 : ∀ o, w2.cell? ⟨w1.heap.size, o, none⟩ = _ := fun o => b2.cell (p := ⟨w1.heap.size, o, none⟩) (by (first | omega | (simp; omega) | simp))
        have kz2_0 : w1.heap.size < w2.heap.size := by omega
        have ky2_0 : ¬ w1.heap.size = w2.heap.size := by omega
        have kx2_0 : ¬ w2.heap.size = w1.heap.size := by omega
        go_wp2_with fail
        refine (mn (impl_Sell t f h s d x _) hS).mono ?_
        rintro y w3 ⟨rfl, b3⟩
        simp only [List.map_cons, List.map_nil]
        have s3 := b3.size
        (try simp at s3)
        have kc3_0 : ∀ o, w3.cell? ⟨w1.heap.size, o, none⟩ = _ := fun o => b3.cell (p := ⟨w1.heap.size, o, none⟩) (by (first | omega | (simp; omega) | simp))
        have kc3_1 : ∀ o, w3.cell? ⟨w2.heap.size, o, none⟩ = _ := fun o => b3.cell (p := ⟨w2.heap.size, o, none⟩) (by (first | omega | (simp; omega) | simp))
        have kz3_0 : w1.heap.size < w3.heap.size := by omega
        have ky3_0 : ¬ w1.heap.size = w3.heap.size := by omega
        have kx3_0 : ¬ w3.heap.size = w1.heap.size := by omega
        have kz3_1 : w2.heap.size < w3.heap.size := by omega
        have ky3_1 : ¬ w2.heap.size = w3.heap.size := by omega
        have kx3_1 : ¬ w3.heap.size = w2.heap.size := by omega
        go_wp2_with fail
        refine (mn (impl_Tie t f h s d x _) hT).mono ?_
        rintro y w4 ⟨rfl, b4⟩
        simp only [List.map_cons, List.map_nil]
        have s4 := b4.size
        (try simp at s4)
        have kc4_0 : ∀ o, w4.cell? ⟨w1.heap.size, o, none⟩ = _ := fun o => b4.cell (p := ⟨w1.heap.size, o, none⟩) (by (first | omega | (simp; omega) | simp))
        have kc4_1 : ∀ o, w4.cell? ⟨w2.heap.size, o, none⟩ = _ := fun o => b4.cell (p := ⟨w2.heap.size, o, none⟩) (by (first | omega | (simp; omega) | simp))
        have kc4_2 : ∀ o, w4.cell? ⟨w3.heap.size, o, none⟩ = _ := fun o => b4.cell (p := ⟨w3.heap.size, o, none⟩) (by (first | omega | (simp; omega) | simp))
        have kz4_0 : w1.heap.size < w4.heap.size := by omega
        have ky4_0 : ¬ w1.heap.size = w4.heap.size := by omega
        have kx4_0 : ¬ w4.heap.size = w1.heap.size := by omega
        have kz4_1 : w2.heap.size < w4.heap.size := by omega
        have ky4_1 : ¬ w2.heap.size = w4.heap.size := by omega
        have kx4_1 : ¬ w4.heap.size = w2.heap.size := by omega
        have kz4_2 : w3.heap.size < w4.heap.size := by omega
        have ky4_2 : ¬ w3.heap.size = w4.heap.size := by omega
        have kx4_2 : ¬ w4.heap.size = w3.heap.size := by omega
        go_wp2_with fail
        refine (my (spec_Hold t f h s d x _) hH).mono ?_
        rintro y w5 ⟨rfl, b5⟩
        simp only [List.map_cons, List.map_nil]
        have s5 := b5.size
        (try simp at s5)
        have kc5_0 : ∀ o, w5.cell? ⟨w1.heap.size, o, none⟩ = _ := fun o => b5.cell (p := ⟨w1.heap.size, o, none⟩) (by (first | omega | (simp; omega) | simp))
        have kc5_1 : ∀ o, w5.cell? ⟨w2.heap.size, o, none⟩ = _ := fun o => b5.cell (p := ⟨w2.heap.size, o, none⟩) (by (first | omega | (simp; omega) | simp))
        have kc5_2 : ∀ o, w5.cell? ⟨w3.heap.size, o, none⟩ = _ := fun o => b5.cell (p := ⟨w3.heap.size, o, none⟩) (by (first | omega | (simp; omega) | simp))
        have kc5_3 : ∀ o, w5.cell? ⟨w4.heap.size, o, none⟩ = _ := fun o => b5.cell (p := ⟨w4.heap.size, o, none⟩) (by (first | omega | (simp; omega) | simp))
        have kz5_0 : w1.heap.size < w5.heap.size := by omega
        have ky5_0 : ¬ w1.heap.size = w5.heap.size := by omega
        have kx5_0 : ¬ w5.heap.size = w1.heap.size := by omega
        have kz5_1 : w2.heap.size < w5.heap.size := by omega
        have ky5_1 : ¬ w2.heap.size = w5.heap.size := by omega
        have kx5_1 : ¬ w5.heap.size = w2.heap.size := by omega
        have kz5_2 : w3.heap.size < w5.heap.size := by omega
        have ky5_2 : ¬ w3.heap.size = w5.heap.size := by omega
        have kx5_2 : ¬ w5.heap.size = w3.heap.size := by omega
        have kz5_3 : w4.heap.size < w5.heap.size := by omega
        have ky5_3 : ¬ w4.heap.size = w5.heap.size := by omega
        have kx5_3 : ¬ w5.heap.size = w4.heap.size := by omega
        go_wp2_with fail
        refine (mn (spec_Sell t f h s d x _) hS).mono ?_
        rintro y w6 ⟨rfl, b6⟩
        simp only [List.map_cons, List.map_nil]
        have s6 := b6.size
        (try simp at s6)
        have kc6_0 : ∀ o, w6.cell? ⟨w1.heap.size, o, none⟩ = _ := fun o => b6.cell (p := ⟨w1.heap.size, o, none⟩) (by (first | omega | (simp; omega) | simp))
        have kc6_1 : ∀ o, w6.cell? ⟨w2.heap.size, o, none⟩ = _ := fun o => b6.cell (p := ⟨w2.heap.size, o, none⟩) (by (first | omega | (simp; omega) | simp))
        have kc6_2 : ∀ o, w6.cell? ⟨w3.heap.size, o, none⟩ = _ := fun o => b6.cell (p := ⟨w3.heap.size, o, none⟩) (by (first | omega | (simp; omega) | simp))
        have kc6_3 : ∀ o, w6.cell? ⟨w4.heap.size, o, none⟩ = _ := fun o => b6.cell (p := ⟨w4.heap.size, o, none⟩) (by (first | omega | (simp; omega) | simp))
        have kz6_0 : w1.heap.size < w6.heap.size := by omega
        have ky6_0 : ¬ w1.heap.size = w6.heap.size := by omega
        have kx6_0 : ¬ w6.heap.size = w1.heap.size := by omega
        have kz6_1 : w2.heap.size < w6.heap.size := by omega
        have ky6_1 : ¬ w2.heap.size = w6.heap.size := by omega
        have kx6_1 : ¬ w6.heap.size = w2.heap.size := by omega
        have kz6_2 : w3.heap.size < w6.heap.size := by omega
        have ky6_2 : ¬ w3.heap.size = w6.heap.size := by omega
        have kx6_2 : ¬ w6.heap.size = w3.heap.size := by omega
        have kz6_3 : w4.heap.size < w6.heap.size := by omega
        have ky6_3 : ¬ w4.heap.size = w6.heap.size := by omega
        have kx6_3 : ¬ w6.heap.size = w4.heap.size := by omega
        go_wp2_with fail
        refine (mn (spec_Tie t f h s d x _) hT).mono ?_
        rintro y w7 ⟨rfl, b7⟩
        simp only [List.map_cons, List.map_nil]
        have s7 := b7.size
        (try simp at s7)
        have kc7_0 : ∀ o, w7.cell? ⟨w1.heap.size, o, none⟩ = _ := fun o => b7.cell (p := ⟨w1.heap.size, o, none⟩) (by (first | omega | (simp; omega) | simp))
        have kc7_1 : ∀ o, w7.cell? ⟨w2.heap.size, o, none⟩ = _ := fun o => b7.cell (p := ⟨w2.heap.size, o, none⟩) (by (first | omega | (simp; omega) | simp))
        have kc7_2 : ∀ o, w7.cell? ⟨w3.heap.size, o, none⟩ = _ := fun o => b7.cell (p := ⟨w3.heap.size, o, none⟩) (by (first | omega | (simp; omega) | simp))
        have kc7_3 : ∀ o, w7.cell? ⟨w4.heap.size, o, none⟩ = _ := fun o => b7.cell (p := ⟨w4.heap.size, o, none⟩) (by (first | omega | (simp; omega) | simp))
        have kz7_0 : w1.heap.size < w7.heap.size := by omega
        have ky7_0 : ¬ w1.heap.size = w7.heap.size := by omega
        have kx7_0 : ¬ w7.heap.size = w1.heap.size := by omega
        have kz7_1 : w2.heap.size < w7.heap.size := by omega
        have ky7_1 : ¬ w2.heap.size = w7.heap.size := by omega
        have kx7_1 : ¬ w7.heap.size = w2.heap.size := by omega
        have kz7_2 : w3.heap.size < w7.heap.size := by omega
        have ky7_2 : ¬ w3.heap.size = w7.heap.size := by omega
        have kx7_2 : ¬ w7.heap.size = w3.heap.size := by omega
        have kz7_3 : w4.heap.size < w7.heap.size := by omega
        have ky7_3 : ¬ w4.heap.size = w7.heap.size := by omega
        have kx7_3 : ¬ w7.heap.size = w4.heap.size := by omega
        go_wp2_with fail
        refine (my (impl_Drop t (f - x) (h + x) s d x _) hH2).mono ?_
        rintro y w8 ⟨rfl, b8⟩
        simp only [List.map_cons, List.map_nil]
        have s8 := b8.size
        (try simp at s8)
        have kc8_0 : ∀ o, w8.cell? ⟨w1.heap.size, o, none⟩ = _ := fun o => b8.cell (p := ⟨w1.heap.size, o, none⟩) (by (first | omega | (simp; omega) | simp))
        have kc8_1 : ∀ o, w8.cell? ⟨w2.heap.size, o, none⟩ = _ := fun o => b8.cell (p := ⟨w2.heap.size, o, none⟩) (by (first | omega | (simp; omega) | simp))
        have kc8_2 : ∀ o, w8.cell? ⟨w3.heap.size, o, none⟩ = _ := fun o => b8.cell (p := ⟨w3.heap.size, o, none⟩) (by (first | omega | (simp; omega) | simp))
        have kc8_3 : ∀ o, w8.cell? ⟨w4.heap.size, o, none⟩ = _ := fun o => b8.cell (p := ⟨w4.heap.size, o, none⟩) (by (first | omega | (simp; omega) | simp))
        have kz8_0 : w1.heap.size < w8.heap.size := by omega
        have ky8_0 : ¬ w1.heap.size = w8.heap.size := by omega
        have kx8_0 : ¬ w8.heap.size = w1.heap.size := by omega
        have kz8_1 : w2.heap.size < w8.heap.size := by omega
        have ky8_1 : ¬ w2.heap.size = w8.heap.size := by omega
        have kx8_1 : ¬ w8.heap.size = w2.heap.size := by omega
        have kz8_2 : w3.heap.size < w8.heap.size := by omega
        have ky8_2 : ¬ w3.heap.size = w8.heap.size := by omega
        have kx8_2 : ¬ w8.heap.size = w3.heap.size := by omega
        have kz8_3 : w4.heap.size < w8.heap.size := by omega
        have ky8_3 : ¬ w4.heap.size = w8.heap.size := by omega
        have kx8_3 : ¬ w8.heap.size = w4.heap.size := by omega
        go_wp2
        all_goals (try (exfalso; rename_i hq; apply hq; omega))
        all_goals go_ret
        all_goals exact ⟨by first | rfl | (simp; done) | (simp <;> omega), by (repeat (first | with_reducible exact Below.refl _ _ | with_reducible refine Below.drew ?_ | with_reducible refine below_drewN ?_ _ | (with_reducible refine bel_alloc ?_ ?_ _; (first | omega | (simp; omega) | simp)) | (with_reducible refine bel_set ?_ ?_ _; (first | omega | (simp; omega) | simp)) | (with_reducible refine bel_tr (by assumption) ?_ ?_; (first | omega | (simp; omega) | simp))))⟩
  · skip
    by_cases hS : LOk t f h s d ∧ (0 ≤ x ∧ x ≤ 60) ∧ LOk t f (h - x) (s + x) d
    · skip
      by_cases hT : LOk t f h s d ∧ (0 ≤ x ∧ x ≤ 60) ∧ LOk t f h s (d + x)
      · skip
        have hT2 : LOk t f h s (d + x) ∧ (0 ≤ x ∧ x ≤ 60) ∧ LOk t f h s (d + x - x) := ⟨hT.2.2, hT.2.1, by have := hT.1; unfold LOk at *; omega⟩
        have hS2 : LOk t f (h - x) (s + x) d ∧ (0 ≤ x ∧ x ≤ 60) ∧ LOk t (f + x) (h - x) (s + x - x) d := ⟨hS.2.2, hS.2.1, by have := hS.1; have := hS.2; unfold LOk at *; omega⟩
        have hw1 : wrap64 (f + x) = f + x := by have := hS.1; have := hS.2.1; unfold LOk at *; unfold wrap64; omega
        have hw2 : wrap64 (h - x) = h - x := by have := hS.1; have := hS.2.1; unfold LOk at *; unfold wrap64; omega
        go_wp2_with fail
        refine (mn (impl_Hold t f h s d x _) hH).mono ?_
        rintro y w2 ⟨rfl, b2⟩
        simp only [List.map_cons, List.map_nil]
        have s2 := b2.size
        (try simp at s2)
        have kc2_0 : ∀ o, w2.cell? ⟨w1.heap.size, o, none⟩ = _ := fun o => b2.cell (p := ⟨w1.heap.size, o, none⟩) (by (first | omega | (simp; omega) | simp))
        have kz2_0 : w1.heap.size < w2.heap.size := by omega
        have ky2_0 : ¬ w1.heap.size = w2.heap.size := by omega
        have kx2_0 : ¬ w2.heap.size = w1.heap.size := by omega
        go_wp2_with fail
        refine (my (impl_Sell t f h s d x _) hS).mono ?_
        rintro y w3 ⟨rfl, b3⟩
        simp only [List.map_cons, List.map_nil]
        have s3 := b3.size
        (try simp at s3)
        have kc3_0 : ∀ o, w3.cell? ⟨w1.heap.size, o, none⟩ = _ := fun o => b3.cell (p := ⟨w1.heap.size, o, none⟩) (by (first | omega | (simp; omega) | simp))
        have kc3_1 : ∀ o, w3.cell? ⟨w2.heap.size, o, none⟩ = _ := fun o => b3.cell (p := ⟨w2.heap.size, o, none⟩) (by (first | omega | (simp; omega) | simp))
        have kz3_0 : w1.heap.size < w3.heap.size := by omega
        have ky3_0 : ¬ w1.heap.size = w3.heap.size := by omega
        have kx3_0 : ¬ w3.heap.size = w1.heap.size := by omega
        have kz3_1 : w2.heap.size < w3.heap.size := by omega
        have ky3_1 : ¬ w2.heap.size = w3.heap.size := by omega
        have kx3_1 : ¬ w3.heap.size = w2.heap.size := by omega
        go_wp2_with fail
        refine (my (impl_Tie t f h s d x _) hT).mono ?_
        rintro y w4 ⟨rfl, b4⟩
        simp only [List.map_cons, List.map_nil]
        have s4 := b4.size
        (try simp at s4)
        have kc4_0 : ∀ o, w4.cell? ⟨w1.heap.size, o, none⟩ = _ := fun o => b4.cell (p := ⟨w1.heap.size, o, none⟩) (by (first | omega | (simp; omega) | simp))
        have kc4_1 : ∀ o, w4.cell? ⟨w2.heap.size, o, none⟩ = _ := fun o => b4.cell (p := ⟨w2.heap.size, o, none⟩) (by (first | omega | (simp; omega) | simp))
        have kc4_2 : ∀ o, w4.cell? ⟨w3.heap.size, o, none⟩ = _ := fun o => b4.cell (p := ⟨w3.heap.size, o, none⟩) (by (first | omega | (simp; omega) | simp))
        have kz4_0 : w1.heap.size < w4.heap.size := by omega
        have ky4_0 : ¬ w1.heap.size = w4.heap.size := by omega
        have kx4_0 : ¬ w4.heap.size = w1.heap.size := by omega
        have kz4_1 : w2.heap.size < w4.heap.size := by omega
        have ky4_1 : ¬ w2.heap.size = w4.heap.size := by omega
        have kx4_1 : ¬ w4.heap.size = w2.heap.size := by omega
        have kz4_2 : w3.heap.size < w4.heap.size := by omega
        have ky4_2 : ¬ w3.heap.size = w4.heap.size := by omega
        have kx4_2 : ¬ w4.heap.size = w3.heap.size := by omega
        go_wp2_with fail
        refine (mn (spec_Hold t f h s d x _) hH).mono ?_
        rintro y w5 ⟨rfl, b5⟩
        simp only [List.map_cons, List.map_nil]
        have s5 := b5.size
        (try simp at s5)
        have kc5_0 : ∀ o, w5.cell? ⟨w1.heap.size, o, none⟩ = _ := fun o => b5.cell (p := ⟨w1.heap.size, o, none⟩) (by (first | omega | (simp; omega) | simp))
        have kc5_1 : ∀ o, w5.cell? ⟨w2.heap.size, o, none⟩ = _ := fun o => b5.cell (p := ⟨w2.heap.size, o, none⟩) (by (first | omega | (simp; omega) | simp))
        have kc5_2 : ∀ o, w5.cell? ⟨w3.heap.size, o, none⟩ = _ := fun o => b5.cell (p := ⟨w3.heap.size, o, none⟩) (by (first | omega | (simp; omega) | simp))
        have kc5_3 : ∀ o, w5.cell? ⟨w4.heap.size, o, none⟩ = _ := fun o => b5.cell (p := ⟨w4.heap.size, o, none⟩) (by (first | omega | (simp; omega) | simp))
        have kz5_0 : w1.heap.size < w5.heap.size := by omega
        have ky5_0 : ¬ w1.heap.size = w5.heap.size := by omega
        have kx5_0 : ¬ w5.heap.size = w1.heap.size := by omega
        have kz5_1 : w2.heap.size < w5.heap.size := by omega
        have ky5_1 : ¬ w2.heap.size = w5.heap.size := by omega
        have kx5_1 : ¬ w5.heap.size = w2.heap.size := by omega
        have kz5_2 : w3.heap.size < w5.heap.size := by omega
        have ky5_2 : ¬ w3.heap.size = w5.heap.size := by omega
        have kx5_2 : ¬ w5.heap.size = w3.heap.size := by omega
        have kz5_3 : w4.heap.size < w5.heap.size := by omega
        have ky5_3 : ¬ w4.heap.size = w5.heap.size := by omega
        have kx5_3 : ¬ w5.heap.size = w4.heap.size := by omega
        go_wp2_with fail
        refine (my (spec_Sell t f h s d x _) hS).mono ?_
        rintro y w6 ⟨rfl, b6⟩
        simp only [List.map_cons, List.map_nil]
        have s6 := b6.size
        (try simp at s6)
        have kc6_0 : ∀ o, w6.cell? ⟨w1.heap.size, o, none⟩ = _ := fun o => b6.cell (p := ⟨w1.heap.size, o, none⟩) (by (first | omega | (simp; omega) | simp))
        have kc6_1 : ∀ o, w6.cell? ⟨w2.heap.size, o, none⟩ = _ := fun o => b6.cell (p := ⟨w2.heap.size, o, none⟩) (by (first | omega | (simp; omega) | simp))
        have kc6_2 : ∀ o, w6.cell? ⟨w3.heap.size, o, none⟩ = _ := fun o => b6.cell (p := ⟨w3.heap.size, o, none⟩) (by (first | omega | (simp; omega) | simp))
        have kc6_3 : ∀ o, w6.cell? ⟨w4.heap.size, o, none⟩ = _ := fun o => b6.cell (p := ⟨w4.heap.size, o, none⟩) (by (first | omega | (simp; omega) | simp))
        have kz6_0 : w1.heap.size < w6.heap.size := by omega
        have ky6_0 : ¬ w1.heap.size = w6.heap.size := by omega
        have kx6_0 : ¬ w6.heap.size = w1.heap.size := by omega
        have kz6_1 : w2.heap.size < w6.heap.size := by omega
        have ky6_1 : ¬ w2.heap.size = w6.heap.size := by omega
        have kx6_1 : ¬ w6.heap.size = w2.heap.size := by omega
        have kz6_2 : w3.heap.size < w6.heap.size := by omega
        have ky6_2 : ¬ w3.heap.size = w6.heap.size := by omega
        have kx6_2 : ¬ w6.heap.size = w3.heap.size := by omega
        have kz6_3 : w4.heap.size < w6.heap.size := by omega
        have ky6_3 : ¬ w4.heap.size = w6.heap.size := by omega
        have kx6_3 : ¬ w6.heap.size = w4.heap.size := by omega
        go_wp2_with fail
        refine (my (spec_Tie t f h s d x _) hT).mono ?_
        rintro y w7 ⟨rfl, b7⟩
        simp only [List.map_cons, List.map_nil]
        have s7 := b7.size
        (try simp at s7)
        have kc7_0 : ∀ o, w7.cell? ⟨w1.heap.size, o, none⟩ = _ := fun o => b7.cell (p := ⟨w1.heap.size, o, none⟩) (by (first | omega | (simp; omega) | simp))
        have kc7_1 : ∀ o, w7.cell? ⟨w2.heap.size, o, none⟩ = _ := fun o => b7.cell (p := ⟨w2.heap.size, o, none⟩) (by (first | omega | (simp; omega) | simp))
        have kc7_2 : ∀ o, w7.cell? ⟨w3.heap.size, o, none⟩ = _ := fun o => b7.cell (p := ⟨w3.heap.size, o, none⟩) (by (first | omega | (simp; omega) | simp))
        have kc7_3 : ∀ o, w7.cell? ⟨w4.heap.size, o, none⟩ = _ := fun o => b7.cell (p := ⟨w4.heap.size, o, none⟩) (by (first | omega | (simp; omega) | simp))
        have kz7_0 : w1.heap.size < w7.heap.size := by omega
        have ky7_0 : ¬ w1.heap.size = w7.heap.size := by omega
        have kx7_0 : ¬ w7.heap.size = w1.heap.size := by omega
        have kz7_1 : w2.heap.size < w7.heap.size := by omega
        have ky7_1 : ¬ w2.heap.size = w7.heap.size := by omega
        have kx7_1 : ¬ w7.heap.size = w2.heap.size := by omega
        have kz7_2 : w3.heap.size < w7.heap.size := by omega
        have ky7_2 : ¬ w3.heap.size = w7.heap.size := by omega
        have kx7_2 : ¬ w7.heap.size = w3.heap.size := by omega
        have kz7_3 : w4.heap.size < w7.heap.size := by omega
        have ky7_3 : ¬ w4.heap.size = w7.heap.size := by omega
        have kx7_3 : ¬ w7.heap.size = w4.heap.size := by omega
        go_wp2_with fail
        refine (my (impl_Untie t f h s (d + x) x _) hT2).mono ?_
        rintro y w8 ⟨rfl, b8⟩
        simp only [List.map_cons, List.map_nil]
        have s8 := b8.size
        (try simp at s8)
        have kc8_0 : ∀ o, w8.cell? ⟨w1.heap.size, o, none⟩ = _ := fun o => b8.cell (p := ⟨w1.heap.size, o, none⟩) (by (first | omega | (simp; omega) | simp))
        have kc8_1 : ∀ o, w8.cell? ⟨w2.heap.size, o, none⟩ = _ := fun o => b8.cell (p := ⟨w2.heap.size, o, none⟩) (by (first | omega | (simp; omega) | simp))
        have kc8_2 : ∀ o, w8.cell? ⟨w3.heap.size, o, none⟩ = _ := fun o => b8.cell (p := ⟨w3.heap.size, o, none⟩) (by (first | omega | (simp; omega) | simp))
        have kc8_3 : ∀ o, w8.cell? ⟨w4.heap.size, o, none⟩ = _ := fun o => b8.cell (p := ⟨w4.heap.size, o, none⟩) (by (first | omega | (simp; omega) | simp))
        have kz8_0 : w1.heap.size < w8.heap.size := by omega
        have ky8_0 : ¬ w1.heap.size = w8.heap.size := by omega
        have kx8_0 : ¬ w8.heap.size = w1.heap.size := by omega
        have kz8_1 : w2.heap.size < w8.heap.size := by omega
        have ky8_1 : ¬ w2.heap.size = w8.heap.size := by omega
        have kx8_1 : ¬ w8.heap.size = w2.heap.size := by omega
        have kz8_2 : w3.heap.size < w8.heap.size := by omega
        have ky8_2 : ¬ w3.heap.size = w8.heap.size := by omega
        have kx8_2 : ¬ w8.heap.size = w3.heap.size := by omega
        have kz8_3 : w4.heap.size < w8.heap.size := by omega
        have ky8_3 : ¬ w4.heap.size = w8.heap.size := by omega
        have kx8_3 : ¬ w8.heap.size = w4.heap.size := by omega
        go_wp2_with fail
        refine (my (impl_Free t f (h - x) (s + x) d x _) hS2).mono ?_
        rintro y w9 ⟨rfl, b9⟩
        simp only [List.map_cons, List.map_nil]
        have s9 := b9.size
        (try simp at s9)
        have kc9_0 : ∀ o, w9.cell? ⟨w1.heap.size, o, none⟩ = _ := fun o => b9.cell (p := ⟨w1.heap.size, o, none⟩) (by (first | omega | (simp; omega) | simp))
        have kc9_1 : ∀ o, w9.cell? ⟨w2.heap.size, o, none⟩ = _ := fun o => b9.cell (p := ⟨w2.heap.size, o, none⟩) (by (first | omega | (simp; omega) | simp))
        have kc9_2 : ∀ o, w9.cell? ⟨w3.heap.size, o, none⟩ = _ := fun o => b9.cell (p := ⟨w3.heap.size, o, none⟩) (by (first | omega | (simp; omega) | simp))
        have kc9_3 : ∀ o, w9.cell? ⟨w4.heap.size, o, none⟩ = _ := fun o => b9.cell (p := ⟨w4.heap.size, o, none⟩) (by (first | omega | (simp; omega) | simp))
        have kz9_0 : w1.heap.size < w9.heap.size := by omega
        have ky9_0 : ¬ w1.heap.size = w9.heap.size := by omega
        have kx9_0 : ¬ w9.heap.size = w1.heap.size := by omega
        have kz9_1 : w2.heap.size < w9.heap.size := by omega
        have ky9_1 : ¬ w2.heap.size = w9.heap.size := by omega
        have kx9_1 : ¬ w9.heap.size = w2.heap.size := by omega
        have kz9_2 : w3.heap.size < w9.heap.size := by omega
        have ky9_2 : ¬ w3.heap.size = w9.heap.size := by omega
        have kx9_2 : ¬ w9.heap.size = w3.heap.size := by omega
        have kz9_3 : w4.heap.size < w9.heap.size := by omega
        have ky9_3 : ¬ w4.heap.size = w9.heap.size := by omega
        have kx9_3 : ¬ w9.heap.size = w4.heap.size := by omega
        go_wp2
        all_goals (try (exfalso; rename_i hq; apply hq; omega))
        all_goals go_ret
        all_goals exact ⟨by first | rfl | (simp; done) | (simp <;> omega), by (repeat (first | with_reducible exact Below.refl _ _ | with_reducible refine Below.drew ?_ | with_reducible refine below_drewN ?_ _ | (with_reducible refine bel_alloc ?_ ?_ _; (first | omega | (simp; omega) | simp)) | (with_reducible refine bel_set ?_ ?_ _; (first | omega | (simp; omega) | simp)) | (with_reducible refine bel_tr (by assumption) ?_ ?_; (first | omega | (simp; omega) | simp))))⟩
      · skip
        have hS2 : LOk t f (h - x) (s + x) d ∧ (0 ≤ x ∧ x ≤ 60) ∧ LOk t (f + x) (h - x) (s + x - x) d := ⟨hS.2.2, hS.2.1, by have := hS.1; have := hS.2; unfold LOk at *; omega⟩
        have hw1 : wrap64 (f + x) = f + x := by have := hS.1; have := hS.2.1; unfold LOk at *; unfold wrap64; omega
        have hw2 : wrap64 (h - x) = h - x := by have := hS.1; have := hS.2.1; unfold LOk at *; unfold wrap64; omega
        go_wp2_with fail
        refine (mn (impl_Hold t f h s d x _) hH).mono ?_
        rintro y w2 ⟨rfl, b2⟩
        simp only [List.map_cons, List.map_nil]
        have s2 := b2.size
        (try simp at s2)
        have kc2_0 : ∀ o, w2.cell? ⟨w1.heap.size, o, none⟩ = _ := fun o => b2.cell (p := ⟨w1.heap.size, o, none⟩) (by (first | omega | (simp; omega) | simp))
        have kz2_0 : w1.heap.size < w2.heap.size := by omega
        have ky2_0 : ¬ w1.heap.size = w2.heap.size := by omega
        have kx2_0 : ¬ w2.heap.size = w1.heap.size := by omega
        go_wp2_with fail
        refine (my (impl_Sell t f h s d x _) hS).mono ?_
        rintro y w3 ⟨rfl, b3⟩
        simp only [List.map_cons, List.map_nil]
        have s3 := b3.size
        (try simp at s3)
        have kc3_0 : ∀ o, w3.cell? ⟨w1.heap.size, o, none⟩ = _ := fun o => b3.cell (p := ⟨w1.heap.size, o, none⟩) (by (first | omega | (simp; omega) | simp))
        have kc3_1 : ∀ o, w3.cell? ⟨w2.heap.size, o, none⟩ = _ := fun o => b3.cell (p := ⟨w2.heap.size, o, none⟩) (by (first | omega | (simp; omega) | simp))
        have kz3_0 : w1.heap.size < w3.heap.size := by omega
        have ky3_0 : ¬ w1.heap.size = w3.heap.size := by omega
        have kx3_0 : ¬ w3.heap.size = w1.heap.size := by omega
        have kz3_1 : w2.heap.size < w3.heap.size := by omega
        have ky3_1 : ¬ w2.heap.size = w3.heap.size := by omega
        have kx3_1 : ¬ w3.heap.size = w2.heap.size := by omega
        go_wp2_with fail
        refine (mn (impl_Tie t f h s d x _) hT).mono ?_
        rintro y w4 ⟨rfl, b4⟩
        simp only [List.map_cons, List.map_nil]
        have s4 := b4.size
        (try simp at s4)
        have kc4_0 : ∀ o, w4.cell? ⟨w1.heap.size, o, none⟩ = _ := fun o => b4.cell (p := ⟨w1.heap.size, o, none⟩) (by (first | omega | (simp; omega) | simp))
        have kc4_1 : ∀ o, w4.cell? ⟨w2.heap.size, o, none⟩ = _ := fun o => b4.cell (p := ⟨w2.heap.size, o, none⟩) (by (first | omega | (simp; omega) | simp))
        have kc4_2 : ∀ o, w4.cell? ⟨w3.heap.size, o, none⟩ = _ := fun o => b4.cell (p := ⟨w3.heap.size, o, none⟩) (by (first | omega | (simp; omega) | simp))
        have kz4_0 : w1.heap.size < w4.heap.size := by omega
        have ky4_0 : ¬ w1.heap.size = w4.heap.size := by omega
        have kx4_0 : ¬ w4.heap.size = w1.heap.size := by omega
        have kz4_1 : w2.heap.size < w4.heap.size := by omega
        have ky4_1 : ¬ w2.heap.size = w4.heap.size := by omega
        have kx4_1 : ¬ w4.heap.size = w2.heap.size := by omega
        have kz4_2 : w3.heap.size < w4.heap.size := by omega
        have ky4_2 : ¬ w3.heap.size = w4.heap.size := by omega
        have kx4_2 : ¬ w4.heap.size = w3.heap.size := by omega
        go_wp2_with fail
        refine (mn (spec_Hold t f h s d x _) hH).mono ?_
        rintro y w5 ⟨rfl, b5⟩
        simp only [List.map_cons, List.map_nil]
        have s5 := b5.size
        (try simp at s5)
        have kc5_0 : ∀ o, w5.cell? ⟨w1.heap.size, o, none⟩ = _ := fun o => b5.cell (p := ⟨w1.heap.size, o, none⟩) (by (first | omega | (simp; omega) | simp))
        have kc5_1 : ∀ o, w5.cell? ⟨w2.heap.size, o, none⟩ = _ := fun o => b5.cell (p := ⟨w2.heap.size, o, none⟩) (by (first | omega | (simp; omega) | simp))
        have kc5_2 : ∀ o, w5.cell? ⟨w3.heap.size, o, none⟩ = _ := fun o => b5.cell (p := ⟨w3.heap.size, o, none⟩) (by (first | omega | (simp; omega) | simp))
        have kc5_3 : ∀ o, w5.cell? ⟨w4.heap.size, o, none⟩ = _ := fun o => b5.cell (p := ⟨w4.heap.size, o, none⟩) (by (first | omega | (simp; omega) | simp))
        have kz5_0 : w1.heap.size < w5.heap.size := by omega
        have ky5_0 : ¬ w1.heap.size = w5.heap.size := by omega
        have kx5_0 : ¬ w5.heap.size = w1.heap.size := by omega
        have kz5_1 : w2.heap.size < w5.heap.size := by omega
        have ky5_1 : ¬ w2.heap.size = w5.heap.size := by omega
        have kx5_1 : ¬ w5.heap.size = w2.heap.size := by omega
        have kz5_2 : w3.heap.size < w5.heap.size := by omega
        have ky5_2 : ¬ w3.heap.size = w5.heap.size := by omega
        have kx5_2 : ¬ w5.heap.size = w3.heap.size := by omega
        have kz5_3 : w4.heap.size < w5.heap.size := by omega
        have ky5_3 : ¬ w4.heap.size = w5.heap.size := by omega
        have kx5_3 : ¬ w5.heap.size = w4.heap.size := by omega
        go_wp2_with fail
        refine (my (spec_Sell t f h s d x _) hS).mono ?_
        rintro y w6 ⟨rfl, b6⟩
        simp only [List.map_cons, List.map_nil]
        have s6 := b6.size
        (try simp at s6)
        have kc6_0 : ∀ o, w6.cell? ⟨w1.heap.size, o, none⟩ = _ := fun o => b6.cell (p := ⟨w1.heap.size, o, none⟩) (by (first | omega | (simp; omega) | simp))
        have kc6_1 : ∀ o, w6.cell? ⟨w2.heap.size, o, none⟩ = _ := fun o => b6.cell (p := ⟨w2.heap.size, o, none⟩) (by (first | omega | (simp; omega) | simp))
        have kc6_2 : ∀ o, w6.cell? ⟨w3.heap.size, o, none⟩ = _ := fun o => b6.cell (p := ⟨w3.heap.size, o, none⟩) (by (first | omega | (simp; omega) | simp))
        have kc6_3 : ∀ o, w6.cell? ⟨w4.heap.size, o, none⟩ = _ := fun o => b6.cell (p := ⟨w4.heap.size, o, none⟩) (by (first | omega | (simp; omega) | simp))
        have kz6_0 : w1.heap.size < w6.heap.size := by omega
        have ky6_0 : ¬ w1.heap.size = w6.heap.size := by omega
        have kx6_0 : ¬ w6.heap.size = w1.heap.size := by omega
        have kz6_1 : w2.heap.size < w6.heap.size := by omega
        have ky6_1 : ¬ w2.heap.size = w6.heap.size := by omega
        have kx6_1 : ¬ w6.heap.size = w2.heap.size := by omega
        have kz6_2 : w3.heap.size < w6.heap.size := by omega
        have ky6_2 : ¬ w3.heap.size = w6.heap.size := by omega
        have kx6_2 : ¬ w6.heap.size = w3.heap.size := by omega
        have kz6_3 : w4.heap.size < w6.heap.size := by omega
        have ky6_3 : ¬ w4.heap.size = w6.heap.size := by omega
        have kx6_3 : ¬ w6.heap.size = w4.heap.size := by omega
        go_wp2_with fail
        refine (mn (spec_Tie t f h s d x _) hT).mono ?_
        rintro y w7 ⟨rfl, b7⟩
        simp only [List.map_cons, List.map_nil]
        have s7 := b7.size
        (try simp at s7)
        have kc7_0 : ∀ o, w7.cell? ⟨w1.heap.size, o, none⟩ = _ := fun o => b7.cell (p := ⟨w1.heap.size, o, none⟩) (by (first | omega | (simp; omega) | simp))
        have kc7_1 : ∀ o, w7.cell? ⟨w2.heap.size, o, none⟩ = _ := fun o => b7.cell (p := ⟨w2.heap.size, o, none⟩) (by (first | omega | (simp; omega) | simp))
        have kc7_2 : ∀ o, w7.cell? ⟨w3.heap.size, o, none⟩ = _ := fun o => b7.cell (p := ⟨w3.heap.size, o, none⟩) (by (first | omega | (simp; omega) | simp))
        have kc7_3 : ∀ o, w7.cell? ⟨w4.heap.size, o, none⟩ = _ := fun o => b7.cell (p := ⟨w4.heap.size, o, none⟩) (by (first | omega | (simp; omega) | simp))
        have kz7_0 : w1.heap.size < w7.heap.size := by omega
        have ky7_0 : ¬ w1.heap.size = w7.heap.size := by omega
        have kx7_0 : ¬ w7.heap.size = w1.heap.size := by omega
        have kz7_1 : w2.heap.size < w7.heap.size := by omega
        have ky7_1 : ¬ w2.heap.size = w7.heap.size := by omega
        have kx7_1 : ¬ w7.heap.size = w2.heap.size := by omega
        have kz7_2 : w3.heap.size < w7.heap.size := by omega
        have ky7_2 : ¬ w3.heap.size = w7.heap.size := by omega
        have kx7_2 : ¬ w7.heap.size = w3.heap.size := by omega
        have kz7_3 : w4.heap.size < w7.heap.size := by omega
        have ky7_3 : ¬ w4.heap.size = w7.heap.size := by omega
        have kx7_3 : ¬ w7.heap.size = w4.heap.size := by omega
        go_wp2_with fail
        refine (my (impl_Free t f (h - x) (s + x) d x _) hS2).mono ?_
        rintro y w8 ⟨rfl, b8⟩
        simp only [List.map_cons, List.map_nil]
        have s8 := b8.size
        (try simp at s8)
        have kc8_0 : ∀ o, w8.cell? ⟨w1.heap.size, o, none⟩ = _ := fun o => b8.cell (p := ⟨w1.heap.size, o, none⟩) (by (first | omega | (simp; omega) | simp))
        have kc8_1 : ∀ o, w8.cell? ⟨w2.heap.size, o, none⟩ = _ := fun o => b8.cell (p := ⟨w2.heap.size, o, none⟩) (by (first | omega | (simp; omega) | simp))
        have kc8_2 : ∀ o, w8.cell? ⟨w3.heap.size, o, none⟩ = _ := fun o => b8.cell (p := ⟨w3.heap.size, o, none⟩) (by (first | omega | (simp; omega) | simp))
        have kc8_3 : ∀ o, w8.cell? ⟨w4.heap.size, o, none⟩ = _ := fun o => b8.cell (p := ⟨w4.heap.size, o, none⟩) (by (first | omega | (simp; omega) | simp))
        have kz8_0 : w1.heap.size < w8.heap.size := by omega
        have ky8_0 : ¬ w1.heap.size = w8.heap.size := by omega
        have kx8_0 : ¬ w8.heap.size = w1.heap.size := by omega
        have kz8_1 : w2.heap.size < w8.heap.size := by omega
        have ky8_1 : ¬ w2.heap.size = w8.heap.size := by omega
        have kx8_1 : ¬ w8.heap.size = w2.heap.size := by omega
        have kz8_2 : w3.heap.size < w8.heap.size := by omega
        have ky8_2 : ¬ w3.heap.size = w8.heap.size := by omega
        have kx8_2 : ¬ w8.heap.size = w3.heap.size := by omega
        have kz8_3 : w4.heap.size < w8.heap.size := by omega
        have ky8_3 : ¬ w4.heap.size = w8.heap.size := by omega
        have kx8_3 : ¬ w8.heap.size = w4.heap.size := by omega
        go_wp2
        all_goals (try (exfalso; rename_i hq; apply hq; omega))
        all_goals go_ret
        all_goals exact ⟨by first | rfl | (simp; done) | (simp <;> omega), by (repeat (first | with_reducible exact Below.refl _ _ | with_reducible refine Below.drew ?_ | with_reducible refine below_drewN ?_ _ | (with_reducible refine bel_alloc ?_ ?_ _; (first | omega | (simp; omega) | simp)) | (with_reducible refine bel_set ?_ ?_ _; (first | omega | (simp; omega) | simp)) | (with_reducible refine bel_tr (by assumption) ?_ ?_; (first | omega | (simp; omega) | simp))))⟩
    · skip
      by_cases hT : LOk t f h s d ∧ (0 ≤ x ∧ x ≤ 60) ∧ LOk t f h s (d + x)
      · skip
        have hT2 : LOk t f h s (d + x) ∧ (0 ≤ x ∧ x ≤ 60) ∧ LOk t f h s (d + x - x) := ⟨hT.2.2, hT.2.1, by have := hT.1; unfold LOk at *; omega⟩
        go_wp2_with fail
        refine (mn (impl_Hold t f h s d x _) hH).mono ?_
        rintro y w2 ⟨rfl, b2⟩
        simp only [List.map_cons, List.map_nil]
        have s2 := b2.size
        (try simp at s2)
        have kc2_0 : ∀ o, w2.cell? ⟨w1.heap.size, o, none⟩ = _ := fun o => b2.cell (p := ⟨w1.heap.size, o, none⟩) (by (first | omega | (simp; omega) | simp))
        have kz2_0 : w1.heap.size < w2.heap.size := by omega
        have ky2_0 : ¬ w1.heap.size = w2.heap.size := by omega
        have kx2_0 : ¬ w2.heap.size = w1.heap.size := by omega
        go_wp2_with fail
        refine (mn (impl_Sell t f h s d x _) hS).mono ?_
        rintro y w3 ⟨rfl, b3⟩
        simp only [List.map_cons, List.map_nil]
        have s3 := b3.size
        (try simp at s3)
        have kc3_0 : ∀ o, w3.cell? ⟨w1.heap.size, o, none⟩ = _ := fun o => b3.cell (p := ⟨w1.heap.size, o, none⟩) (by (first | omega | (simp; omega) | simp))
        have kc3_1 : ∀ o, w3.cell? ⟨w2.heap.size, o, none⟩ = _ := fun o => b3.cell (p := ⟨w2.heap.size, o, none⟩) (by (first | omega | (simp; omega) | simp))
        have kz3_0 : w1.heap.size < w3.heap.size := by omega
        have ky3_0 : ¬ w1.heap.size = w3.heap.size := by omega
        have kx3_0 : ¬ w3.heap.size = w1.heap.size := by omega
        have kz3_1 : w2.heap.size < w3.heap.size := by omega
        have ky3_1 : ¬ w2.heap.size = w3.heap.size := by omega
        have kx3_1 : ¬ w3.heap.size = w2.heap.size := by omega
        go_wp2_with fail
        refine (my (impl_Tie t f h s d x _) hT).mono ?_
        rintro y w4 ⟨rfl, b4⟩
        simp only [List.map_cons, List.map_nil]
        have s4 := b4.size
        (try simp at s4)
        have kc4_0 : ∀ o, w4.cell? ⟨w1.heap.size, o, none⟩ = _ := fun o => b4.cell (p := ⟨w1.heap.size, o, none⟩) (by (first | omega | (simp; omega) | simp))
        have kc4_1 : ∀ o, w4.cell? ⟨w2.heap.size, o, none⟩ = _ := fun o => b4.cell (p := ⟨w2.heap.size, o, none⟩) (by (first | omega | (simp; omega) | simp))
        have kc4_2 : ∀ o, w4.cell? ⟨w3.heap.size, o, none⟩ = _ := fun o => b4.cell (p := ⟨w3.heap.size, o, none⟩) (by (first | omega | (simp; omega) | simp))
        have kz4_0 : w1.heap.size < w4.heap.size := by omega
        have ky4_0 : ¬ w1.heap.size = w4.heap.size := by omega
        have kx4_0 : ¬ w4.heap.size = w1.heap.size := by omega
        have kz4_1 : w2.heap.size < w4.heap.size := by omega
        have ky4_1 : ¬ w2.heap.size = w4.heap.size := by omega
        have kx4_1 : ¬ w4.heap.size = w2.heap.size := by omega
        have kz4_2 : w3.heap.size < w4.heap.size := by omega
        have ky4_2 : ¬ w3.heap.size = w4.heap.size := by omega
        have kx4_2 : ¬ w4.heap.size = w3.heap.size := by omega
        go_wp2_with fail
        refine (mn (spec_Hold t f h s d x _) hH).mono ?_
        rintro y w5 ⟨rfl, b5⟩
        simp only [List.map_cons, List.map_nil]
        have s5 := b5.size
        (try simp at s5)
        have kc5_0 : ∀ o, w5.cell? ⟨w1.heap.size, o, none⟩ = _ := fun o => b5.cell (p := ⟨w1.heap.size, o, none⟩) (by (first | omega | (simp; omega) | simp))
        have kc5_1 : ∀ o, w5.cell? ⟨w2.heap.size, o, none⟩ = _ := fun o => b5.cell (p := ⟨w2.heap.size, o, none⟩) (by (first | omega | (simp; omega) | simp))
        have kc5_2 : ∀ o, w5.cell? ⟨w3.heap.size, o, none⟩ = _ := fun o => b5.cell (p := ⟨w3.heap.size, o, none⟩) (by (first | omega | (simp; omega) | simp))
        have kc5_3 : ∀ o, w5.cell? ⟨w4.heap.size, o, none⟩ = _ := fun o => b5.cell (p := ⟨w4.heap.size, o, none⟩) (by (first | omega | (simp; omega) | simp))
        have kz5_0 : w1.heap.size < w5.heap.size := by omega
        have ky5_0 : ¬ w1.heap.size = w5.heap.size := by omega
        have kx5_0 : ¬ w5.heap.size = w1.heap.size := by omega
        have kz5_1 : w2.heap.size < w5.heap.size := by omega
        have ky5_1 : ¬ w2.heap.size = w5.heap.size := by omega
        have kx5_1 : ¬ w5.heap.size = w2.heap.size := by omega
        have kz5_2 : w3.heap.size < w5.heap.size := by omega
        have ky5_2 : ¬ w3.heap.size = w5.heap.size := by omega
        have kx5_2 : ¬ w5.heap.size = w3.heap.size := by omega
        have kz5_3 : w4.heap.size < w5.heap.size := by omega
        have ky5_3 : ¬ w4.heap.size = w5.heap.size := by omega
        have kx5_3 : ¬ w5.heap.size = w4.heap.size := by omega
        go_wp2_with fail
        refine (mn (spec_Sell t f h s d x _) hS).mono ?_
        rintro y w6 ⟨rfl, b6⟩
        simp only [List.map_cons, List.map_nil]
        have s6 := b6.size
        (try simp at s6)
        have kc6_0 : ∀ o, w6.cell? ⟨w1.heap.size, o, none⟩ = _ := fun o => b6.cell (p := ⟨w1.heap.size, o, none⟩) (by (first | omega | (simp; omega) | simp))
        have kc6_1 : ∀ o, w6.cell? ⟨w2.heap.size, o, none⟩ = _ := fun o => b6.cell (p := ⟨w2.heap.size, o, none⟩) (by (first | omega | (simp; omega) | simp))
        have kc6_2 : ∀ o, w6.cell? ⟨w3.heap.size, o, none⟩ = _ := fun o => b6.cell (p := ⟨w3.heap.size, o, none⟩) (by (first | omega | (simp; omega) | simp))
        have kc6_3 : ∀ o, w6.cell? ⟨w4.heap.size, o, none⟩ = _ := fun o => b6.cell (p := ⟨w4.heap.size, o, none⟩) (by (first | omega | (simp; omega) | simp))
        have kz6_0 : w1.heap.size < w6.heap.size := by omega
        have ky6_0 : ¬ w1.heap.size = w6.heap.size := by omega
        have kx6_0 : ¬ w6.heap.size = w1.heap.size := by omega
        have kz6_1 : w2.heap.size < w6.heap.size := by omega
        have ky6_1 : ¬ w2.heap.size = w6.heap.size := by omega
        have kx6_1 : ¬ w6.heap.size = w2.heap.size := by omega
        have kz6_2 : w3.heap.size < w6.heap.size := by omega
        have ky6_2 : ¬ w3.heap.size = w6.heap.size := by omega
        have kx6_2 : ¬ w6.heap.size = w3.heap.size := by omega
        have kz6_3 : w4.heap.size < w6.heap.size := by omega
        have ky6_3 : ¬ w4.heap.size = w6.heap.size := by omega
        have kx6_3 : ¬ w6.heap.size = w4.heap.size := by omega
        go_wp2_with fail
        refine (my (spec_Tie t f h s d x _) hT).mono ?_
        rintro y w7 ⟨rfl, b7⟩
        simp only [List.map_cons, List.map_nil]
        have s7 := b7.size
        (try simp at s7)
        have kc7_0 : ∀ o, w7.cell? ⟨w1.heap.size, o, none⟩ = _ := fun o => b7.cell (p := ⟨w1.heap.size, o, none⟩) (by (first | omega | (simp; omega) | simp))
        have kc7_1 : ∀ o, w7.cell? ⟨w2.heap.size, o, none⟩ = _ := fun o => b7.cell (p := ⟨w2.heap.size, o, none⟩) (by (first | omega | (simp; omega) | simp))
        have kc7_2 : ∀ o, w7.cell? ⟨w3.heap.size, o, none⟩ = _ := fun o => b7.cell (p := ⟨w3.heap.size, o, none⟩) (by (first | omega | (simp; omega) | simp))
        have kc7_3 : ∀ o, w7.cell? ⟨w4.heap.size, o, none⟩ = _ := fun o => b7.cell (p := ⟨w4.heap.size, o, none⟩) (by (first | omega | (simp; omega) | simp))
        have kz7_0 : w1.heap.size < w7.heap.size := by omega
        have ky7_0 : ¬ w1.heap.size = w7.heap.size := by omega
        have kx7_0 : ¬ w7.heap.size = w1.heap.size := by omega
        have kz7_1 : w2.heap.size < w7.heap.size := by omega
        have ky7_1 : ¬ w2.heap.size = w7.heap.size := by omega
        have kx7_1 : ¬ w7.heap.size = w2.heap.size := by omega
        have kz7_2 : w3.heap.size < w7.heap.size := by omega
        have ky7_2 : ¬ w3.heap.size = w7.heap.size := by omega
        have kx7_2 : ¬ w7.heap.size = w3.heap.size := by omega
        have kz7_3 : w4.heap.size < w7.heap.size := by omega
        have ky7_3 : ¬ w4.heap.size = w7.heap.size := by omega
        have kx7_3 : ¬ w7.heap.size = w4.heap.size := by omega
        go_wp2_with fail
        refine (my (impl_Untie t f h s (d + x) x _) hT2).mono ?_
        rintro y w8 ⟨rfl, b8⟩
        simp only [List.map_cons, List.map_nil]
        have s8 := b8.size
        (try simp at s8)
        have kc8_0 : ∀ o, w8.cell? ⟨w1.heap.size, o, none⟩ = _ := fun o => b8.cell (p := ⟨w1.heap.size, o, none⟩) (by (first | omega | (simp; omega) | simp))
        have kc8_1 : ∀ o, w8.cell? ⟨w2.heap.size, o, none⟩ = _ := fun o => b8.cell (p := ⟨w2.heap.size, o, none⟩) (by (first | omega | (simp; omega) | simp))
        have kc8_2 : ∀ o, w8.cell? ⟨w3.heap.size, o, none⟩ = _ := fun o => b8.cell (p := ⟨w3.heap.size, o, none⟩) (by (first | omega | (simp; omega) | simp))
        have kc8_3 : ∀ o, w8.cell? ⟨w4.heap.size, o, none⟩ = _ := fun o => b8.cell (p := ⟨w4.heap.size, o, none⟩) (by (first | omega | (simp; omega) | simp))
        have kz8_0 : w1.heap.size < w8.heap.size := by omega
        have ky8_0 : ¬ w1.heap.size = w8.heap.size := by omega
        have kx8_0 : ¬ w8.heap.size = w1.heap.size := by omega
        have kz8_1 : w2.heap.size < w8.heap.size := by omega
        have ky8_1 : ¬ w2.heap.size = w8.heap.size := by omega
        have kx8_1 : ¬ w8.heap.size = w2.heap.size := by omega
        have kz8_2 : w3.heap.size < w8.heap.size := by omega
        have ky8_2 : ¬ w3.heap.size = w8.heap.size := by omega
        have kx8_2 : ¬ w8.heap.size = w3.heap.size := by omega
        have kz8_3 : w4.heap.size < w8.heap.size := by omega
        have ky8_3 : ¬ w4.heap.size = w8.heap.size := by omega
        have kx8_3 : ¬ w8.heap.size = w4.heap.size := by omega
        go_wp2
        all_goals (try (exfalso; rename_i hq; apply hq; omega))
        all_goals go_ret
        all_goals exact ⟨by first | rfl | (simp; done) | (simp <;> omega), by (repeat (first | with_reducible exact Below.refl _ _ | with_reducible refine Below.drew ?_ | with_reducible refine below_drewN ?_ _ | (with_reducible refine bel_alloc ?_ ?_ _; (first | omega | (simp; omega) | simp)) | (with_reducible refine bel_set ?_ ?_ _; (first | omega | (simp; omega) | simp)) | (with_reducible refine bel_tr (by assumption) ?_ ?_; (first | omega | (simp; omega) | simp))))⟩
      · skip
        go_wp2_with fail
        refine (mn (impl_Hold t f h s d x _) hH).mono ?_
        rintro y w2 ⟨rfl, b2⟩
        simp only [List.map_cons, List.map_nil]
        have s2 := b2.size
        (try simp at s2)
        have kc2_0 : ∀ o, w2.cell? ⟨w1.heap.size, o, none⟩ = _ := fun o => b2.cell (p := ⟨w1.heap.size, o, none⟩) (by (first | omega | (simp; omega) | simp))
        have kz2_0 : w1.heap.size < w2.heap.size := by omega
        have ky2_0 : ¬ w1.heap.size = w2.heap.size := by omega
        have kx2_0 : ¬ w2.heap.size = w1.heap.size := by omega
        go_wp2_with fail
        refine (mn (impl_Sell t f h s d x _) hS).mono ?_
        rintro y w3 ⟨rfl, b3⟩
        simp only [List.map_cons, List.map_nil]
        have s3 := b3.size
        (try simp at s3)
        have kc3_0 : ∀ o, w3.cell? ⟨w1.heap.size, o, none⟩ = _ := fun o => b3.cell (p := ⟨w1.heap.size, o, none⟩) (by (first | omega | (simp; omega) | simp))
        have kc3_1 : ∀ o, w3.cell? ⟨w2.heap.size, o, none⟩ = _ := fun o => b3.cell (p := ⟨w2.heap.size, o, none⟩) (by (first | omega | (simp; omega) | simp))
        have kz3_0 : w1.heap.size < w3.heap.size := by omega
        have ky3_0 : ¬ w1.heap.size = w3.heap.size := by omega
        have kx3_0 : ¬ w3.heap.size = w1.heap.size := by omega
        have kz3_1 : w2.heap.size < w3.heap.size := by omega
        have ky3_1 : ¬ w2.heap.size = w3.heap.size := by omega
        have kx3_1 : ¬ w3.heap.size = w2.heap.size := by omega
        go_wp2_with fail
        refine (mn (impl_Tie t f h s d x _) hT).mono ?_
        rintro y w4 ⟨rfl, b4⟩
        simp only [List.map_cons, List.map_nil]
        have s4 := b4.size
        (try simp at s4)
        have kc4_0 : ∀ o, w4.cell? ⟨w1.heap.size, o, none⟩ = _ := fun o => b4.cell (p := ⟨w1.heap.size, o, none⟩) (by (first | omega | (simp; omega) | simp))
        have kc4_1 : ∀ o, w4.cell? ⟨w2.heap.size, o, none⟩ = _ := fun o => b4.cell (p := ⟨w2.heap.size, o, none⟩) (by (first | omega | (simp; omega) | simp))
        have kc4_2 : ∀ o, w4.cell? ⟨w3.heap.size, o, none⟩ = _ := fun o => b4.cell (p := ⟨w3.heap.size, o, none⟩) (by (first | omega | (simp; omega) | simp))
        have kz4_0 : w1.heap.size < w4.heap.size := by omega
        have ky4_0 : ¬ w1.heap.size = w4.heap.size := by omega
        have kx4_0 : ¬ w4.heap.size = w1.heap.size := by omega
        have kz4_1 : w2.heap.size < w4.heap.size := by omega
        have ky4_1 : ¬ w2.heap.size = w4.heap.size := by omega
        have kx4_1 : ¬ w4.heap.size = w2.heap.size := by omega
        have kz4_2 : w3.heap.size < w4.heap.size := by omega
        have ky4_2 : ¬ w3.heap.size = w4.heap.size := by omega
        have kx4_2 : ¬ w4.heap.size = w3.heap.size := by omega
        go_wp2_with fail
        refine (mn (spec_Hold t f h s d x _) hH).mono ?_
        rintro y w5 ⟨rfl, b5⟩
        simp only [List.map_cons, List.map_nil]
        have s5 := b5.size
        (try simp at s5)
        have kc5_0 : ∀ o, w5.cell? ⟨w1.heap.size, o, none⟩ = _ := fun o => b5.cell (p := ⟨w1.heap.size, o, none⟩) (by (first | omega | (simp; omega) | simp))
        have kc5_1 : ∀ o, w5.cell? ⟨w2.heap.size, o, none⟩ = _ := fun o => b5.cell (p := ⟨w2.heap.size, o, none⟩) (by (first | omega | (simp; omega) | simp))
        have kc5_2 : ∀ o, w5.cell? ⟨w3.heap.size, o, none⟩ = _ := fun o => b5.cell (p := ⟨w3.heap.size, o, none⟩) (by (first | omega | (simp; omega) | simp))
        have kc5_3 : ∀ o, w5.cell? ⟨w4.heap.size, o, none⟩ = _ := fun o => b5.cell (p := ⟨w4.heap.size, o, none⟩) (by (first | omega | (simp; omega) | simp))
        have kz5_0 : w1.heap.size < w5.heap.size := by omega
        have ky5_0 : ¬ w1.heap.size = w5.heap.size := by omega
        have kx5_0 : ¬ w5.heap.size = w1.heap.size := by omega
        have kz5_1 : w2.heap.size < w5.heap.size := by omega
        have ky5_1 : ¬ w2.heap.size = w5.heap.size := by omega
        have kx5_1 : ¬ w5.heap.size = w2.heap.size := by omega
        have kz5_2 : w3.heap.size < w5.heap.size := by omega
        have ky5_2 : ¬ w3.heap.size = w5.heap.size := by omega
        have kx5_2 : ¬ w5.heap.size = w3.heap.size := by omega
        have kz5_3 : w4.heap.size < w5.heap.size := by omega
        have ky5_3 : ¬ w4.heap.size = w5.heap.size := by omega
        have kx5_3 : ¬ w5.heap.size = w4.heap.size := by omega
        go_wp2_with fail
        refine (mn (spec_Sell t f h s d x _) hS).mono ?_
        rintro y w6 ⟨rfl, b6⟩
        simp only [List.map_cons, List.map_nil]
        have s6 := b6.size
        (try simp at s6)
        have kc6_0 : ∀ o, w6.cell? ⟨w1.heap.size, o, none⟩ = _ := fun o => b6.cell (p := ⟨w1.heap.size, o, none⟩) (by (first | omega | (simp; omega) | simp))
        have kc6_1 : ∀ o, w6.cell? ⟨w2.heap.size, o, none⟩ = _ := fun o => b6.cell (p := ⟨w2.heap.size, o, none⟩) (by (first | omega | (simp; omega) | simp))
        have kc6_2 : ∀ o, w6.cell? ⟨w3.heap.size, o, none⟩ = _ := fun o => b6.cell (p := ⟨w3.heap.size, o, none⟩) (by (first | omega | (simp; omega) | simp))
        have kc6_3 : ∀ o, w6.cell? ⟨w4.heap.size, o, none⟩ = _ := fun o => b6.cell (p := ⟨w4.heap.size, o, none⟩) (by (first | omega | (simp; omega) | simp))
        have kz6_0 : w1.heap.size < w6.heap.size := by omega
        have ky6_0 : ¬ w1.heap.size = w6.heap.size := by omega
        have kx6_0 : ¬ w6.heap.size = w1.heap.size := by omega
        have kz6_1 : w2.heap.size < w6.heap.size := by omega
        have ky6_1 : ¬ w2.heap.size = w6.heap.size := by omega
        have kx6_1 : ¬ w6.heap.size = w2.heap.size := by omega
        have kz6_2 : w3.heap.size < w6.heap.size := by omega
        have ky6_2 : ¬ w3.heap.size = w6.heap.size := by omega
        have kx6_2 : ¬ w6.heap.size = w3.heap.size := by omega
        have kz6_3 : w4.heap.size < w6.heap.size := by omega
        have ky6_3 : ¬ w4.heap.size = w6.heap.size := by omega
        have kx6_3 : ¬ w6.heap.size = w4.heap.size := by omega
        go_wp2_with fail
        refine (mn (spec_Tie t f h s d x _) hT).mono ?_
        rintro y w7 ⟨rfl, b7⟩
        simp only [List.map_cons, List.map_nil]
        have s7 := b7.size
        (try simp at s7)
        have kc7_0 : ∀ o, w7.cell? ⟨w1.heap.size, o, none⟩ = _ := fun o => b7.cell (p := ⟨w1.heap.size, o, none⟩) (by (first | omega | (simp; omega) | simp))
        have kc7_1 : ∀ o, w7.cell? ⟨w2.heap.size, o, none⟩ = _ := fun o => b7.cell (p := ⟨w2.heap.size, o, none⟩) (by (first | omega | (simp; omega) | simp))
        have kc7_2 : ∀ o, w7.cell? ⟨w3.heap.size, o, none⟩ = _ := fun o => b7.cell (p := ⟨w3.heap.size, o, none⟩) (by (first | omega | (simp; omega) | simp))
        have kc7_3 : ∀ o, w7.cell? ⟨w4.heap.size, o, none⟩ = _ := fun o => b7.cell (p := ⟨w4.heap.size, o, none⟩) (by (first | omega | (simp; omega) | simp))
        have kz7_0 : w1.heap.size < w7.heap.size := by omega
        have ky7_0 : ¬ w1.heap.size = w7.heap.size := by omega
        have kx7_0 : ¬ w7.heap.size = w1.heap.size := by omega
        have kz7_1 : w2.heap.size < w7.heap.size := by omega
        have ky7_1 : ¬ w2.heap.size = w7.heap.size := by omega
        have kx7_1 : ¬ w7.heap.size = w2.heap.size := by omega
        have kz7_2 : w3.heap.size < w7.heap.size := by omega
        have ky7_2 : ¬ w3.heap.size = w7.heap.size := by omega
        have kx7_2 : ¬ w7.heap.size = w3.heap.size := by omega
        have kz7_3 : w4.heap.size < w7.heap.size := by omega
        have ky7_3 : ¬ w4.heap.size = w7.heap.size := by omega
        have kx7_3 : ¬ w7.heap.size = w4.heap.size := by omega
        go_wp2
        all_goals (try (exfalso; rename_i hq; apply hq; omega))
        all_goals go_ret
        all_goals exact ⟨by first | rfl | (simp; done) | (simp <;> omega), by (repeat (first | with_reducible exact Below.refl _ _ | with_reducible refine Below.drew ?_ | with_reducible refine below_drewN ?_ _ | (with_reducible refine bel_alloc ?_ ?_ _; (first | omega | (simp; omega) | simp)) | (with_reducible refine bel_set ?_ ?_ _; (first | omega | (simp; omega) | simp)) | (with_reducible refine bel_tr (by assumption) ?_ ?_; (first | omega | (simp; omega) | simp))))⟩
end Go.Proofs.Ytebmaibohpkfbaa
