/-
  The contract of Agrees of the program. No conditions beyond those stated.
-/
import Derived.Test.YtjlmcppkafjniaaGreatDz
namespace Go.Proofs.YtjlmcppkafjniaaGreat
open Go.RowKit

set_option maxRecDepth 100000 in
set_option maxHeartbeats 16000000 in
theorem iAgrees_any (A : Option Addr) (n c : Nat) (es : List (Nat → Int)) (r : Nat → Int) (x0 x1 x2 x3 x4 : Int) (AE : Option Addr) (k kc : Nat) (qs : List (Nat → Int)) (WA : Option Addr) (N cw : Nat) (S : Nat → Sp) (P : Option Addr) (m pc : Nat) (ps : List (Nat → Int)) (cab now : Int) (ok : Nat → Bool) (w : World) (hn : n ≤ 4194304) (hk : k ≤ 4194304) (hkc : k ≤ kc) (hN : N ≤ 4194304) (hT : tot S N ≤ 4194304) (hm : m ≤ 4194303) (h : Rd w 1 A n es) (hE : Rd w 4 AE k qs) (hW : RdW w WA N S) (hp : Rd w 10 P m ps) (hok : OkF ok n es r now ps cab) :
    Calls Tryz.prog 10 #[.agg #[.slice A n c, .int .i64 (r 1), .int .i64 (r 2), .int .i64 (r 3), .int .i64 (r 4), .int .i64 (r 5), .int .i64 (r 6), .int .i64 (r 7), .int .i64 (r 8)], .agg #[.int .i64 x0, .int .i64 x1, .int .i64 x2, .int .i64 x3, .int .i64 x4, .slice AE k kc, .slice WA N cw], .slice P m pc, .int .i64 cab, .int .i64 now] w (TFB (AGR x0 x1 x2 x3 x4 k qs N S (entL ok r now ps m) ps cab m) w) := by
  obtain ⟨hd, hhd⟩ : ∃ hd, sumTo (heldF ps cab) m = hd := ⟨_, rfl⟩
  obtain ⟨td, htd⟩ : ∃ td, sumTo (tiedF ps cab) m = td := ⟨_, rfl⟩
  have H := Lib.hid h
  have HE := Lib.hid hE
  have HW := Lib.hid hW
  have HP := Lib.hid hp
  have HK := Lib.hid hok
  have HD := Lib.hid hhd
  have HT := Lib.hid htd
  have hm0 : m ≤ 4194304 := by omega
  have hk0 : k ≤ 9223372036854775807 := by omega
  clear h hE hW hp hok hhd htd
  by_cases e0 : COK x0 x1 x2 x3 x4 k qs N S
  case neg =>
    have hR : Hid (¬ AGR x0 x1 x2 x3 x4 k qs N S (entL ok r now ps m) ps cab m) := Lib.hid fun h => e0 (h.1)
    go_enter Tryz.func10, Tryz.ntmps10
    go_wp2
    refine wp_region_held_drew (S := fun w' => w'.cell? ⟨w.heap.size, 0, none⟩ = some (.slice A n c) ∧ w'.cell? ⟨w.heap.size, 1, none⟩ = some (.int .i64 (r 1)) ∧ w'.cell? ⟨w.heap.size, 2, none⟩ = some (.int .i64 (r 2)) ∧ w'.cell? ⟨w.heap.size, 3, none⟩ = some (.int .i64 (r 3)) ∧ w'.cell? ⟨w.heap.size, 4, none⟩ = some (.int .i64 (r 4)) ∧ w'.cell? ⟨w.heap.size, 5, none⟩ = some (.int .i64 (r 5)) ∧ w'.cell? ⟨w.heap.size, 6, none⟩ = some (.int .i64 (r 6)) ∧ w'.cell? ⟨w.heap.size, 7, none⟩ = some (.int .i64 (r 7)) ∧ w'.cell? ⟨w.heap.size, 8, none⟩ = some (.int .i64 (r 8)) ∧ w'.cell? ⟨w.heap.size + 1, 0, none⟩ = some (.int .i64 x0) ∧ w'.cell? ⟨w.heap.size + 1, 1, none⟩ = some (.int .i64 x1) ∧ w'.cell? ⟨w.heap.size + 1, 2, none⟩ = some (.int .i64 x2) ∧ w'.cell? ⟨w.heap.size + 1, 3, none⟩ = some (.int .i64 x3) ∧ w'.cell? ⟨w.heap.size + 1, 4, none⟩ = some (.int .i64 x4) ∧ w'.cell? ⟨w.heap.size + 1, 5, none⟩ = some (.slice AE k kc) ∧ w'.cell? ⟨w.heap.size + 1, 6, none⟩ = some (.slice WA N cw)) (by kernel_rfl) ?_ (fun hHeld => ?_)
    · (try dsimp only); (repeat' apply And.intro) <;> (first | (go_keep; done) | (go_simp; done))
    refine wpAnyH_take (i := 0) (oi := _) (v := ?_) rfl (by kernel_rfl) (by kernel_rfl) (by kernel_rfl) (fun _ _ _ h => h) (Or.inl ⟨by rfl, ?_⟩) (by assumption) ?_
    rotate_left
    · (intro w hSw; (try dsimp only at hSw); go_simp) <;> with_reducible rfl
    simp only [Act.put, List.getElem_toArray, List.getElem_cons_zero, List.setIfInBounds_toArray, List.set_cons_zero, List.set_cons_succ]
    refine wpAnyH_ready (rs := [1]) (by kernel_rfl) (by simp) ?_
    refine AllReadyH.cons (o := _) rfl (fun K hK => ?_) AllReadyH.nil
    go_simp
    (go_at_call 9; refine (tn (iCabinOk_any x0 x1 x2 x3 x4 AE k kc qs WA N cw S _ hk0 hkc hN hT (HE.out.below (by (repeat (first | with_reducible exact Below.refl _ _ | with_reducible refine Below.drew ?_ | with_reducible refine below_drewN ?_ _ | (with_reducible refine bel_alloc ?_ ?_ _; (first | omega | (simp; omega) | simp)) | (with_reducible refine bel_set ?_ ?_ _; (first | omega | (simp; omega) | simp)) | (with_reducible refine bel_tr (by assumption) ?_ ?_; (first | omega | (simp; omega) | simp)))))) (HW.out.below (by (repeat (first | with_reducible exact Below.refl _ _ | with_reducible refine Below.drew ?_ | with_reducible refine below_drewN ?_ _ | (with_reducible refine bel_alloc ?_ ?_ _; (first | omega | (simp; omega) | simp)) | (with_reducible refine bel_set ?_ ?_ _; (first | omega | (simp; omega) | simp)) | (with_reducible refine bel_tr (by assumption) ?_ ?_; (first | omega | (simp; omega) | simp))))))) e0).mono ?_; rintro y wA ⟨rfl, hbA⟩; have bcA := bcell hbA; obtain ⟨hcA, hfA⟩ := bcA; have ksA := hbA.size; (try simp at ksA); have kcA0 : ∀ o, wA.cell? ⟨w.heap.size, o, none⟩ = _ := (fun o => hbA.cell (p := ⟨w.heap.size, o, none⟩) (by (first | omega | (simp; omega) | simp))); have kfA0 : ∀ o, wA.frozen? ⟨w.heap.size, o, none⟩ = _ := (fun o => hbA.frozen (p := ⟨w.heap.size, o, none⟩) (by (first | omega | (simp; omega) | simp))); have kcA1 : ∀ o, wA.cell? ⟨w.heap.size + 1, o, none⟩ = _ := (fun o => hbA.cell (p := ⟨w.heap.size + 1, o, none⟩) (by (first | omega | (simp; omega) | simp))); have kfA1 : ∀ o, wA.frozen? ⟨w.heap.size + 1, o, none⟩ = _ := (fun o => hbA.frozen (p := ⟨w.heap.size + 1, o, none⟩) (by (first | omega | (simp; omega) | simp))); have kzA0 : w.heap.size < wA.heap.size := (by have hh := hbA.size; (try simp at hh); omega); have kzA1 : w.heap.size + 1 < wA.heap.size := (by have hh := hbA.size; (try simp at hh); omega))
    go_wp2_with fail
    clear hHeld
    refine hK.out _ _ ?_ (fun hHeld => ?_)
    · (try dsimp only); (repeat' apply And.intro) <;> (first | (go_keep; done) | (go_simp; done))
    clear hK
    try simp only [Act.put, List.getElem_toArray, List.getElem_cons_succ, List.getElem_cons_zero, List.setIfInBounds_toArray, List.set_cons_zero, List.set_cons_succ]
    refine wpAnyH_take (i := 2) (oi := _) (v := ?_) rfl (by kernel_rfl) (by kernel_rfl) (by kernel_rfl) (fun _ _ _ h => h) (Or.inl ⟨by rfl, ?_⟩) (by assumption) ?_
    rotate_left
    · (intro w hSw; (try dsimp only at hSw); go_simp) <;> with_reducible rfl
    simp only [Act.put, List.getElem_toArray, List.getElem_cons_succ, List.getElem_cons_zero, List.setIfInBounds_toArray, List.set_cons_zero, List.set_cons_succ]
    refine wpAnyH_take (i := 3) (oi := _) (v := undef) rfl (by kernel_rfl) (by kernel_rfl) (by kernel_rfl) (fun _ _ _ h => h) (Or.inr ⟨by rfl, rfl⟩) (by assumption) ?_
    simp only [Act.put, List.getElem_toArray, List.getElem_cons_succ, List.getElem_cons_zero, List.setIfInBounds_toArray, List.set_cons_zero, List.set_cons_succ]
    refine wpAnyH_take (i := 4) (oi := _) (v := undef) rfl (by kernel_rfl) (by kernel_rfl) (by kernel_rfl) (fun _ _ _ h => h) (Or.inr ⟨by rfl, rfl⟩) (by assumption) ?_
    simp only [Act.put, List.getElem_toArray, List.getElem_cons_succ, List.getElem_cons_zero, List.setIfInBounds_toArray, List.set_cons_zero, List.set_cons_succ]
    refine wpAnyH_take (i := 5) (oi := _) (v := undef) rfl (by kernel_rfl) (by kernel_rfl) (by kernel_rfl) (fun _ _ _ h => h) (Or.inr ⟨by rfl, rfl⟩) (by assumption) ?_
    simp only [Act.put, List.getElem_toArray, List.getElem_cons_succ, List.getElem_cons_zero, List.setIfInBounds_toArray, List.set_cons_zero, List.set_cons_succ]
    refine wpAnyH_take (i := 6) (oi := _) (v := undef) rfl (by kernel_rfl) (by kernel_rfl) (by kernel_rfl) (fun _ _ _ h => h) (Or.inr ⟨by rfl, rfl⟩) (by assumption) ?_
    simp only [Act.put, List.getElem_toArray, List.getElem_cons_succ, List.getElem_cons_zero, List.setIfInBounds_toArray, List.set_cons_zero, List.set_cons_succ]
    refine wpAnyH_take (i := 7) (oi := _) (v := undef) rfl (by kernel_rfl) (by kernel_rfl) (by kernel_rfl) (fun _ _ _ h => h) (Or.inr ⟨by rfl, rfl⟩) (by assumption) ?_
    simp only [Act.put, List.getElem_toArray, List.getElem_cons_succ, List.getElem_cons_zero, List.setIfInBounds_toArray, List.set_cons_zero, List.set_cons_succ]
    refine wpAnyH_take (i := 8) (oi := _) (v := undef) rfl (by kernel_rfl) (by kernel_rfl) (by kernel_rfl) (fun _ _ _ h => h) (Or.inr ⟨by rfl, rfl⟩) (by assumption) ?_
    simp only [Act.put, List.getElem_toArray, List.getElem_cons_succ, List.getElem_cons_zero, List.setIfInBounds_toArray, List.set_cons_zero, List.set_cons_succ]
    refine wpAnyH_take (i := 9) (oi := _) (v := undef) rfl (by kernel_rfl) (by kernel_rfl) (by kernel_rfl) (fun _ _ _ h => h) (Or.inr ⟨by rfl, rfl⟩) (by assumption) ?_
    simp only [Act.put, List.getElem_toArray, List.getElem_cons_succ, List.getElem_cons_zero, List.setIfInBounds_toArray, List.set_cons_zero, List.set_cons_succ]
    refine wpAnyH_take (i := 10) (oi := _) (v := undef) rfl (by kernel_rfl) (by kernel_rfl) (by kernel_rfl) (fun _ _ _ h => h) (Or.inr ⟨by rfl, rfl⟩) (by assumption) ?_
    simp only [Act.put, List.getElem_toArray, List.getElem_cons_succ, List.getElem_cons_zero, List.setIfInBounds_toArray, List.set_cons_zero, List.set_cons_succ]
    refine wpAnyH_take (i := 11) (oi := _) (v := ?_) rfl (by kernel_rfl) (by kernel_rfl) (by kernel_rfl) (fun _ _ _ h => h) (Or.inl ⟨by rfl, ?_⟩) (by assumption) ?_
    rotate_left
    · (intro w hSw; (try dsimp only at hSw); go_simp) <;> with_reducible rfl
    simp only [Act.put, List.getElem_toArray, List.getElem_cons_succ, List.getElem_cons_zero, List.setIfInBounds_toArray, List.set_cons_zero, List.set_cons_succ]
    refine wpAnyH_take (i := 12) (oi := _) (v := ?_) rfl (by kernel_rfl) (by kernel_rfl) (by kernel_rfl) (fun _ _ _ h => h) (Or.inl ⟨by rfl, ?_⟩) (by assumption) ?_
    rotate_left
    · (intro w hSw; (try dsimp only at hSw); go_simp) <;> with_reducible rfl
    simp only [Act.put, List.getElem_toArray, List.getElem_cons_succ, List.getElem_cons_zero, List.setIfInBounds_toArray, List.set_cons_zero, List.set_cons_succ]
    refine wpAnyH_take (i := 13) (oi := _) (v := undef) rfl (by kernel_rfl) (by kernel_rfl) (by kernel_rfl) (fun _ _ _ h => h) (Or.inr ⟨by rfl, rfl⟩) (by assumption) ?_
    simp only [Act.put, List.getElem_toArray, List.getElem_cons_succ, List.getElem_cons_zero, List.setIfInBounds_toArray, List.set_cons_zero, List.set_cons_succ]
    refine wpAnyH_take (i := 14) (oi := _) (v := undef) rfl (by kernel_rfl) (by kernel_rfl) (by kernel_rfl) (fun _ _ _ h => h) (Or.inr ⟨by rfl, rfl⟩) (by assumption) ?_
    simp only [Act.put, List.getElem_toArray, List.getElem_cons_succ, List.getElem_cons_zero, List.setIfInBounds_toArray, List.set_cons_zero, List.set_cons_succ]
    refine wpAnyH_take (i := 15) (oi := _) (v := undef) rfl (by kernel_rfl) (by kernel_rfl) (by kernel_rfl) (fun _ _ _ h => h) (Or.inr ⟨by rfl, rfl⟩) (by assumption) ?_
    simp only [Act.put, List.getElem_toArray, List.getElem_cons_succ, List.getElem_cons_zero, List.setIfInBounds_toArray, List.set_cons_zero, List.set_cons_succ]
    refine wpAnyH_take (i := 16) (oi := _) (v := undef) rfl (by kernel_rfl) (by kernel_rfl) (by kernel_rfl) (fun _ _ _ h => h) (Or.inr ⟨by rfl, rfl⟩) (by assumption) ?_
    simp only [Act.put, List.getElem_toArray, List.getElem_cons_succ, List.getElem_cons_zero, List.setIfInBounds_toArray, List.set_cons_zero, List.set_cons_succ]
    refine wpAnyH_take (i := 17) (oi := _) (v := undef) rfl (by kernel_rfl) (by kernel_rfl) (by kernel_rfl) (fun _ _ _ h => h) (Or.inr ⟨by rfl, rfl⟩) (by assumption) ?_
    simp only [Act.put, List.getElem_toArray, List.getElem_cons_succ, List.getElem_cons_zero, List.setIfInBounds_toArray, List.set_cons_zero, List.set_cons_succ]
    refine wpAnyH_take (i := 18) (oi := _) (v := undef) rfl (by kernel_rfl) (by kernel_rfl) (by kernel_rfl) (fun _ _ _ h => h) (Or.inr ⟨by rfl, rfl⟩) (by assumption) ?_
    simp only [Act.put, List.getElem_toArray, List.getElem_cons_succ, List.getElem_cons_zero, List.setIfInBounds_toArray, List.set_cons_zero, List.set_cons_succ]
    refine wpAnyH_take (i := 19) (oi := _) (v := undef) rfl (by kernel_rfl) (by kernel_rfl) (by kernel_rfl) (fun _ _ _ h => h) (Or.inr ⟨by rfl, rfl⟩) (by assumption) ?_
    simp only [Act.put, List.getElem_toArray, List.getElem_cons_succ, List.getElem_cons_zero, List.setIfInBounds_toArray, List.set_cons_zero, List.set_cons_succ]
    refine wpAnyH_take (i := 20) (oi := _) (v := ?_) rfl (by kernel_rfl) (by kernel_rfl) (by kernel_rfl) (fun _ _ _ h => h) (Or.inl ⟨by rfl, ?_⟩) (by assumption) ?_
    rotate_left
    · (intro w hSw; (try dsimp only at hSw); go_simp) <;> with_reducible rfl
    simp only [Act.put, List.getElem_toArray, List.getElem_cons_succ, List.getElem_cons_zero, List.setIfInBounds_toArray, List.set_cons_zero, List.set_cons_succ]
    refine wpAnyH_take (i := 21) (oi := _) (v := ?_) rfl (by kernel_rfl) (by kernel_rfl) (by kernel_rfl) (fun _ _ _ h => h) (Or.inl ⟨by rfl, ?_⟩) (by assumption) ?_
    rotate_left
    · (intro w hSw; (try dsimp only at hSw); go_simp) <;> with_reducible rfl
    simp only [Act.put, List.getElem_toArray, List.getElem_cons_succ, List.getElem_cons_zero, List.setIfInBounds_toArray, List.set_cons_zero, List.set_cons_succ]
    refine wpAnyH_take (i := 22) (oi := _) (v := undef) rfl (by kernel_rfl) (by kernel_rfl) (by kernel_rfl) (fun _ _ _ h => h) (Or.inr ⟨by rfl, rfl⟩) (by assumption) ?_
    simp only [Act.put, List.getElem_toArray, List.getElem_cons_succ, List.getElem_cons_zero, List.setIfInBounds_toArray, List.set_cons_zero, List.set_cons_succ]
    refine wpAnyH_take (i := 23) (oi := _) (v := undef) rfl (by kernel_rfl) (by kernel_rfl) (by kernel_rfl) (fun _ _ _ h => h) (Or.inr ⟨by rfl, rfl⟩) (by assumption) ?_
    simp only [Act.put, List.getElem_toArray, List.getElem_cons_succ, List.getElem_cons_zero, List.setIfInBounds_toArray, List.set_cons_zero, List.set_cons_succ]
    refine wpAnyH_take (i := 24) (oi := _) (v := undef) rfl (by kernel_rfl) (by kernel_rfl) (by kernel_rfl) (fun _ _ _ h => h) (Or.inr ⟨by rfl, rfl⟩) (by assumption) ?_
    simp only [Act.put, List.getElem_toArray, List.getElem_cons_succ, List.getElem_cons_zero, List.setIfInBounds_toArray, List.set_cons_zero, List.set_cons_succ]
    refine wpAnyH_take (i := 25) (oi := _) (v := undef) rfl (by kernel_rfl) (by kernel_rfl) (by kernel_rfl) (fun _ _ _ h => h) (Or.inr ⟨by rfl, rfl⟩) (by assumption) ?_
    simp only [Act.put, List.getElem_toArray, List.getElem_cons_succ, List.getElem_cons_zero, List.setIfInBounds_toArray, List.set_cons_zero, List.set_cons_succ]
    refine wpAnyH_take (i := 26) (oi := _) (v := undef) rfl (by kernel_rfl) (by kernel_rfl) (by kernel_rfl) (fun _ _ _ h => h) (Or.inr ⟨by rfl, rfl⟩) (by assumption) ?_
    simp only [Act.put, List.getElem_toArray, List.getElem_cons_succ, List.getElem_cons_zero, List.setIfInBounds_toArray, List.set_cons_zero, List.set_cons_succ]
    refine wpAnyH_take (i := 27) (oi := _) (v := undef) rfl (by kernel_rfl) (by kernel_rfl) (by kernel_rfl) (fun _ _ _ h => h) (Or.inr ⟨by rfl, rfl⟩) (by assumption) ?_
    simp only [Act.put, List.getElem_toArray, List.getElem_cons_succ, List.getElem_cons_zero, List.setIfInBounds_toArray, List.set_cons_zero, List.set_cons_succ]
    refine wpAnyH_take (i := 28) (oi := _) (v := undef) rfl (by kernel_rfl) (by kernel_rfl) (by kernel_rfl) (fun _ _ _ h => h) (Or.inr ⟨by rfl, rfl⟩) (by assumption) ?_
    simp only [Act.put, List.getElem_toArray, List.getElem_cons_succ, List.getElem_cons_zero, List.setIfInBounds_toArray, List.set_cons_zero, List.set_cons_succ]
    refine wpAnyH_take (i := 29) (oi := _) (v := ?_) rfl (by kernel_rfl) (by kernel_rfl) (by kernel_rfl) (fun _ _ _ h => h) (Or.inl ⟨by rfl, ?_⟩) (by assumption) ?_
    rotate_left
    · (intro w hSw; (try dsimp only at hSw); go_simp) <;> with_reducible rfl
    simp only [Act.put, List.getElem_toArray, List.getElem_cons_succ, List.getElem_cons_zero, List.setIfInBounds_toArray, List.set_cons_zero, List.set_cons_succ]
    refine wpAnyH_take (i := 30) (oi := _) (v := ?_) rfl (by kernel_rfl) (by kernel_rfl) (by kernel_rfl) (fun _ _ _ h => h) (Or.inl ⟨by rfl, ?_⟩) (by assumption) ?_
    rotate_left
    · (intro w hSw; (try dsimp only at hSw); go_simp) <;> with_reducible rfl
    simp only [Act.put, List.getElem_toArray, List.getElem_cons_succ, List.getElem_cons_zero, List.setIfInBounds_toArray, List.set_cons_zero, List.set_cons_succ]
    refine wpAnyH_take (i := 31) (oi := _) (v := undef) rfl (by kernel_rfl) (by kernel_rfl) (by kernel_rfl) (fun _ _ _ h => h) (Or.inr ⟨by rfl, rfl⟩) (by assumption) ?_
    simp only [Act.put, List.getElem_toArray, List.getElem_cons_succ, List.getElem_cons_zero, List.setIfInBounds_toArray, List.set_cons_zero, List.set_cons_succ]
    refine wpAnyH_take (i := 32) (oi := _) (v := undef) rfl (by kernel_rfl) (by kernel_rfl) (by kernel_rfl) (fun _ _ _ h => h) (Or.inr ⟨by rfl, rfl⟩) (by assumption) ?_
    simp only [Act.put, List.getElem_toArray, List.getElem_cons_succ, List.getElem_cons_zero, List.setIfInBounds_toArray, List.set_cons_zero, List.set_cons_succ]
    refine wpAnyH_take (i := 33) (oi := _) (v := undef) rfl (by kernel_rfl) (by kernel_rfl) (by kernel_rfl) (fun _ _ _ h => h) (Or.inr ⟨by rfl, rfl⟩) (by assumption) ?_
    simp only [Act.put, List.getElem_toArray, List.getElem_cons_succ, List.getElem_cons_zero, List.setIfInBounds_toArray, List.set_cons_zero, List.set_cons_succ]
    refine wpAnyH_take (i := 34) (oi := _) (v := undef) rfl (by kernel_rfl) (by kernel_rfl) (by kernel_rfl) (fun _ _ _ h => h) (Or.inr ⟨by rfl, rfl⟩) (by assumption) ?_
    simp only [Act.put, List.getElem_toArray, List.getElem_cons_succ, List.getElem_cons_zero, List.setIfInBounds_toArray, List.set_cons_zero, List.set_cons_succ]
    refine wpAnyH_take (i := 35) (oi := _) (v := undef) rfl (by kernel_rfl) (by kernel_rfl) (by kernel_rfl) (fun _ _ _ h => h) (Or.inr ⟨by rfl, rfl⟩) (by assumption) ?_
    simp only [Act.put, List.getElem_toArray, List.getElem_cons_succ, List.getElem_cons_zero, List.setIfInBounds_toArray, List.set_cons_zero, List.set_cons_succ]
    refine wpAnyH_take (i := 36) (oi := _) (v := undef) rfl (by kernel_rfl) (by kernel_rfl) (by kernel_rfl) (fun _ _ _ h => h) (Or.inr ⟨by rfl, rfl⟩) (by assumption) ?_
    simp only [Act.put, List.getElem_toArray, List.getElem_cons_succ, List.getElem_cons_zero, List.setIfInBounds_toArray, List.set_cons_zero, List.set_cons_succ]
    refine wpAnyH_take (i := 37) (oi := _) (v := undef) rfl (by kernel_rfl) (by kernel_rfl) (by kernel_rfl) (fun _ _ _ h => h) (Or.inr ⟨by rfl, rfl⟩) (by assumption) ?_
    simp only [Act.put, List.getElem_toArray, List.getElem_cons_succ, List.getElem_cons_zero, List.setIfInBounds_toArray, List.set_cons_zero, List.set_cons_succ]
    refine wpAnyH_take (i := 38) (oi := _) (v := ?_) rfl (by kernel_rfl) (by kernel_rfl) (by kernel_rfl) (fun _ _ _ h => h) (Or.inl ⟨by rfl, ?_⟩) (by assumption) ?_
    rotate_left
    · (intro w hSw; (try dsimp only at hSw); go_simp) <;> with_reducible rfl
    simp only [Act.put, List.getElem_toArray, List.getElem_cons_succ, List.getElem_cons_zero, List.setIfInBounds_toArray, List.set_cons_zero, List.set_cons_succ]
    refine wpAnyH_take (i := 39) (oi := _) (v := ?_) rfl (by kernel_rfl) (by kernel_rfl) (by kernel_rfl) (fun _ _ _ h => h) (Or.inl ⟨by rfl, ?_⟩) (by assumption) ?_
    rotate_left
    · (intro w hSw; (try dsimp only at hSw); go_simp) <;> with_reducible rfl
    simp only [Act.put, List.getElem_toArray, List.getElem_cons_succ, List.getElem_cons_zero, List.setIfInBounds_toArray, List.set_cons_zero, List.set_cons_succ]
    refine wpAnyH_done (by kernel_rfl) ?_ _
    go_wp2
    go_ret
    exact .inr ⟨rfl, hR.out, by (repeat (first | with_reducible exact Below.refl _ _ | with_reducible refine Below.drew ?_ | with_reducible refine below_drewN ?_ _ | (with_reducible refine bel_alloc ?_ ?_ _; (first | omega | (simp; omega) | simp)) | (with_reducible refine bel_set ?_ ?_ _; (first | omega | (simp; omega) | simp)) | (with_reducible refine bel_tr (by assumption) ?_ ?_; (first | omega | (simp; omega) | simp))))⟩
  by_cases e1 : SamE qs (sortR (entL ok r now ps m))
  case neg =>
    have hR : Hid (¬ AGR x0 x1 x2 x3 x4 k qs N S (entL ok r now ps m) ps cab m) := Lib.hid fun h => e1 (h.2.1)
    go_enter Tryz.func10, Tryz.ntmps10
    go_wp2
    refine wp_region_held_drew (S := fun w' => w'.cell? ⟨w.heap.size, 0, none⟩ = some (.slice A n c) ∧ w'.cell? ⟨w.heap.size, 1, none⟩ = some (.int .i64 (r 1)) ∧ w'.cell? ⟨w.heap.size, 2, none⟩ = some (.int .i64 (r 2)) ∧ w'.cell? ⟨w.heap.size, 3, none⟩ = some (.int .i64 (r 3)) ∧ w'.cell? ⟨w.heap.size, 4, none⟩ = some (.int .i64 (r 4)) ∧ w'.cell? ⟨w.heap.size, 5, none⟩ = some (.int .i64 (r 5)) ∧ w'.cell? ⟨w.heap.size, 6, none⟩ = some (.int .i64 (r 6)) ∧ w'.cell? ⟨w.heap.size, 7, none⟩ = some (.int .i64 (r 7)) ∧ w'.cell? ⟨w.heap.size, 8, none⟩ = some (.int .i64 (r 8)) ∧ w'.cell? ⟨w.heap.size + 1, 0, none⟩ = some (.int .i64 x0) ∧ w'.cell? ⟨w.heap.size + 1, 1, none⟩ = some (.int .i64 x1) ∧ w'.cell? ⟨w.heap.size + 1, 2, none⟩ = some (.int .i64 x2) ∧ w'.cell? ⟨w.heap.size + 1, 3, none⟩ = some (.int .i64 x3) ∧ w'.cell? ⟨w.heap.size + 1, 4, none⟩ = some (.int .i64 x4) ∧ w'.cell? ⟨w.heap.size + 1, 5, none⟩ = some (.slice AE k kc) ∧ w'.cell? ⟨w.heap.size + 1, 6, none⟩ = some (.slice WA N cw)) (by kernel_rfl) ?_ (fun hHeld => ?_)
    · (try dsimp only); (repeat' apply And.intro) <;> (first | (go_keep; done) | (go_simp; done))
    refine wpAnyH_take (i := 0) (oi := _) (v := ?_) rfl (by kernel_rfl) (by kernel_rfl) (by kernel_rfl) (fun _ _ _ h => h) (Or.inl ⟨by rfl, ?_⟩) (by assumption) ?_
    rotate_left
    · (intro w hSw; (try dsimp only at hSw); go_simp) <;> with_reducible rfl
    simp only [Act.put, List.getElem_toArray, List.getElem_cons_zero, List.setIfInBounds_toArray, List.set_cons_zero, List.set_cons_succ]
    refine wpAnyH_ready (rs := [1]) (by kernel_rfl) (by simp) ?_
    refine AllReadyH.cons (o := _) rfl (fun K hK => ?_) AllReadyH.nil
    go_simp
    (go_at_call 9; refine (ty (iCabinOk_any x0 x1 x2 x3 x4 AE k kc qs WA N cw S _ hk0 hkc hN hT (HE.out.below (by (repeat (first | with_reducible exact Below.refl _ _ | with_reducible refine Below.drew ?_ | with_reducible refine below_drewN ?_ _ | (with_reducible refine bel_alloc ?_ ?_ _; (first | omega | (simp; omega) | simp)) | (with_reducible refine bel_set ?_ ?_ _; (first | omega | (simp; omega) | simp)) | (with_reducible refine bel_tr (by assumption) ?_ ?_; (first | omega | (simp; omega) | simp)))))) (HW.out.below (by (repeat (first | with_reducible exact Below.refl _ _ | with_reducible refine Below.drew ?_ | with_reducible refine below_drewN ?_ _ | (with_reducible refine bel_alloc ?_ ?_ _; (first | omega | (simp; omega) | simp)) | (with_reducible refine bel_set ?_ ?_ _; (first | omega | (simp; omega) | simp)) | (with_reducible refine bel_tr (by assumption) ?_ ?_; (first | omega | (simp; omega) | simp))))))) e0).mono ?_; rintro y wA ⟨rfl, hbA⟩; have bcA := bcell hbA; obtain ⟨hcA, hfA⟩ := bcA; have ksA := hbA.size; (try simp at ksA); have kcA0 : ∀ o, wA.cell? ⟨w.heap.size, o, none⟩ = _ := (fun o => hbA.cell (p := ⟨w.heap.size, o, none⟩) (by (first | omega | (simp; omega) | simp))); have kfA0 : ∀ o, wA.frozen? ⟨w.heap.size, o, none⟩ = _ := (fun o => hbA.frozen (p := ⟨w.heap.size, o, none⟩) (by (first | omega | (simp; omega) | simp))); have kcA1 : ∀ o, wA.cell? ⟨w.heap.size + 1, o, none⟩ = _ := (fun o => hbA.cell (p := ⟨w.heap.size + 1, o, none⟩) (by (first | omega | (simp; omega) | simp))); have kfA1 : ∀ o, wA.frozen? ⟨w.heap.size + 1, o, none⟩ = _ := (fun o => hbA.frozen (p := ⟨w.heap.size + 1, o, none⟩) (by (first | omega | (simp; omega) | simp))); have kzA0 : w.heap.size < wA.heap.size := (by have hh := hbA.size; (try simp at hh); omega); have kzA1 : w.heap.size + 1 < wA.heap.size := (by have hh := hbA.size; (try simp at hh); omega))
    go_wp2_with fail
    clear hHeld
    refine hK.out _ _ ?_ (fun hHeld => ?_)
    · (try dsimp only); (repeat' apply And.intro) <;> (first | (go_keep; done) | (go_simp; done))
    clear hK
    try simp only [Act.put, List.getElem_toArray, List.getElem_cons_succ, List.getElem_cons_zero, List.setIfInBounds_toArray, List.set_cons_zero, List.set_cons_succ]
    refine wpAnyH_take (i := 2) (oi := _) (v := ?_) rfl (by kernel_rfl) (by kernel_rfl) (by kernel_rfl) (fun _ _ _ h => h) (Or.inl ⟨by rfl, ?_⟩) (by assumption) ?_
    rotate_left
    · (intro w hSw; (try dsimp only at hSw); go_simp) <;> with_reducible rfl
    simp only [Act.put, List.getElem_toArray, List.getElem_cons_succ, List.getElem_cons_zero, List.setIfInBounds_toArray, List.set_cons_zero, List.set_cons_succ]
    refine wpAnyH_take (i := 3) (oi := _) (v := ?_) rfl (by kernel_rfl) (by kernel_rfl) (by kernel_rfl) (fun _ _ _ h => h) (Or.inl ⟨by rfl, ?_⟩) (by assumption) ?_
    rotate_left
    · (intro w hSw; (try dsimp only at hSw); go_simp) <;> with_reducible rfl
    simp only [Act.put, List.getElem_toArray, List.getElem_cons_succ, List.getElem_cons_zero, List.setIfInBounds_toArray, List.set_cons_zero, List.set_cons_succ]
    refine wpAnyH_take (i := 4) (oi := _) (v := ?_) rfl (by kernel_rfl) (by kernel_rfl) (by kernel_rfl) (fun _ _ _ h => h) (Or.inl ⟨by rfl, ?_⟩) (by assumption) ?_
    rotate_left
    · (intro w hSw; (try dsimp only at hSw); go_simp) <;> with_reducible rfl
    simp only [Act.put, List.getElem_toArray, List.getElem_cons_succ, List.getElem_cons_zero, List.setIfInBounds_toArray, List.set_cons_zero, List.set_cons_succ]
    refine wpAnyH_take (i := 5) (oi := _) (v := ?_) rfl (by kernel_rfl) (by kernel_rfl) (by kernel_rfl) (fun _ _ _ h => h) (Or.inl ⟨by rfl, ?_⟩) (by assumption) ?_
    rotate_left
    · (intro w hSw; (try dsimp only at hSw); go_simp) <;> with_reducible rfl
    simp only [Act.put, List.getElem_toArray, List.getElem_cons_succ, List.getElem_cons_zero, List.setIfInBounds_toArray, List.set_cons_zero, List.set_cons_succ]
    refine wpAnyH_take (i := 6) (oi := _) (v := ?_) rfl (by kernel_rfl) (by kernel_rfl) (by kernel_rfl) (fun _ _ _ h => h) (Or.inl ⟨by rfl, ?_⟩) (by assumption) ?_
    rotate_left
    · (intro w hSw; (try dsimp only at hSw); go_simp) <;> with_reducible rfl
    simp only [Act.put, List.getElem_toArray, List.getElem_cons_succ, List.getElem_cons_zero, List.setIfInBounds_toArray, List.set_cons_zero, List.set_cons_succ]
    refine wpAnyH_take (i := 7) (oi := _) (v := ?_) rfl (by kernel_rfl) (by kernel_rfl) (by kernel_rfl) (fun _ _ _ h => h) (Or.inl ⟨by rfl, ?_⟩) (by assumption) ?_
    rotate_left
    · (intro w hSw; (try dsimp only at hSw); go_simp) <;> with_reducible rfl
    simp only [Act.put, List.getElem_toArray, List.getElem_cons_succ, List.getElem_cons_zero, List.setIfInBounds_toArray, List.set_cons_zero, List.set_cons_succ]
    refine wpAnyH_take (i := 8) (oi := _) (v := ?_) rfl (by kernel_rfl) (by kernel_rfl) (by kernel_rfl) (fun _ _ _ h => h) (Or.inl ⟨by rfl, ?_⟩) (by assumption) ?_
    rotate_left
    · (intro w hSw; (try dsimp only at hSw); go_simp) <;> with_reducible rfl
    simp only [Act.put, List.getElem_toArray, List.getElem_cons_succ, List.getElem_cons_zero, List.setIfInBounds_toArray, List.set_cons_zero, List.set_cons_succ]
    refine wpAnyH_ready (rs := [9]) (by kernel_rfl) (by simp) ?_
    refine AllReadyH.cons (o := _) rfl (fun K hK => ?_) AllReadyH.nil
    go_simp
    (go_at_call 38; refine (iQueueOf_any A n c es r P m pc ps cab now ok _ hn hm (H.out.below (by (repeat (first | with_reducible exact Below.refl _ _ | with_reducible refine Below.drew ?_ | with_reducible refine below_drewN ?_ _ | (with_reducible refine bel_alloc ?_ ?_ _; (first | omega | (simp; omega) | simp)) | (with_reducible refine bel_set ?_ ?_ _; (first | omega | (simp; omega) | simp)) | (with_reducible refine bel_tr (by assumption) ?_ ?_; (first | omega | (simp; omega) | simp)))))) (HP.out.below (by (repeat (first | with_reducible exact Below.refl _ _ | with_reducible refine Below.drew ?_ | with_reducible refine below_drewN ?_ _ | (with_reducible refine bel_alloc ?_ ?_ _; (first | omega | (simp; omega) | simp)) | (with_reducible refine bel_set ?_ ?_ _; (first | omega | (simp; omega) | simp)) | (with_reducible refine bel_tr (by assumption) ?_ ?_; (first | omega | (simp; omega) | simp)))))) HK.out).mono ?_; rintro y wB ⟨AB, nB, cB, rfl, oB, _, hbB⟩; have bcB := bcell hbB; obtain ⟨hcB, hfB⟩ := bcB; have ksB := hbB.size; (try simp at ksB); have kcB0 : ∀ o, wB.cell? ⟨w.heap.size, o, none⟩ = _ := (fun o => hbB.cell (p := ⟨w.heap.size, o, none⟩) (by (first | omega | (simp; omega) | simp))); have kfB0 : ∀ o, wB.frozen? ⟨w.heap.size, o, none⟩ = _ := (fun o => hbB.frozen (p := ⟨w.heap.size, o, none⟩) (by (first | omega | (simp; omega) | simp))); have kcB1 : ∀ o, wB.cell? ⟨w.heap.size + 1, o, none⟩ = _ := (fun o => hbB.cell (p := ⟨w.heap.size + 1, o, none⟩) (by (first | omega | (simp; omega) | simp))); have kfB1 : ∀ o, wB.frozen? ⟨w.heap.size + 1, o, none⟩ = _ := (fun o => hbB.frozen (p := ⟨w.heap.size + 1, o, none⟩) (by (first | omega | (simp; omega) | simp))); have kzB0 : w.heap.size < wB.heap.size := (by have hh := hbB.size; (try simp at hh); omega); have kzB1 : w.heap.size + 1 < wB.heap.size := (by have hh := hbB.size; (try simp at hh); omega); have OB := Lib.hid oB; have LB : nB ≤ 4194304 := (by have h1 := OB.out.1; have h2 := entL_len ok r now ps m; rw [sortR_len] at h1; omega); clear oB)
    go_wp2_with fail
    clear hHeld
    refine hK.out _ _ ?_ (fun hHeld => ?_)
    · (try dsimp only); (repeat' apply And.intro) <;> (first | (go_keep; done) | (go_simp; done))
    clear hK
    try simp only [Act.put, List.getElem_toArray, List.getElem_cons_succ, List.getElem_cons_zero, List.setIfInBounds_toArray, List.set_cons_zero, List.set_cons_succ]
    refine wpAnyH_ready (rs := [10]) (by kernel_rfl) (by simp) ?_
    refine AllReadyH.cons (o := _) rfl (fun K hK => ?_) AllReadyH.nil
    go_simp
    (go_at_call 37; refine (tn (equalRow_any AE AB k kc nB cB _ _ _ hk LB (HE.out.below (by (repeat (first | with_reducible exact Below.refl _ _ | with_reducible refine Below.drew ?_ | with_reducible refine below_drewN ?_ _ | (with_reducible refine bel_alloc ?_ ?_ _; (first | omega | (simp; omega) | simp)) | (with_reducible refine bel_set ?_ ?_ _; (first | omega | (simp; omega) | simp)) | (with_reducible refine bel_tr (by assumption) ?_ ?_; (first | omega | (simp; omega) | simp)))))) (by first | exact OB.out.rd | exact (OB.out.rd.below (by (repeat (first | with_reducible exact Below.refl _ _ | with_reducible refine Below.drew ?_ | with_reducible refine below_drewN ?_ _ | (with_reducible refine bel_alloc ?_ ?_ _; (first | omega | (simp; omega) | simp)) | (with_reducible refine bel_set ?_ ?_ _; (first | omega | (simp; omega) | simp)) | (with_reducible refine bel_tr (by assumption) ?_ ?_; (first | omega | (simp; omega) | simp)))))))) e1).mono ?_; rintro y wC ⟨rfl, hbC⟩; have bcC := bcell hbC; obtain ⟨hcC, hfC⟩ := bcC; have ksC := hbC.size; (try simp at ksC); have kcC0 : ∀ o, wC.cell? ⟨w.heap.size, o, none⟩ = _ := (fun o => hbC.cell (p := ⟨w.heap.size, o, none⟩) (by (first | omega | (simp; omega) | simp))); have kfC0 : ∀ o, wC.frozen? ⟨w.heap.size, o, none⟩ = _ := (fun o => hbC.frozen (p := ⟨w.heap.size, o, none⟩) (by (first | omega | (simp; omega) | simp))); have kcC1 : ∀ o, wC.cell? ⟨w.heap.size + 1, o, none⟩ = _ := (fun o => hbC.cell (p := ⟨w.heap.size + 1, o, none⟩) (by (first | omega | (simp; omega) | simp))); have kfC1 : ∀ o, wC.frozen? ⟨w.heap.size + 1, o, none⟩ = _ := (fun o => hbC.frozen (p := ⟨w.heap.size + 1, o, none⟩) (by (first | omega | (simp; omega) | simp))); have kzC0 : w.heap.size < wC.heap.size := (by have hh := hbC.size; (try simp at hh); omega); have kzC1 : w.heap.size + 1 < wC.heap.size := (by have hh := hbC.size; (try simp at hh); omega))
    go_wp2_with fail
    clear hHeld
    refine hK.out _ _ ?_ (fun hHeld => ?_)
    · (try dsimp only); (repeat' apply And.intro) <;> (first | (go_keep; done) | (go_simp; done))
    clear hK
    try simp only [Act.put, List.getElem_toArray, List.getElem_cons_succ, List.getElem_cons_zero, List.setIfInBounds_toArray, List.set_cons_zero, List.set_cons_succ]
    refine wpAnyH_take (i := 11) (oi := _) (v := ?_) rfl (by kernel_rfl) (by kernel_rfl) (by kernel_rfl) (fun _ _ _ h => h) (Or.inl ⟨by rfl, ?_⟩) (by assumption) ?_
    rotate_left
    · (intro w hSw; (try dsimp only at hSw); go_simp) <;> with_reducible rfl
    simp only [Act.put, List.getElem_toArray, List.getElem_cons_succ, List.getElem_cons_zero, List.setIfInBounds_toArray, List.set_cons_zero, List.set_cons_succ]
    refine wpAnyH_take (i := 12) (oi := _) (v := ?_) rfl (by kernel_rfl) (by kernel_rfl) (by kernel_rfl) (fun _ _ _ h => h) (Or.inl ⟨by rfl, ?_⟩) (by assumption) ?_
    rotate_left
    · (intro w hSw; (try dsimp only at hSw); go_simp) <;> with_reducible rfl
    simp only [Act.put, List.getElem_toArray, List.getElem_cons_succ, List.getElem_cons_zero, List.setIfInBounds_toArray, List.set_cons_zero, List.set_cons_succ]
    refine wpAnyH_take (i := 13) (oi := _) (v := undef) rfl (by kernel_rfl) (by kernel_rfl) (by kernel_rfl) (fun _ _ _ h => h) (Or.inr ⟨by rfl, rfl⟩) (by assumption) ?_
    simp only [Act.put, List.getElem_toArray, List.getElem_cons_succ, List.getElem_cons_zero, List.setIfInBounds_toArray, List.set_cons_zero, List.set_cons_succ]
    refine wpAnyH_take (i := 14) (oi := _) (v := undef) rfl (by kernel_rfl) (by kernel_rfl) (by kernel_rfl) (fun _ _ _ h => h) (Or.inr ⟨by rfl, rfl⟩) (by assumption) ?_
    simp only [Act.put, List.getElem_toArray, List.getElem_cons_succ, List.getElem_cons_zero, List.setIfInBounds_toArray, List.set_cons_zero, List.set_cons_succ]
    refine wpAnyH_take (i := 15) (oi := _) (v := undef) rfl (by kernel_rfl) (by kernel_rfl) (by kernel_rfl) (fun _ _ _ h => h) (Or.inr ⟨by rfl, rfl⟩) (by assumption) ?_
    simp only [Act.put, List.getElem_toArray, List.getElem_cons_succ, List.getElem_cons_zero, List.setIfInBounds_toArray, List.set_cons_zero, List.set_cons_succ]
    refine wpAnyH_take (i := 16) (oi := _) (v := undef) rfl (by kernel_rfl) (by kernel_rfl) (by kernel_rfl) (fun _ _ _ h => h) (Or.inr ⟨by rfl, rfl⟩) (by assumption) ?_
    simp only [Act.put, List.getElem_toArray, List.getElem_cons_succ, List.getElem_cons_zero, List.setIfInBounds_toArray, List.set_cons_zero, List.set_cons_succ]
    refine wpAnyH_take (i := 17) (oi := _) (v := undef) rfl (by kernel_rfl) (by kernel_rfl) (by kernel_rfl) (fun _ _ _ h => h) (Or.inr ⟨by rfl, rfl⟩) (by assumption) ?_
    simp only [Act.put, List.getElem_toArray, List.getElem_cons_succ, List.getElem_cons_zero, List.setIfInBounds_toArray, List.set_cons_zero, List.set_cons_succ]
    refine wpAnyH_take (i := 18) (oi := _) (v := undef) rfl (by kernel_rfl) (by kernel_rfl) (by kernel_rfl) (fun _ _ _ h => h) (Or.inr ⟨by rfl, rfl⟩) (by assumption) ?_
    simp only [Act.put, List.getElem_toArray, List.getElem_cons_succ, List.getElem_cons_zero, List.setIfInBounds_toArray, List.set_cons_zero, List.set_cons_succ]
    refine wpAnyH_take (i := 19) (oi := _) (v := undef) rfl (by kernel_rfl) (by kernel_rfl) (by kernel_rfl) (fun _ _ _ h => h) (Or.inr ⟨by rfl, rfl⟩) (by assumption) ?_
    simp only [Act.put, List.getElem_toArray, List.getElem_cons_succ, List.getElem_cons_zero, List.setIfInBounds_toArray, List.set_cons_zero, List.set_cons_succ]
    refine wpAnyH_take (i := 20) (oi := _) (v := ?_) rfl (by kernel_rfl) (by kernel_rfl) (by kernel_rfl) (fun _ _ _ h => h) (Or.inl ⟨by rfl, ?_⟩) (by assumption) ?_
    rotate_left
    · (intro w hSw; (try dsimp only at hSw); go_simp) <;> with_reducible rfl
    simp only [Act.put, List.getElem_toArray, List.getElem_cons_succ, List.getElem_cons_zero, List.setIfInBounds_toArray, List.set_cons_zero, List.set_cons_succ]
    refine wpAnyH_take (i := 21) (oi := _) (v := ?_) rfl (by kernel_rfl) (by kernel_rfl) (by kernel_rfl) (fun _ _ _ h => h) (Or.inl ⟨by rfl, ?_⟩) (by assumption) ?_
    rotate_left
    · (intro w hSw; (try dsimp only at hSw); go_simp) <;> with_reducible rfl
    simp only [Act.put, List.getElem_toArray, List.getElem_cons_succ, List.getElem_cons_zero, List.setIfInBounds_toArray, List.set_cons_zero, List.set_cons_succ]
    refine wpAnyH_take (i := 22) (oi := _) (v := undef) rfl (by kernel_rfl) (by kernel_rfl) (by kernel_rfl) (fun _ _ _ h => h) (Or.inr ⟨by rfl, rfl⟩) (by assumption) ?_
    simp only [Act.put, List.getElem_toArray, List.getElem_cons_succ, List.getElem_cons_zero, List.setIfInBounds_toArray, List.set_cons_zero, List.set_cons_succ]
    refine wpAnyH_take (i := 23) (oi := _) (v := undef) rfl (by kernel_rfl) (by kernel_rfl) (by kernel_rfl) (fun _ _ _ h => h) (Or.inr ⟨by rfl, rfl⟩) (by assumption) ?_
    simp only [Act.put, List.getElem_toArray, List.getElem_cons_succ, List.getElem_cons_zero, List.setIfInBounds_toArray, List.set_cons_zero, List.set_cons_succ]
    refine wpAnyH_take (i := 24) (oi := _) (v := undef) rfl (by kernel_rfl) (by kernel_rfl) (by kernel_rfl) (fun _ _ _ h => h) (Or.inr ⟨by rfl, rfl⟩) (by assumption) ?_
    simp only [Act.put, List.getElem_toArray, List.getElem_cons_succ, List.getElem_cons_zero, List.setIfInBounds_toArray, List.set_cons_zero, List.set_cons_succ]
    refine wpAnyH_take (i := 25) (oi := _) (v := undef) rfl (by kernel_rfl) (by kernel_rfl) (by kernel_rfl) (fun _ _ _ h => h) (Or.inr ⟨by rfl, rfl⟩) (by assumption) ?_
    simp only [Act.put, List.getElem_toArray, List.getElem_cons_succ, List.getElem_cons_zero, List.setIfInBounds_toArray, List.set_cons_zero, List.set_cons_succ]
    refine wpAnyH_take (i := 26) (oi := _) (v := undef) rfl (by kernel_rfl) (by kernel_rfl) (by kernel_rfl) (fun _ _ _ h => h) (Or.inr ⟨by rfl, rfl⟩) (by assumption) ?_
    simp only [Act.put, List.getElem_toArray, List.getElem_cons_succ, List.getElem_cons_zero, List.setIfInBounds_toArray, List.set_cons_zero, List.set_cons_succ]
    refine wpAnyH_take (i := 27) (oi := _) (v := undef) rfl (by kernel_rfl) (by kernel_rfl) (by kernel_rfl) (fun _ _ _ h => h) (Or.inr ⟨by rfl, rfl⟩) (by assumption) ?_
    simp only [Act.put, List.getElem_toArray, List.getElem_cons_succ, List.getElem_cons_zero, List.setIfInBounds_toArray, List.set_cons_zero, List.set_cons_succ]
    refine wpAnyH_take (i := 28) (oi := _) (v := undef) rfl (by kernel_rfl) (by kernel_rfl) (by kernel_rfl) (fun _ _ _ h => h) (Or.inr ⟨by rfl, rfl⟩) (by assumption) ?_
    simp only [Act.put, List.getElem_toArray, List.getElem_cons_succ, List.getElem_cons_zero, List.setIfInBounds_toArray, List.set_cons_zero, List.set_cons_succ]
    refine wpAnyH_take (i := 29) (oi := _) (v := ?_) rfl (by kernel_rfl) (by kernel_rfl) (by kernel_rfl) (fun _ _ _ h => h) (Or.inl ⟨by rfl, ?_⟩) (by assumption) ?_
    rotate_left
    · (intro w hSw; (try dsimp only at hSw); go_simp) <;> with_reducible rfl
    simp only [Act.put, List.getElem_toArray, List.getElem_cons_succ, List.getElem_cons_zero, List.setIfInBounds_toArray, List.set_cons_zero, List.set_cons_succ]
    refine wpAnyH_take (i := 30) (oi := _) (v := ?_) rfl (by kernel_rfl) (by kernel_rfl) (by kernel_rfl) (fun _ _ _ h => h) (Or.inl ⟨by rfl, ?_⟩) (by assumption) ?_
    rotate_left
    · (intro w hSw; (try dsimp only at hSw); go_simp) <;> with_reducible rfl
    simp only [Act.put, List.getElem_toArray, List.getElem_cons_succ, List.getElem_cons_zero, List.setIfInBounds_toArray, List.set_cons_zero, List.set_cons_succ]
    refine wpAnyH_take (i := 31) (oi := _) (v := undef) rfl (by kernel_rfl) (by kernel_rfl) (by kernel_rfl) (fun _ _ _ h => h) (Or.inr ⟨by rfl, rfl⟩) (by assumption) ?_
    simp only [Act.put, List.getElem_toArray, List.getElem_cons_succ, List.getElem_cons_zero, List.setIfInBounds_toArray, List.set_cons_zero, List.set_cons_succ]
    refine wpAnyH_take (i := 32) (oi := _) (v := undef) rfl (by kernel_rfl) (by kernel_rfl) (by kernel_rfl) (fun _ _ _ h => h) (Or.inr ⟨by rfl, rfl⟩) (by assumption) ?_
    simp only [Act.put, List.getElem_toArray, List.getElem_cons_succ, List.getElem_cons_zero, List.setIfInBounds_toArray, List.set_cons_zero, List.set_cons_succ]
    refine wpAnyH_take (i := 33) (oi := _) (v := undef) rfl (by kernel_rfl) (by kernel_rfl) (by kernel_rfl) (fun _ _ _ h => h) (Or.inr ⟨by rfl, rfl⟩) (by assumption) ?_
    simp only [Act.put, List.getElem_toArray, List.getElem_cons_succ, List.getElem_cons_zero, List.setIfInBounds_toArray, List.set_cons_zero, List.set_cons_succ]
    refine wpAnyH_take (i := 34) (oi := _) (v := undef) rfl (by kernel_rfl) (by kernel_rfl) (by kernel_rfl) (fun _ _ _ h => h) (Or.inr ⟨by rfl, rfl⟩) (by assumption) ?_
    simp only [Act.put, List.getElem_toArray, List.getElem_cons_succ, List.getElem_cons_zero, List.setIfInBounds_toArray, List.set_cons_zero, List.set_cons_succ]
    refine wpAnyH_take (i := 35) (oi := _) (v := undef) rfl (by kernel_rfl) (by kernel_rfl) (by kernel_rfl) (fun _ _ _ h => h) (Or.inr ⟨by rfl, rfl⟩) (by assumption) ?_
    simp only [Act.put, List.getElem_toArray, List.getElem_cons_succ, List.getElem_cons_zero, List.setIfInBounds_toArray, List.set_cons_zero, List.set_cons_succ]
    refine wpAnyH_take (i := 36) (oi := _) (v := undef) rfl (by kernel_rfl) (by kernel_rfl) (by kernel_rfl) (fun _ _ _ h => h) (Or.inr ⟨by rfl, rfl⟩) (by assumption) ?_
    simp only [Act.put, List.getElem_toArray, List.getElem_cons_succ, List.getElem_cons_zero, List.setIfInBounds_toArray, List.set_cons_zero, List.set_cons_succ]
    refine wpAnyH_take (i := 37) (oi := _) (v := undef) rfl (by kernel_rfl) (by kernel_rfl) (by kernel_rfl) (fun _ _ _ h => h) (Or.inr ⟨by rfl, rfl⟩) (by assumption) ?_
    simp only [Act.put, List.getElem_toArray, List.getElem_cons_succ, List.getElem_cons_zero, List.setIfInBounds_toArray, List.set_cons_zero, List.set_cons_succ]
    refine wpAnyH_take (i := 38) (oi := _) (v := ?_) rfl (by kernel_rfl) (by kernel_rfl) (by kernel_rfl) (fun _ _ _ h => h) (Or.inl ⟨by rfl, ?_⟩) (by assumption) ?_
    rotate_left
    · (intro w hSw; (try dsimp only at hSw); go_simp) <;> with_reducible rfl
    simp only [Act.put, List.getElem_toArray, List.getElem_cons_succ, List.getElem_cons_zero, List.setIfInBounds_toArray, List.set_cons_zero, List.set_cons_succ]
    refine wpAnyH_take (i := 39) (oi := _) (v := ?_) rfl (by kernel_rfl) (by kernel_rfl) (by kernel_rfl) (fun _ _ _ h => h) (Or.inl ⟨by rfl, ?_⟩) (by assumption) ?_
    rotate_left
    · (intro w hSw; (try dsimp only at hSw); go_simp) <;> with_reducible rfl
    simp only [Act.put, List.getElem_toArray, List.getElem_cons_succ, List.getElem_cons_zero, List.setIfInBounds_toArray, List.set_cons_zero, List.set_cons_succ]
    refine wpAnyH_done (by kernel_rfl) ?_ _
    go_wp2
    go_ret
    exact .inr ⟨rfl, hR.out, by (repeat (first | with_reducible exact Below.refl _ _ | with_reducible refine Below.drew ?_ | with_reducible refine below_drewN ?_ _ | (with_reducible refine bel_alloc ?_ ?_ _; (first | omega | (simp; omega) | simp)) | (with_reducible refine bel_set ?_ ?_ _; (first | omega | (simp; omega) | simp)) | (with_reducible refine bel_tr (by assumption) ?_ ?_; (first | omega | (simp; omega) | simp))))⟩
  by_cases e2 : SamL (pinsL N S) (sortL (pinF ps cab m) (pinF ps cab m).length)
  case neg =>
    have hR : Hid (¬ AGR x0 x1 x2 x3 x4 k qs N S (entL ok r now ps m) ps cab m) := Lib.hid fun h => e2 (h.2.2.1)
    go_enter Tryz.func10, Tryz.ntmps10
    go_wp2
    refine wp_region_held_drew (S := fun w' => w'.cell? ⟨w.heap.size, 0, none⟩ = some (.slice A n c) ∧ w'.cell? ⟨w.heap.size, 1, none⟩ = some (.int .i64 (r 1)) ∧ w'.cell? ⟨w.heap.size, 2, none⟩ = some (.int .i64 (r 2)) ∧ w'.cell? ⟨w.heap.size, 3, none⟩ = some (.int .i64 (r 3)) ∧ w'.cell? ⟨w.heap.size, 4, none⟩ = some (.int .i64 (r 4)) ∧ w'.cell? ⟨w.heap.size, 5, none⟩ = some (.int .i64 (r 5)) ∧ w'.cell? ⟨w.heap.size, 6, none⟩ = some (.int .i64 (r 6)) ∧ w'.cell? ⟨w.heap.size, 7, none⟩ = some (.int .i64 (r 7)) ∧ w'.cell? ⟨w.heap.size, 8, none⟩ = some (.int .i64 (r 8)) ∧ w'.cell? ⟨w.heap.size + 1, 0, none⟩ = some (.int .i64 x0) ∧ w'.cell? ⟨w.heap.size + 1, 1, none⟩ = some (.int .i64 x1) ∧ w'.cell? ⟨w.heap.size + 1, 2, none⟩ = some (.int .i64 x2) ∧ w'.cell? ⟨w.heap.size + 1, 3, none⟩ = some (.int .i64 x3) ∧ w'.cell? ⟨w.heap.size + 1, 4, none⟩ = some (.int .i64 x4) ∧ w'.cell? ⟨w.heap.size + 1, 5, none⟩ = some (.slice AE k kc) ∧ w'.cell? ⟨w.heap.size + 1, 6, none⟩ = some (.slice WA N cw)) (by kernel_rfl) ?_ (fun hHeld => ?_)
    · (try dsimp only); (repeat' apply And.intro) <;> (first | (go_keep; done) | (go_simp; done))
    refine wpAnyH_take (i := 0) (oi := _) (v := ?_) rfl (by kernel_rfl) (by kernel_rfl) (by kernel_rfl) (fun _ _ _ h => h) (Or.inl ⟨by rfl, ?_⟩) (by assumption) ?_
    rotate_left
    · (intro w hSw; (try dsimp only at hSw); go_simp) <;> with_reducible rfl
    simp only [Act.put, List.getElem_toArray, List.getElem_cons_zero, List.setIfInBounds_toArray, List.set_cons_zero, List.set_cons_succ]
    refine wpAnyH_ready (rs := [1]) (by kernel_rfl) (by simp) ?_
    refine AllReadyH.cons (o := _) rfl (fun K hK => ?_) AllReadyH.nil
    go_simp
    (go_at_call 9; refine (ty (iCabinOk_any x0 x1 x2 x3 x4 AE k kc qs WA N cw S _ hk0 hkc hN hT (HE.out.below (by (repeat (first | with_reducible exact Below.refl _ _ | with_reducible refine Below.drew ?_ | with_reducible refine below_drewN ?_ _ | (with_reducible refine bel_alloc ?_ ?_ _; (first | omega | (simp; omega) | simp)) | (with_reducible refine bel_set ?_ ?_ _; (first | omega | (simp; omega) | simp)) | (with_reducible refine bel_tr (by assumption) ?_ ?_; (first | omega | (simp; omega) | simp)))))) (HW.out.below (by (repeat (first | with_reducible exact Below.refl _ _ | with_reducible refine Below.drew ?_ | with_reducible refine below_drewN ?_ _ | (with_reducible refine bel_alloc ?_ ?_ _; (first | omega | (simp; omega) | simp)) | (with_reducible refine bel_set ?_ ?_ _; (first | omega | (simp; omega) | simp)) | (with_reducible refine bel_tr (by assumption) ?_ ?_; (first | omega | (simp; omega) | simp))))))) e0).mono ?_; rintro y wA ⟨rfl, hbA⟩; have bcA := bcell hbA; obtain ⟨hcA, hfA⟩ := bcA; have ksA := hbA.size; (try simp at ksA); have kcA0 : ∀ o, wA.cell? ⟨w.heap.size, o, none⟩ = _ := (fun o => hbA.cell (p := ⟨w.heap.size, o, none⟩) (by (first | omega | (simp; omega) | simp))); have kfA0 : ∀ o, wA.frozen? ⟨w.heap.size, o, none⟩ = _ := (fun o => hbA.frozen (p := ⟨w.heap.size, o, none⟩) (by (first | omega | (simp; omega) | simp))); have kcA1 : ∀ o, wA.cell? ⟨w.heap.size + 1, o, none⟩ = _ := (fun o => hbA.cell (p := ⟨w.heap.size + 1, o, none⟩) (by (first | omega | (simp; omega) | simp))); have kfA1 : ∀ o, wA.frozen? ⟨w.heap.size + 1, o, none⟩ = _ := (fun o => hbA.frozen (p := ⟨w.heap.size + 1, o, none⟩) (by (first | omega | (simp; omega) | simp))); have kzA0 : w.heap.size < wA.heap.size := (by have hh := hbA.size; (try simp at hh); omega); have kzA1 : w.heap.size + 1 < wA.heap.size := (by have hh := hbA.size; (try simp at hh); omega))
    go_wp2_with fail
    clear hHeld
    refine hK.out _ _ ?_ (fun hHeld => ?_)
    · (try dsimp only); (repeat' apply And.intro) <;> (first | (go_keep; done) | (go_simp; done))
    clear hK
    try simp only [Act.put, List.getElem_toArray, List.getElem_cons_succ, List.getElem_cons_zero, List.setIfInBounds_toArray, List.set_cons_zero, List.set_cons_succ]
    refine wpAnyH_take (i := 2) (oi := _) (v := ?_) rfl (by kernel_rfl) (by kernel_rfl) (by kernel_rfl) (fun _ _ _ h => h) (Or.inl ⟨by rfl, ?_⟩) (by assumption) ?_
    rotate_left
    · (intro w hSw; (try dsimp only at hSw); go_simp) <;> with_reducible rfl
    simp only [Act.put, List.getElem_toArray, List.getElem_cons_succ, List.getElem_cons_zero, List.setIfInBounds_toArray, List.set_cons_zero, List.set_cons_succ]
    refine wpAnyH_take (i := 3) (oi := _) (v := ?_) rfl (by kernel_rfl) (by kernel_rfl) (by kernel_rfl) (fun _ _ _ h => h) (Or.inl ⟨by rfl, ?_⟩) (by assumption) ?_
    rotate_left
    · (intro w hSw; (try dsimp only at hSw); go_simp) <;> with_reducible rfl
    simp only [Act.put, List.getElem_toArray, List.getElem_cons_succ, List.getElem_cons_zero, List.setIfInBounds_toArray, List.set_cons_zero, List.set_cons_succ]
    refine wpAnyH_take (i := 4) (oi := _) (v := ?_) rfl (by kernel_rfl) (by kernel_rfl) (by kernel_rfl) (fun _ _ _ h => h) (Or.inl ⟨by rfl, ?_⟩) (by assumption) ?_
    rotate_left
    · (intro w hSw; (try dsimp only at hSw); go_simp) <;> with_reducible rfl
    simp only [Act.put, List.getElem_toArray, List.getElem_cons_succ, List.getElem_cons_zero, List.setIfInBounds_toArray, List.set_cons_zero, List.set_cons_succ]
    refine wpAnyH_take (i := 5) (oi := _) (v := ?_) rfl (by kernel_rfl) (by kernel_rfl) (by kernel_rfl) (fun _ _ _ h => h) (Or.inl ⟨by rfl, ?_⟩) (by assumption) ?_
    rotate_left
    · (intro w hSw; (try dsimp only at hSw); go_simp) <;> with_reducible rfl
    simp only [Act.put, List.getElem_toArray, List.getElem_cons_succ, List.getElem_cons_zero, List.setIfInBounds_toArray, List.set_cons_zero, List.set_cons_succ]
    refine wpAnyH_take (i := 6) (oi := _) (v := ?_) rfl (by kernel_rfl) (by kernel_rfl) (by kernel_rfl) (fun _ _ _ h => h) (Or.inl ⟨by rfl, ?_⟩) (by assumption) ?_
    rotate_left
    · (intro w hSw; (try dsimp only at hSw); go_simp) <;> with_reducible rfl
    simp only [Act.put, List.getElem_toArray, List.getElem_cons_succ, List.getElem_cons_zero, List.setIfInBounds_toArray, List.set_cons_zero, List.set_cons_succ]
    refine wpAnyH_take (i := 7) (oi := _) (v := ?_) rfl (by kernel_rfl) (by kernel_rfl) (by kernel_rfl) (fun _ _ _ h => h) (Or.inl ⟨by rfl, ?_⟩) (by assumption) ?_
    rotate_left
    · (intro w hSw; (try dsimp only at hSw); go_simp) <;> with_reducible rfl
    simp only [Act.put, List.getElem_toArray, List.getElem_cons_succ, List.getElem_cons_zero, List.setIfInBounds_toArray, List.set_cons_zero, List.set_cons_succ]
    refine wpAnyH_take (i := 8) (oi := _) (v := ?_) rfl (by kernel_rfl) (by kernel_rfl) (by kernel_rfl) (fun _ _ _ h => h) (Or.inl ⟨by rfl, ?_⟩) (by assumption) ?_
    rotate_left
    · (intro w hSw; (try dsimp only at hSw); go_simp) <;> with_reducible rfl
    simp only [Act.put, List.getElem_toArray, List.getElem_cons_succ, List.getElem_cons_zero, List.setIfInBounds_toArray, List.set_cons_zero, List.set_cons_succ]
    refine wpAnyH_ready (rs := [9]) (by kernel_rfl) (by simp) ?_
    refine AllReadyH.cons (o := _) rfl (fun K hK => ?_) AllReadyH.nil
    go_simp
    (go_at_call 38; refine (iQueueOf_any A n c es r P m pc ps cab now ok _ hn hm (H.out.below (by (repeat (first | with_reducible exact Below.refl _ _ | with_reducible refine Below.drew ?_ | with_reducible refine below_drewN ?_ _ | (with_reducible refine bel_alloc ?_ ?_ _; (first | omega | (simp; omega) | simp)) | (with_reducible refine bel_set ?_ ?_ _; (first | omega | (simp; omega) | simp)) | (with_reducible refine bel_tr (by assumption) ?_ ?_; (first | omega | (simp; omega) | simp)))))) (HP.out.below (by (repeat (first | with_reducible exact Below.refl _ _ | with_reducible refine Below.drew ?_ | with_reducible refine below_drewN ?_ _ | (with_reducible refine bel_alloc ?_ ?_ _; (first | omega | (simp; omega) | simp)) | (with_reducible refine bel_set ?_ ?_ _; (first | omega | (simp; omega) | simp)) | (with_reducible refine bel_tr (by assumption) ?_ ?_; (first | omega | (simp; omega) | simp)))))) HK.out).mono ?_; rintro y wB ⟨AB, nB, cB, rfl, oB, _, hbB⟩; have bcB := bcell hbB; obtain ⟨hcB, hfB⟩ := bcB; have ksB := hbB.size; (try simp at ksB); have kcB0 : ∀ o, wB.cell? ⟨w.heap.size, o, none⟩ = _ := (fun o => hbB.cell (p := ⟨w.heap.size, o, none⟩) (by (first | omega | (simp; omega) | simp))); have kfB0 : ∀ o, wB.frozen? ⟨w.heap.size, o, none⟩ = _ := (fun o => hbB.frozen (p := ⟨w.heap.size, o, none⟩) (by (first | omega | (simp; omega) | simp))); have kcB1 : ∀ o, wB.cell? ⟨w.heap.size + 1, o, none⟩ = _ := (fun o => hbB.cell (p := ⟨w.heap.size + 1, o, none⟩) (by (first | omega | (simp; omega) | simp))); have kfB1 : ∀ o, wB.frozen? ⟨w.heap.size + 1, o, none⟩ = _ := (fun o => hbB.frozen (p := ⟨w.heap.size + 1, o, none⟩) (by (first | omega | (simp; omega) | simp))); have kzB0 : w.heap.size < wB.heap.size := (by have hh := hbB.size; (try simp at hh); omega); have kzB1 : w.heap.size + 1 < wB.heap.size := (by have hh := hbB.size; (try simp at hh); omega); have OB := Lib.hid oB; have LB : nB ≤ 4194304 := (by have h1 := OB.out.1; have h2 := entL_len ok r now ps m; rw [sortR_len] at h1; omega); clear oB)
    go_wp2_with fail
    clear hHeld
    refine hK.out _ _ ?_ (fun hHeld => ?_)
    · (try dsimp only); (repeat' apply And.intro) <;> (first | (go_keep; done) | (go_simp; done))
    clear hK
    try simp only [Act.put, List.getElem_toArray, List.getElem_cons_succ, List.getElem_cons_zero, List.setIfInBounds_toArray, List.set_cons_zero, List.set_cons_succ]
    refine wpAnyH_ready (rs := [10]) (by kernel_rfl) (by simp) ?_
    refine AllReadyH.cons (o := _) rfl (fun K hK => ?_) AllReadyH.nil
    go_simp
    (go_at_call 37; refine (ty (equalRow_any AE AB k kc nB cB _ _ _ hk LB (HE.out.below (by (repeat (first | with_reducible exact Below.refl _ _ | with_reducible refine Below.drew ?_ | with_reducible refine below_drewN ?_ _ | (with_reducible refine bel_alloc ?_ ?_ _; (first | omega | (simp; omega) | simp)) | (with_reducible refine bel_set ?_ ?_ _; (first | omega | (simp; omega) | simp)) | (with_reducible refine bel_tr (by assumption) ?_ ?_; (first | omega | (simp; omega) | simp)))))) (by first | exact OB.out.rd | exact (OB.out.rd.below (by (repeat (first | with_reducible exact Below.refl _ _ | with_reducible refine Below.drew ?_ | with_reducible refine below_drewN ?_ _ | (with_reducible refine bel_alloc ?_ ?_ _; (first | omega | (simp; omega) | simp)) | (with_reducible refine bel_set ?_ ?_ _; (first | omega | (simp; omega) | simp)) | (with_reducible refine bel_tr (by assumption) ?_ ?_; (first | omega | (simp; omega) | simp)))))))) e1).mono ?_; rintro y wC ⟨rfl, hbC⟩; have bcC := bcell hbC; obtain ⟨hcC, hfC⟩ := bcC; have ksC := hbC.size; (try simp at ksC); have kcC0 : ∀ o, wC.cell? ⟨w.heap.size, o, none⟩ = _ := (fun o => hbC.cell (p := ⟨w.heap.size, o, none⟩) (by (first | omega | (simp; omega) | simp))); have kfC0 : ∀ o, wC.frozen? ⟨w.heap.size, o, none⟩ = _ := (fun o => hbC.frozen (p := ⟨w.heap.size, o, none⟩) (by (first | omega | (simp; omega) | simp))); have kcC1 : ∀ o, wC.cell? ⟨w.heap.size + 1, o, none⟩ = _ := (fun o => hbC.cell (p := ⟨w.heap.size + 1, o, none⟩) (by (first | omega | (simp; omega) | simp))); have kfC1 : ∀ o, wC.frozen? ⟨w.heap.size + 1, o, none⟩ = _ := (fun o => hbC.frozen (p := ⟨w.heap.size + 1, o, none⟩) (by (first | omega | (simp; omega) | simp))); have kzC0 : w.heap.size < wC.heap.size := (by have hh := hbC.size; (try simp at hh); omega); have kzC1 : w.heap.size + 1 < wC.heap.size := (by have hh := hbC.size; (try simp at hh); omega))
    go_wp2_with fail
    clear hHeld
    refine hK.out _ _ ?_ (fun hHeld => ?_)
    · (try dsimp only); (repeat' apply And.intro) <;> (first | (go_keep; done) | (go_simp; done))
    clear hK
    try simp only [Act.put, List.getElem_toArray, List.getElem_cons_succ, List.getElem_cons_zero, List.setIfInBounds_toArray, List.set_cons_zero, List.set_cons_succ]
    refine wpAnyH_take (i := 11) (oi := _) (v := ?_) rfl (by kernel_rfl) (by kernel_rfl) (by kernel_rfl) (fun _ _ _ h => h) (Or.inl ⟨by rfl, ?_⟩) (by assumption) ?_
    rotate_left
    · (intro w hSw; (try dsimp only at hSw); go_simp) <;> with_reducible rfl
    simp only [Act.put, List.getElem_toArray, List.getElem_cons_succ, List.getElem_cons_zero, List.setIfInBounds_toArray, List.set_cons_zero, List.set_cons_succ]
    refine wpAnyH_take (i := 12) (oi := _) (v := ?_) rfl (by kernel_rfl) (by kernel_rfl) (by kernel_rfl) (fun _ _ _ h => h) (Or.inl ⟨by rfl, ?_⟩) (by assumption) ?_
    rotate_left
    · (intro w hSw; (try dsimp only at hSw); go_simp) <;> with_reducible rfl
    simp only [Act.put, List.getElem_toArray, List.getElem_cons_succ, List.getElem_cons_zero, List.setIfInBounds_toArray, List.set_cons_zero, List.set_cons_succ]
    refine wpAnyH_take (i := 13) (oi := _) (v := ?_) rfl (by kernel_rfl) (by kernel_rfl) (by kernel_rfl) (fun _ _ _ h => h) (Or.inl ⟨by rfl, ?_⟩) (by assumption) ?_
    rotate_left
    · (intro w hSw; (try dsimp only at hSw); go_simp) <;> with_reducible rfl
    simp only [Act.put, List.getElem_toArray, List.getElem_cons_succ, List.getElem_cons_zero, List.setIfInBounds_toArray, List.set_cons_zero, List.set_cons_succ]
    refine wpAnyH_take (i := 14) (oi := _) (v := ?_) rfl (by kernel_rfl) (by kernel_rfl) (by kernel_rfl) (fun _ _ _ h => h) (Or.inl ⟨by rfl, ?_⟩) (by assumption) ?_
    rotate_left
    · (intro w hSw; (try dsimp only at hSw); go_simp) <;> with_reducible rfl
    simp only [Act.put, List.getElem_toArray, List.getElem_cons_succ, List.getElem_cons_zero, List.setIfInBounds_toArray, List.set_cons_zero, List.set_cons_succ]
    refine wpAnyH_take (i := 16) (oi := _) (v := ?_) rfl (by kernel_rfl) (by kernel_rfl) (by kernel_rfl) (fun _ _ _ h => h) (Or.inl ⟨by rfl, ?_⟩) (by assumption) ?_
    rotate_left
    · (intro w hSw; (try dsimp only at hSw); go_simp) <;> with_reducible rfl
    simp only [Act.put, List.getElem_toArray, List.getElem_cons_succ, List.getElem_cons_zero, List.setIfInBounds_toArray, List.set_cons_zero, List.set_cons_succ]
    refine wpAnyH_take (i := 17) (oi := _) (v := ?_) rfl (by kernel_rfl) (by kernel_rfl) (by kernel_rfl) (fun _ _ _ h => h) (Or.inl ⟨by rfl, ?_⟩) (by assumption) ?_
    rotate_left
    · (intro w hSw; (try dsimp only at hSw); go_simp) <;> with_reducible rfl
    simp only [Act.put, List.getElem_toArray, List.getElem_cons_succ, List.getElem_cons_zero, List.setIfInBounds_toArray, List.set_cons_zero, List.set_cons_succ]
    refine wpAnyH_ready (rs := [15]) (by kernel_rfl) (by simp) ?_
    refine AllReadyH.cons (o := _) rfl (fun K hK => ?_) AllReadyH.nil
    go_simp
    (go_at_call 40; refine (iPinsOf_any WA N cw S _ hN hT (HW.out.below (by (repeat (first | with_reducible exact Below.refl _ _ | with_reducible refine Below.drew ?_ | with_reducible refine below_drewN ?_ _ | (with_reducible refine bel_alloc ?_ ?_ _; (first | omega | (simp; omega) | simp)) | (with_reducible refine bel_set ?_ ?_ _; (first | omega | (simp; omega) | simp)) | (with_reducible refine bel_tr (by assumption) ?_ ?_; (first | omega | (simp; omega) | simp))))))).mono ?_; rintro y wD ⟨AD, nD, cD, rfl, oD, _, hbD⟩; have bcD := bcell hbD; obtain ⟨hcD, hfD⟩ := bcD; have ksD := hbD.size; (try simp at ksD); have kcD0 : ∀ o, wD.cell? ⟨w.heap.size, o, none⟩ = _ := (fun o => hbD.cell (p := ⟨w.heap.size, o, none⟩) (by (first | omega | (simp; omega) | simp))); have kfD0 : ∀ o, wD.frozen? ⟨w.heap.size, o, none⟩ = _ := (fun o => hbD.frozen (p := ⟨w.heap.size, o, none⟩) (by (first | omega | (simp; omega) | simp))); have kcD1 : ∀ o, wD.cell? ⟨w.heap.size + 1, o, none⟩ = _ := (fun o => hbD.cell (p := ⟨w.heap.size + 1, o, none⟩) (by (first | omega | (simp; omega) | simp))); have kfD1 : ∀ o, wD.frozen? ⟨w.heap.size + 1, o, none⟩ = _ := (fun o => hbD.frozen (p := ⟨w.heap.size + 1, o, none⟩) (by (first | omega | (simp; omega) | simp))); have kzD0 : w.heap.size < wD.heap.size := (by have hh := hbD.size; (try simp at hh); omega); have kzD1 : w.heap.size + 1 < wD.heap.size := (by have hh := hbD.size; (try simp at hh); omega); have OD := Lib.hid oD; have LD : nD ≤ 4194304 := (by have h1 := OD.out.1; have h2 := pinsL_len (N := N) (S := S); omega); clear oD)
    go_wp2_with fail
    clear hHeld
    refine hK.out _ _ ?_ (fun hHeld => ?_)
    · (try dsimp only); (repeat' apply And.intro) <;> (first | (go_keep; done) | (go_simp; done))
    clear hK
    try simp only [Act.put, List.getElem_toArray, List.getElem_cons_succ, List.getElem_cons_zero, List.setIfInBounds_toArray, List.set_cons_zero, List.set_cons_succ]
    refine wpAnyH_ready (rs := [18]) (by kernel_rfl) (by simp) ?_
    refine AllReadyH.cons (o := _) rfl (fun K hK => ?_) AllReadyH.nil
    go_simp
    (go_at_call 41; refine (iPinsIn_n P m pc cab ps _ hm (HP.out.below (by (repeat (first | with_reducible exact Below.refl _ _ | with_reducible refine Below.drew ?_ | with_reducible refine below_drewN ?_ _ | (with_reducible refine bel_alloc ?_ ?_ _; (first | omega | (simp; omega) | simp)) | (with_reducible refine bel_set ?_ ?_ _; (first | omega | (simp; omega) | simp)) | (with_reducible refine bel_tr (by assumption) ?_ ?_; (first | omega | (simp; omega) | simp))))))).mono ?_; rintro y wE ⟨AF, nF, cF, rfl, oF, _, hbE⟩; have bcE := bcell hbE; obtain ⟨hcE, hfE⟩ := bcE; have ksE := hbE.size; (try simp at ksE); have kcE0 : ∀ o, wE.cell? ⟨w.heap.size, o, none⟩ = _ := (fun o => hbE.cell (p := ⟨w.heap.size, o, none⟩) (by (first | omega | (simp; omega) | simp))); have kfE0 : ∀ o, wE.frozen? ⟨w.heap.size, o, none⟩ = _ := (fun o => hbE.frozen (p := ⟨w.heap.size, o, none⟩) (by (first | omega | (simp; omega) | simp))); have kcE1 : ∀ o, wE.cell? ⟨w.heap.size + 1, o, none⟩ = _ := (fun o => hbE.cell (p := ⟨w.heap.size + 1, o, none⟩) (by (first | omega | (simp; omega) | simp))); have kfE1 : ∀ o, wE.frozen? ⟨w.heap.size + 1, o, none⟩ = _ := (fun o => hbE.frozen (p := ⟨w.heap.size + 1, o, none⟩) (by (first | omega | (simp; omega) | simp))); have kzE0 : w.heap.size < wE.heap.size := (by have hh := hbE.size; (try simp at hh); omega); have kzE1 : w.heap.size + 1 < wE.heap.size := (by have hh := hbE.size; (try simp at hh); omega); have OF := Lib.hid oF; have LF : nF ≤ 4194304 := (by have h1 := OF.out.1; have h2 := pinF_len ps cab m; rw [sortL_len] at h1; omega); clear oF)
    go_wp2_with fail
    clear hHeld
    refine hK.out _ _ ?_ (fun hHeld => ?_)
    · (try dsimp only); (repeat' apply And.intro) <;> (first | (go_keep; done) | (go_simp; done))
    clear hK
    try simp only [Act.put, List.getElem_toArray, List.getElem_cons_succ, List.getElem_cons_zero, List.setIfInBounds_toArray, List.set_cons_zero, List.set_cons_succ]
    refine wpAnyH_ready (rs := [19]) (by kernel_rfl) (by simp) ?_
    refine AllReadyH.cons (o := _) rfl (fun K hK => ?_) AllReadyH.nil
    go_simp
    (go_at_call 39; refine (tn (equalPins_any AD AF nD cD nF cF _ _ _ LD LF (by first | exact OD.out.rd | exact (OD.out.rd.below (by (repeat (first | with_reducible exact Below.refl _ _ | with_reducible refine Below.drew ?_ | with_reducible refine below_drewN ?_ _ | (with_reducible refine bel_alloc ?_ ?_ _; (first | omega | (simp; omega) | simp)) | (with_reducible refine bel_set ?_ ?_ _; (first | omega | (simp; omega) | simp)) | (with_reducible refine bel_tr (by assumption) ?_ ?_; (first | omega | (simp; omega) | simp))))))) (by first | exact OF.out.rd | exact (OF.out.rd.below (by (repeat (first | with_reducible exact Below.refl _ _ | with_reducible refine Below.drew ?_ | with_reducible refine below_drewN ?_ _ | (with_reducible refine bel_alloc ?_ ?_ _; (first | omega | (simp; omega) | simp)) | (with_reducible refine bel_set ?_ ?_ _; (first | omega | (simp; omega) | simp)) | (with_reducible refine bel_tr (by assumption) ?_ ?_; (first | omega | (simp; omega) | simp)))))))) e2).mono ?_; rintro y wG ⟨rfl, hbG⟩; have bcG := bcell hbG; obtain ⟨hcG, hfG⟩ := bcG; have ksG := hbG.size; (try simp at ksG); have kcG0 : ∀ o, wG.cell? ⟨w.heap.size, o, none⟩ = _ := (fun o => hbG.cell (p := ⟨w.heap.size, o, none⟩) (by (first | omega | (simp; omega) | simp))); have kfG0 : ∀ o, wG.frozen? ⟨w.heap.size, o, none⟩ = _ := (fun o => hbG.frozen (p := ⟨w.heap.size, o, none⟩) (by (first | omega | (simp; omega) | simp))); have kcG1 : ∀ o, wG.cell? ⟨w.heap.size + 1, o, none⟩ = _ := (fun o => hbG.cell (p := ⟨w.heap.size + 1, o, none⟩) (by (first | omega | (simp; omega) | simp))); have kfG1 : ∀ o, wG.frozen? ⟨w.heap.size + 1, o, none⟩ = _ := (fun o => hbG.frozen (p := ⟨w.heap.size + 1, o, none⟩) (by (first | omega | (simp; omega) | simp))); have kzG0 : w.heap.size < wG.heap.size := (by have hh := hbG.size; (try simp at hh); omega); have kzG1 : w.heap.size + 1 < wG.heap.size := (by have hh := hbG.size; (try simp at hh); omega))
    go_wp2_with fail
    clear hHeld
    refine hK.out _ _ ?_ (fun hHeld => ?_)
    · (try dsimp only); (repeat' apply And.intro) <;> (first | (go_keep; done) | (go_simp; done))
    clear hK
    try simp only [Act.put, List.getElem_toArray, List.getElem_cons_succ, List.getElem_cons_zero, List.setIfInBounds_toArray, List.set_cons_zero, List.set_cons_succ]
    refine wpAnyH_take (i := 20) (oi := _) (v := ?_) rfl (by kernel_rfl) (by kernel_rfl) (by kernel_rfl) (fun _ _ _ h => h) (Or.inl ⟨by rfl, ?_⟩) (by assumption) ?_
    rotate_left
    · (intro w hSw; (try dsimp only at hSw); go_simp) <;> with_reducible rfl
    simp only [Act.put, List.getElem_toArray, List.getElem_cons_succ, List.getElem_cons_zero, List.setIfInBounds_toArray, List.set_cons_zero, List.set_cons_succ]
    refine wpAnyH_take (i := 21) (oi := _) (v := ?_) rfl (by kernel_rfl) (by kernel_rfl) (by kernel_rfl) (fun _ _ _ h => h) (Or.inl ⟨by rfl, ?_⟩) (by assumption) ?_
    rotate_left
    · (intro w hSw; (try dsimp only at hSw); go_simp) <;> with_reducible rfl
    simp only [Act.put, List.getElem_toArray, List.getElem_cons_succ, List.getElem_cons_zero, List.setIfInBounds_toArray, List.set_cons_zero, List.set_cons_succ]
    refine wpAnyH_take (i := 22) (oi := _) (v := undef) rfl (by kernel_rfl) (by kernel_rfl) (by kernel_rfl) (fun _ _ _ h => h) (Or.inr ⟨by rfl, rfl⟩) (by assumption) ?_
    simp only [Act.put, List.getElem_toArray, List.getElem_cons_succ, List.getElem_cons_zero, List.setIfInBounds_toArray, List.set_cons_zero, List.set_cons_succ]
    refine wpAnyH_take (i := 23) (oi := _) (v := undef) rfl (by kernel_rfl) (by kernel_rfl) (by kernel_rfl) (fun _ _ _ h => h) (Or.inr ⟨by rfl, rfl⟩) (by assumption) ?_
    simp only [Act.put, List.getElem_toArray, List.getElem_cons_succ, List.getElem_cons_zero, List.setIfInBounds_toArray, List.set_cons_zero, List.set_cons_succ]
    refine wpAnyH_take (i := 24) (oi := _) (v := undef) rfl (by kernel_rfl) (by kernel_rfl) (by kernel_rfl) (fun _ _ _ h => h) (Or.inr ⟨by rfl, rfl⟩) (by assumption) ?_
    simp only [Act.put, List.getElem_toArray, List.getElem_cons_succ, List.getElem_cons_zero, List.setIfInBounds_toArray, List.set_cons_zero, List.set_cons_succ]
    refine wpAnyH_take (i := 25) (oi := _) (v := undef) rfl (by kernel_rfl) (by kernel_rfl) (by kernel_rfl) (fun _ _ _ h => h) (Or.inr ⟨by rfl, rfl⟩) (by assumption) ?_
    simp only [Act.put, List.getElem_toArray, List.getElem_cons_succ, List.getElem_cons_zero, List.setIfInBounds_toArray, List.set_cons_zero, List.set_cons_succ]
    refine wpAnyH_take (i := 26) (oi := _) (v := undef) rfl (by kernel_rfl) (by kernel_rfl) (by kernel_rfl) (fun _ _ _ h => h) (Or.inr ⟨by rfl, rfl⟩) (by assumption) ?_
    simp only [Act.put, List.getElem_toArray, List.getElem_cons_succ, List.getElem_cons_zero, List.setIfInBounds_toArray, List.set_cons_zero, List.set_cons_succ]
    refine wpAnyH_take (i := 27) (oi := _) (v := undef) rfl (by kernel_rfl) (by kernel_rfl) (by kernel_rfl) (fun _ _ _ h => h) (Or.inr ⟨by rfl, rfl⟩) (by assumption) ?_
    simp only [Act.put, List.getElem_toArray, List.getElem_cons_succ, List.getElem_cons_zero, List.setIfInBounds_toArray, List.set_cons_zero, List.set_cons_succ]
    refine wpAnyH_take (i := 28) (oi := _) (v := undef) rfl (by kernel_rfl) (by kernel_rfl) (by kernel_rfl) (fun _ _ _ h => h) (Or.inr ⟨by rfl, rfl⟩) (by assumption) ?_
    simp only [Act.put, List.getElem_toArray, List.getElem_cons_succ, List.getElem_cons_zero, List.setIfInBounds_toArray, List.set_cons_zero, List.set_cons_succ]
    refine wpAnyH_take (i := 29) (oi := _) (v := ?_) rfl (by kernel_rfl) (by kernel_rfl) (by kernel_rfl) (fun _ _ _ h => h) (Or.inl ⟨by rfl, ?_⟩) (by assumption) ?_
    rotate_left
    · (intro w hSw; (try dsimp only at hSw); go_simp) <;> with_reducible rfl
    simp only [Act.put, List.getElem_toArray, List.getElem_cons_succ, List.getElem_cons_zero, List.setIfInBounds_toArray, List.set_cons_zero, List.set_cons_succ]
    refine wpAnyH_take (i := 30) (oi := _) (v := ?_) rfl (by kernel_rfl) (by kernel_rfl) (by kernel_rfl) (fun _ _ _ h => h) (Or.inl ⟨by rfl, ?_⟩) (by assumption) ?_
    rotate_left
    · (intro w hSw; (try dsimp only at hSw); go_simp) <;> with_reducible rfl
    simp only [Act.put, List.getElem_toArray, List.getElem_cons_succ, List.getElem_cons_zero, List.setIfInBounds_toArray, List.set_cons_zero, List.set_cons_succ]
    refine wpAnyH_take (i := 31) (oi := _) (v := undef) rfl (by kernel_rfl) (by kernel_rfl) (by kernel_rfl) (fun _ _ _ h => h) (Or.inr ⟨by rfl, rfl⟩) (by assumption) ?_
    simp only [Act.put, List.getElem_toArray, List.getElem_cons_succ, List.getElem_cons_zero, List.setIfInBounds_toArray, List.set_cons_zero, List.set_cons_succ]
    refine wpAnyH_take (i := 32) (oi := _) (v := undef) rfl (by kernel_rfl) (by kernel_rfl) (by kernel_rfl) (fun _ _ _ h => h) (Or.inr ⟨by rfl, rfl⟩) (by assumption) ?_
    simp only [Act.put, List.getElem_toArray, List.getElem_cons_succ, List.getElem_cons_zero, List.setIfInBounds_toArray, List.set_cons_zero, List.set_cons_succ]
    refine wpAnyH_take (i := 33) (oi := _) (v := undef) rfl (by kernel_rfl) (by kernel_rfl) (by kernel_rfl) (fun _ _ _ h => h) (Or.inr ⟨by rfl, rfl⟩) (by assumption) ?_
    simp only [Act.put, List.getElem_toArray, List.getElem_cons_succ, List.getElem_cons_zero, List.setIfInBounds_toArray, List.set_cons_zero, List.set_cons_succ]
    refine wpAnyH_take (i := 34) (oi := _) (v := undef) rfl (by kernel_rfl) (by kernel_rfl) (by kernel_rfl) (fun _ _ _ h => h) (Or.inr ⟨by rfl, rfl⟩) (by assumption) ?_
    simp only [Act.put, List.getElem_toArray, List.getElem_cons_succ, List.getElem_cons_zero, List.setIfInBounds_toArray, List.set_cons_zero, List.set_cons_succ]
    refine wpAnyH_take (i := 35) (oi := _) (v := undef) rfl (by kernel_rfl) (by kernel_rfl) (by kernel_rfl) (fun _ _ _ h => h) (Or.inr ⟨by rfl, rfl⟩) (by assumption) ?_
    simp only [Act.put, List.getElem_toArray, List.getElem_cons_succ, List.getElem_cons_zero, List.setIfInBounds_toArray, List.set_cons_zero, List.set_cons_succ]
    refine wpAnyH_take (i := 36) (oi := _) (v := undef) rfl (by kernel_rfl) (by kernel_rfl) (by kernel_rfl) (fun _ _ _ h => h) (Or.inr ⟨by rfl, rfl⟩) (by assumption) ?_
    simp only [Act.put, List.getElem_toArray, List.getElem_cons_succ, List.getElem_cons_zero, List.setIfInBounds_toArray, List.set_cons_zero, List.set_cons_succ]
    refine wpAnyH_take (i := 37) (oi := _) (v := undef) rfl (by kernel_rfl) (by kernel_rfl) (by kernel_rfl) (fun _ _ _ h => h) (Or.inr ⟨by rfl, rfl⟩) (by assumption) ?_
    simp only [Act.put, List.getElem_toArray, List.getElem_cons_succ, List.getElem_cons_zero, List.setIfInBounds_toArray, List.set_cons_zero, List.set_cons_succ]
    refine wpAnyH_take (i := 38) (oi := _) (v := ?_) rfl (by kernel_rfl) (by kernel_rfl) (by kernel_rfl) (fun _ _ _ h => h) (Or.inl ⟨by rfl, ?_⟩) (by assumption) ?_
    rotate_left
    · (intro w hSw; (try dsimp only at hSw); go_simp) <;> with_reducible rfl
    simp only [Act.put, List.getElem_toArray, List.getElem_cons_succ, List.getElem_cons_zero, List.setIfInBounds_toArray, List.set_cons_zero, List.set_cons_succ]
    refine wpAnyH_take (i := 39) (oi := _) (v := ?_) rfl (by kernel_rfl) (by kernel_rfl) (by kernel_rfl) (fun _ _ _ h => h) (Or.inl ⟨by rfl, ?_⟩) (by assumption) ?_
    rotate_left
    · (intro w hSw; (try dsimp only at hSw); go_simp) <;> with_reducible rfl
    simp only [Act.put, List.getElem_toArray, List.getElem_cons_succ, List.getElem_cons_zero, List.setIfInBounds_toArray, List.set_cons_zero, List.set_cons_succ]
    refine wpAnyH_done (by kernel_rfl) ?_ _
    go_wp2
    go_ret
    exact .inr ⟨rfl, hR.out, by (repeat (first | with_reducible exact Below.refl _ _ | with_reducible refine Below.drew ?_ | with_reducible refine below_drewN ?_ _ | (with_reducible refine bel_alloc ?_ ?_ _; (first | omega | (simp; omega) | simp)) | (with_reducible refine bel_set ?_ ?_ _; (first | omega | (simp; omega) | simp)) | (with_reducible refine bel_tr (by assumption) ?_ ?_; (first | omega | (simp; omega) | simp))))⟩
  by_cases e3 : x2 = hd
  case neg =>
    have hR : Hid (¬ AGR x0 x1 x2 x3 x4 k qs N S (entL ok r now ps m) ps cab m) := Lib.hid fun h => e3 (h.2.2.2.1.trans HD.out)
    have hf3 : (x2 == hd) = false := by simpa using e3
    go_enter Tryz.func10, Tryz.ntmps10
    go_wp2
    refine wp_region_held_drew (S := fun w' => w'.cell? ⟨w.heap.size, 0, none⟩ = some (.slice A n c) ∧ w'.cell? ⟨w.heap.size, 1, none⟩ = some (.int .i64 (r 1)) ∧ w'.cell? ⟨w.heap.size, 2, none⟩ = some (.int .i64 (r 2)) ∧ w'.cell? ⟨w.heap.size, 3, none⟩ = some (.int .i64 (r 3)) ∧ w'.cell? ⟨w.heap.size, 4, none⟩ = some (.int .i64 (r 4)) ∧ w'.cell? ⟨w.heap.size, 5, none⟩ = some (.int .i64 (r 5)) ∧ w'.cell? ⟨w.heap.size, 6, none⟩ = some (.int .i64 (r 6)) ∧ w'.cell? ⟨w.heap.size, 7, none⟩ = some (.int .i64 (r 7)) ∧ w'.cell? ⟨w.heap.size, 8, none⟩ = some (.int .i64 (r 8)) ∧ w'.cell? ⟨w.heap.size + 1, 0, none⟩ = some (.int .i64 x0) ∧ w'.cell? ⟨w.heap.size + 1, 1, none⟩ = some (.int .i64 x1) ∧ w'.cell? ⟨w.heap.size + 1, 2, none⟩ = some (.int .i64 x2) ∧ w'.cell? ⟨w.heap.size + 1, 3, none⟩ = some (.int .i64 x3) ∧ w'.cell? ⟨w.heap.size + 1, 4, none⟩ = some (.int .i64 x4) ∧ w'.cell? ⟨w.heap.size + 1, 5, none⟩ = some (.slice AE k kc) ∧ w'.cell? ⟨w.heap.size + 1, 6, none⟩ = some (.slice WA N cw)) (by kernel_rfl) ?_ (fun hHeld => ?_)
    · (try dsimp only); (repeat' apply And.intro) <;> (first | (go_keep; done) | (go_simp; done))
    refine wpAnyH_take (i := 0) (oi := _) (v := ?_) rfl (by kernel_rfl) (by kernel_rfl) (by kernel_rfl) (fun _ _ _ h => h) (Or.inl ⟨by rfl, ?_⟩) (by assumption) ?_
    rotate_left
    · (intro w hSw; (try dsimp only at hSw); go_simp) <;> with_reducible rfl
    simp only [Act.put, List.getElem_toArray, List.getElem_cons_zero, List.setIfInBounds_toArray, List.set_cons_zero, List.set_cons_succ]
    refine wpAnyH_ready (rs := [1]) (by kernel_rfl) (by simp) ?_
    refine AllReadyH.cons (o := _) rfl (fun K hK => ?_) AllReadyH.nil
    go_simp
    (go_at_call 9; refine (ty (iCabinOk_any x0 x1 x2 x3 x4 AE k kc qs WA N cw S _ hk0 hkc hN hT (HE.out.below (by (repeat (first | with_reducible exact Below.refl _ _ | with_reducible refine Below.drew ?_ | with_reducible refine below_drewN ?_ _ | (with_reducible refine bel_alloc ?_ ?_ _; (first | omega | (simp; omega) | simp)) | (with_reducible refine bel_set ?_ ?_ _; (first | omega | (simp; omega) | simp)) | (with_reducible refine bel_tr (by assumption) ?_ ?_; (first | omega | (simp; omega) | simp)))))) (HW.out.below (by (repeat (first | with_reducible exact Below.refl _ _ | with_reducible refine Below.drew ?_ | with_reducible refine below_drewN ?_ _ | (with_reducible refine bel_alloc ?_ ?_ _; (first | omega | (simp; omega) | simp)) | (with_reducible refine bel_set ?_ ?_ _; (first | omega | (simp; omega) | simp)) | (with_reducible refine bel_tr (by assumption) ?_ ?_; (first | omega | (simp; omega) | simp))))))) e0).mono ?_; rintro y wA ⟨rfl, hbA⟩; have bcA := bcell hbA; obtain ⟨hcA, hfA⟩ := bcA; have ksA := hbA.size; (try simp at ksA); have kcA0 : ∀ o, wA.cell? ⟨w.heap.size, o, none⟩ = _ := (fun o => hbA.cell (p := ⟨w.heap.size, o, none⟩) (by (first | omega | (simp; omega) | simp))); have kfA0 : ∀ o, wA.frozen? ⟨w.heap.size, o, none⟩ = _ := (fun o => hbA.frozen (p := ⟨w.heap.size, o, none⟩) (by (first | omega | (simp; omega) | simp))); have kcA1 : ∀ o, wA.cell? ⟨w.heap.size + 1, o, none⟩ = _ := (fun o => hbA.cell (p := ⟨w.heap.size + 1, o, none⟩) (by (first | omega | (simp; omega) | simp))); have kfA1 : ∀ o, wA.frozen? ⟨w.heap.size + 1, o, none⟩ = _ := (fun o => hbA.frozen (p := ⟨w.heap.size + 1, o, none⟩) (by (first | omega | (simp; omega) | simp))); have kzA0 : w.heap.size < wA.heap.size := (by have hh := hbA.size; (try simp at hh); omega); have kzA1 : w.heap.size + 1 < wA.heap.size := (by have hh := hbA.size; (try simp at hh); omega))
    go_wp2_with fail
    clear hHeld
    refine hK.out _ _ ?_ (fun hHeld => ?_)
    · (try dsimp only); (repeat' apply And.intro) <;> (first | (go_keep; done) | (go_simp; done))
    clear hK
    try simp only [Act.put, List.getElem_toArray, List.getElem_cons_succ, List.getElem_cons_zero, List.setIfInBounds_toArray, List.set_cons_zero, List.set_cons_succ]
    refine wpAnyH_take (i := 2) (oi := _) (v := ?_) rfl (by kernel_rfl) (by kernel_rfl) (by kernel_rfl) (fun _ _ _ h => h) (Or.inl ⟨by rfl, ?_⟩) (by assumption) ?_
    rotate_left
    · (intro w hSw; (try dsimp only at hSw); go_simp) <;> with_reducible rfl
    simp only [Act.put, List.getElem_toArray, List.getElem_cons_succ, List.getElem_cons_zero, List.setIfInBounds_toArray, List.set_cons_zero, List.set_cons_succ]
    refine wpAnyH_take (i := 3) (oi := _) (v := ?_) rfl (by kernel_rfl) (by kernel_rfl) (by kernel_rfl) (fun _ _ _ h => h) (Or.inl ⟨by rfl, ?_⟩) (by assumption) ?_
    rotate_left
    · (intro w hSw; (try dsimp only at hSw); go_simp) <;> with_reducible rfl
    simp only [Act.put, List.getElem_toArray, List.getElem_cons_succ, List.getElem_cons_zero, List.setIfInBounds_toArray, List.set_cons_zero, List.set_cons_succ]
    refine wpAnyH_take (i := 4) (oi := _) (v := ?_) rfl (by kernel_rfl) (by kernel_rfl) (by kernel_rfl) (fun _ _ _ h => h) (Or.inl ⟨by rfl, ?_⟩) (by assumption) ?_
    rotate_left
    · (intro w hSw; (try dsimp only at hSw); go_simp) <;> with_reducible rfl
    simp only [Act.put, List.getElem_toArray, List.getElem_cons_succ, List.getElem_cons_zero, List.setIfInBounds_toArray, List.set_cons_zero, List.set_cons_succ]
    refine wpAnyH_take (i := 5) (oi := _) (v := ?_) rfl (by kernel_rfl) (by kernel_rfl) (by kernel_rfl) (fun _ _ _ h => h) (Or.inl ⟨by rfl, ?_⟩) (by assumption) ?_
    rotate_left
    · (intro w hSw; (try dsimp only at hSw); go_simp) <;> with_reducible rfl
    simp only [Act.put, List.getElem_toArray, List.getElem_cons_succ, List.getElem_cons_zero, List.setIfInBounds_toArray, List.set_cons_zero, List.set_cons_succ]
    refine wpAnyH_take (i := 6) (oi := _) (v := ?_) rfl (by kernel_rfl) (by kernel_rfl) (by kernel_rfl) (fun _ _ _ h => h) (Or.inl ⟨by rfl, ?_⟩) (by assumption) ?_
    rotate_left
    · (intro w hSw; (try dsimp only at hSw); go_simp) <;> with_reducible rfl
    simp only [Act.put, List.getElem_toArray, List.getElem_cons_succ, List.getElem_cons_zero, List.setIfInBounds_toArray, List.set_cons_zero, List.set_cons_succ]
    refine wpAnyH_take (i := 7) (oi := _) (v := ?_) rfl (by kernel_rfl) (by kernel_rfl) (by kernel_rfl) (fun _ _ _ h => h) (Or.inl ⟨by rfl, ?_⟩) (by assumption) ?_
    rotate_left
    · (intro w hSw; (try dsimp only at hSw); go_simp) <;> with_reducible rfl
    simp only [Act.put, List.getElem_toArray, List.getElem_cons_succ, List.getElem_cons_zero, List.setIfInBounds_toArray, List.set_cons_zero, List.set_cons_succ]
    refine wpAnyH_take (i := 8) (oi := _) (v := ?_) rfl (by kernel_rfl) (by kernel_rfl) (by kernel_rfl) (fun _ _ _ h => h) (Or.inl ⟨by rfl, ?_⟩) (by assumption) ?_
    rotate_left
    · (intro w hSw; (try dsimp only at hSw); go_simp) <;> with_reducible rfl
    simp only [Act.put, List.getElem_toArray, List.getElem_cons_succ, List.getElem_cons_zero, List.setIfInBounds_toArray, List.set_cons_zero, List.set_cons_succ]
    refine wpAnyH_ready (rs := [9]) (by kernel_rfl) (by simp) ?_
    refine AllReadyH.cons (o := _) rfl (fun K hK => ?_) AllReadyH.nil
    go_simp
    (go_at_call 38; refine (iQueueOf_any A n c es r P m pc ps cab now ok _ hn hm (H.out.below (by (repeat (first | with_reducible exact Below.refl _ _ | with_reducible refine Below.drew ?_ | with_reducible refine below_drewN ?_ _ | (with_reducible refine bel_alloc ?_ ?_ _; (first | omega | (simp; omega) | simp)) | (with_reducible refine bel_set ?_ ?_ _; (first | omega | (simp; omega) | simp)) | (with_reducible refine bel_tr (by assumption) ?_ ?_; (first | omega | (simp; omega) | simp)))))) (HP.out.below (by (repeat (first | with_reducible exact Below.refl _ _ | with_reducible refine Below.drew ?_ | with_reducible refine below_drewN ?_ _ | (with_reducible refine bel_alloc ?_ ?_ _; (first | omega | (simp; omega) | simp)) | (with_reducible refine bel_set ?_ ?_ _; (first | omega | (simp; omega) | simp)) | (with_reducible refine bel_tr (by assumption) ?_ ?_; (first | omega | (simp; omega) | simp)))))) HK.out).mono ?_; rintro y wB ⟨AB, nB, cB, rfl, oB, _, hbB⟩; have bcB := bcell hbB; obtain ⟨hcB, hfB⟩ := bcB; have ksB := hbB.size; (try simp at ksB); have kcB0 : ∀ o, wB.cell? ⟨w.heap.size, o, none⟩ = _ := (fun o => hbB.cell (p := ⟨w.heap.size, o, none⟩) (by (first | omega | (simp; omega) | simp))); have kfB0 : ∀ o, wB.frozen? ⟨w.heap.size, o, none⟩ = _ := (fun o => hbB.frozen (p := ⟨w.heap.size, o, none⟩) (by (first | omega | (simp; omega) | simp))); have kcB1 : ∀ o, wB.cell? ⟨w.heap.size + 1, o, none⟩ = _ := (fun o => hbB.cell (p := ⟨w.heap.size + 1, o, none⟩) (by (first | omega | (simp; omega) | simp))); have kfB1 : ∀ o, wB.frozen? ⟨w.heap.size + 1, o, none⟩ = _ := (fun o => hbB.frozen (p := ⟨w.heap.size + 1, o, none⟩) (by (first | omega | (simp; omega) | simp))); have kzB0 : w.heap.size < wB.heap.size := (by have hh := hbB.size; (try simp at hh); omega); have kzB1 : w.heap.size + 1 < wB.heap.size := (by have hh := hbB.size; (try simp at hh); omega); have OB := Lib.hid oB; have LB : nB ≤ 4194304 := (by have h1 := OB.out.1; have h2 := entL_len ok r now ps m; rw [sortR_len] at h1; omega); clear oB)
    go_wp2_with fail
    clear hHeld
    refine hK.out _ _ ?_ (fun hHeld => ?_)
    · (try dsimp only); (repeat' apply And.intro) <;> (first | (go_keep; done) | (go_simp; done))
    clear hK
    try simp only [Act.put, List.getElem_toArray, List.getElem_cons_succ, List.getElem_cons_zero, List.setIfInBounds_toArray, List.set_cons_zero, List.set_cons_succ]
    refine wpAnyH_ready (rs := [10]) (by kernel_rfl) (by simp) ?_
    refine AllReadyH.cons (o := _) rfl (fun K hK => ?_) AllReadyH.nil
    go_simp
    (go_at_call 37; refine (ty (equalRow_any AE AB k kc nB cB _ _ _ hk LB (HE.out.below (by (repeat (first | with_reducible exact Below.refl _ _ | with_reducible refine Below.drew ?_ | with_reducible refine below_drewN ?_ _ | (with_reducible refine bel_alloc ?_ ?_ _; (first | omega | (simp; omega) | simp)) | (with_reducible refine bel_set ?_ ?_ _; (first | omega | (simp; omega) | simp)) | (with_reducible refine bel_tr (by assumption) ?_ ?_; (first | omega | (simp; omega) | simp)))))) (by first | exact OB.out.rd | exact (OB.out.rd.below (by (repeat (first | with_reducible exact Below.refl _ _ | with_reducible refine Below.drew ?_ | with_reducible refine below_drewN ?_ _ | (with_reducible refine bel_alloc ?_ ?_ _; (first | omega | (simp; omega) | simp)) | (with_reducible refine bel_set ?_ ?_ _; (first | omega | (simp; omega) | simp)) | (with_reducible refine bel_tr (by assumption) ?_ ?_; (first | omega | (simp; omega) | simp)))))))) e1).mono ?_; rintro y wC ⟨rfl, hbC⟩; have bcC := bcell hbC; obtain ⟨hcC, hfC⟩ := bcC; have ksC := hbC.size; (try simp at ksC); have kcC0 : ∀ o, wC.cell? ⟨w.heap.size, o, none⟩ = _ := (fun o => hbC.cell (p := ⟨w.heap.size, o, none⟩) (by (first | omega | (simp; omega) | simp))); have kfC0 : ∀ o, wC.frozen? ⟨w.heap.size, o, none⟩ = _ := (fun o => hbC.frozen (p := ⟨w.heap.size, o, none⟩) (by (first | omega | (simp; omega) | simp))); have kcC1 : ∀ o, wC.cell? ⟨w.heap.size + 1, o, none⟩ = _ := (fun o => hbC.cell (p := ⟨w.heap.size + 1, o, none⟩) (by (first | omega | (simp; omega) | simp))); have kfC1 : ∀ o, wC.frozen? ⟨w.heap.size + 1, o, none⟩ = _ := (fun o => hbC.frozen (p := ⟨w.heap.size + 1, o, none⟩) (by (first | omega | (simp; omega) | simp))); have kzC0 : w.heap.size < wC.heap.size := (by have hh := hbC.size; (try simp at hh); omega); have kzC1 : w.heap.size + 1 < wC.heap.size := (by have hh := hbC.size; (try simp at hh); omega))
    go_wp2_with fail
    clear hHeld
    refine hK.out _ _ ?_ (fun hHeld => ?_)
    · (try dsimp only); (repeat' apply And.intro) <;> (first | (go_keep; done) | (go_simp; done))
    clear hK
    try simp only [Act.put, List.getElem_toArray, List.getElem_cons_succ, List.getElem_cons_zero, List.setIfInBounds_toArray, List.set_cons_zero, List.set_cons_succ]
    refine wpAnyH_take (i := 11) (oi := _) (v := ?_) rfl (by kernel_rfl) (by kernel_rfl) (by kernel_rfl) (fun _ _ _ h => h) (Or.inl ⟨by rfl, ?_⟩) (by assumption) ?_
    rotate_left
    · (intro w hSw; (try dsimp only at hSw); go_simp) <;> with_reducible rfl
    simp only [Act.put, List.getElem_toArray, List.getElem_cons_succ, List.getElem_cons_zero, List.setIfInBounds_toArray, List.set_cons_zero, List.set_cons_succ]
    refine wpAnyH_take (i := 12) (oi := _) (v := ?_) rfl (by kernel_rfl) (by kernel_rfl) (by kernel_rfl) (fun _ _ _ h => h) (Or.inl ⟨by rfl, ?_⟩) (by assumption) ?_
    rotate_left
    · (intro w hSw; (try dsimp only at hSw); go_simp) <;> with_reducible rfl
    simp only [Act.put, List.getElem_toArray, List.getElem_cons_succ, List.getElem_cons_zero, List.setIfInBounds_toArray, List.set_cons_zero, List.set_cons_succ]
    refine wpAnyH_take (i := 13) (oi := _) (v := ?_) rfl (by kernel_rfl) (by kernel_rfl) (by kernel_rfl) (fun _ _ _ h => h) (Or.inl ⟨by rfl, ?_⟩) (by assumption) ?_
    rotate_left
    · (intro w hSw; (try dsimp only at hSw); go_simp) <;> with_reducible rfl
    simp only [Act.put, List.getElem_toArray, List.getElem_cons_succ, List.getElem_cons_zero, List.setIfInBounds_toArray, List.set_cons_zero, List.set_cons_succ]
    refine wpAnyH_take (i := 14) (oi := _) (v := ?_) rfl (by kernel_rfl) (by kernel_rfl) (by kernel_rfl) (fun _ _ _ h => h) (Or.inl ⟨by rfl, ?_⟩) (by assumption) ?_
    rotate_left
    · (intro w hSw; (try dsimp only at hSw); go_simp) <;> with_reducible rfl
    simp only [Act.put, List.getElem_toArray, List.getElem_cons_succ, List.getElem_cons_zero, List.setIfInBounds_toArray, List.set_cons_zero, List.set_cons_succ]
    refine wpAnyH_take (i := 16) (oi := _) (v := ?_) rfl (by kernel_rfl) (by kernel_rfl) (by kernel_rfl) (fun _ _ _ h => h) (Or.inl ⟨by rfl, ?_⟩) (by assumption) ?_
    rotate_left
    · (intro w hSw; (try dsimp only at hSw); go_simp) <;> with_reducible rfl
    simp only [Act.put, List.getElem_toArray, List.getElem_cons_succ, List.getElem_cons_zero, List.setIfInBounds_toArray, List.set_cons_zero, List.set_cons_succ]
    refine wpAnyH_take (i := 17) (oi := _) (v := ?_) rfl (by kernel_rfl) (by kernel_rfl) (by kernel_rfl) (fun _ _ _ h => h) (Or.inl ⟨by rfl, ?_⟩) (by assumption) ?_
    rotate_left
    · (intro w hSw; (try dsimp only at hSw); go_simp) <;> with_reducible rfl
    simp only [Act.put, List.getElem_toArray, List.getElem_cons_succ, List.getElem_cons_zero, List.setIfInBounds_toArray, List.set_cons_zero, List.set_cons_succ]
    refine wpAnyH_ready (rs := [15]) (by kernel_rfl) (by simp) ?_
    refine AllReadyH.cons (o := _) rfl (fun K hK => ?_) AllReadyH.nil
    go_simp
    (go_at_call 40; refine (iPinsOf_any WA N cw S _ hN hT (HW.out.below (by (repeat (first | with_reducible exact Below.refl _ _ | with_reducible refine Below.drew ?_ | with_reducible refine below_drewN ?_ _ | (with_reducible refine bel_alloc ?_ ?_ _; (first | omega | (simp; omega) | simp)) | (with_reducible refine bel_set ?_ ?_ _; (first | omega | (simp; omega) | simp)) | (with_reducible refine bel_tr (by assumption) ?_ ?_; (first | omega | (simp; omega) | simp))))))).mono ?_; rintro y wD ⟨AD, nD, cD, rfl, oD, _, hbD⟩; have bcD := bcell hbD; obtain ⟨hcD, hfD⟩ := bcD; have ksD := hbD.size; (try simp at ksD); have kcD0 : ∀ o, wD.cell? ⟨w.heap.size, o, none⟩ = _ := (fun o => hbD.cell (p := ⟨w.heap.size, o, none⟩) (by (first | omega | (simp; omega) | simp))); have kfD0 : ∀ o, wD.frozen? ⟨w.heap.size, o, none⟩ = _ := (fun o => hbD.frozen (p := ⟨w.heap.size, o, none⟩) (by (first | omega | (simp; omega) | simp))); have kcD1 : ∀ o, wD.cell? ⟨w.heap.size + 1, o, none⟩ = _ := (fun o => hbD.cell (p := ⟨w.heap.size + 1, o, none⟩) (by (first | omega | (simp; omega) | simp))); have kfD1 : ∀ o, wD.frozen? ⟨w.heap.size + 1, o, none⟩ = _ := (fun o => hbD.frozen (p := ⟨w.heap.size + 1, o, none⟩) (by (first | omega | (simp; omega) | simp))); have kzD0 : w.heap.size < wD.heap.size := (by have hh := hbD.size; (try simp at hh); omega); have kzD1 : w.heap.size + 1 < wD.heap.size := (by have hh := hbD.size; (try simp at hh); omega); have OD := Lib.hid oD; have LD : nD ≤ 4194304 := (by have h1 := OD.out.1; have h2 := pinsL_len (N := N) (S := S); omega); clear oD)
    go_wp2_with fail
    clear hHeld
    refine hK.out _ _ ?_ (fun hHeld => ?_)
    · (try dsimp only); (repeat' apply And.intro) <;> (first | (go_keep; done) | (go_simp; done))
    clear hK
    try simp only [Act.put, List.getElem_toArray, List.getElem_cons_succ, List.getElem_cons_zero, List.setIfInBounds_toArray, List.set_cons_zero, List.set_cons_succ]
    refine wpAnyH_ready (rs := [18]) (by kernel_rfl) (by simp) ?_
    refine AllReadyH.cons (o := _) rfl (fun K hK => ?_) AllReadyH.nil
    go_simp
    (go_at_call 41; refine (iPinsIn_n P m pc cab ps _ hm (HP.out.below (by (repeat (first | with_reducible exact Below.refl _ _ | with_reducible refine Below.drew ?_ | with_reducible refine below_drewN ?_ _ | (with_reducible refine bel_alloc ?_ ?_ _; (first | omega | (simp; omega) | simp)) | (with_reducible refine bel_set ?_ ?_ _; (first | omega | (simp; omega) | simp)) | (with_reducible refine bel_tr (by assumption) ?_ ?_; (first | omega | (simp; omega) | simp))))))).mono ?_; rintro y wE ⟨AF, nF, cF, rfl, oF, _, hbE⟩; have bcE := bcell hbE; obtain ⟨hcE, hfE⟩ := bcE; have ksE := hbE.size; (try simp at ksE); have kcE0 : ∀ o, wE.cell? ⟨w.heap.size, o, none⟩ = _ := (fun o => hbE.cell (p := ⟨w.heap.size, o, none⟩) (by (first | omega | (simp; omega) | simp))); have kfE0 : ∀ o, wE.frozen? ⟨w.heap.size, o, none⟩ = _ := (fun o => hbE.frozen (p := ⟨w.heap.size, o, none⟩) (by (first | omega | (simp; omega) | simp))); have kcE1 : ∀ o, wE.cell? ⟨w.heap.size + 1, o, none⟩ = _ := (fun o => hbE.cell (p := ⟨w.heap.size + 1, o, none⟩) (by (first | omega | (simp; omega) | simp))); have kfE1 : ∀ o, wE.frozen? ⟨w.heap.size + 1, o, none⟩ = _ := (fun o => hbE.frozen (p := ⟨w.heap.size + 1, o, none⟩) (by (first | omega | (simp; omega) | simp))); have kzE0 : w.heap.size < wE.heap.size := (by have hh := hbE.size; (try simp at hh); omega); have kzE1 : w.heap.size + 1 < wE.heap.size := (by have hh := hbE.size; (try simp at hh); omega); have OF := Lib.hid oF; have LF : nF ≤ 4194304 := (by have h1 := OF.out.1; have h2 := pinF_len ps cab m; rw [sortL_len] at h1; omega); clear oF)
    go_wp2_with fail
    clear hHeld
    refine hK.out _ _ ?_ (fun hHeld => ?_)
    · (try dsimp only); (repeat' apply And.intro) <;> (first | (go_keep; done) | (go_simp; done))
    clear hK
    try simp only [Act.put, List.getElem_toArray, List.getElem_cons_succ, List.getElem_cons_zero, List.setIfInBounds_toArray, List.set_cons_zero, List.set_cons_succ]
    refine wpAnyH_ready (rs := [19]) (by kernel_rfl) (by simp) ?_
    refine AllReadyH.cons (o := _) rfl (fun K hK => ?_) AllReadyH.nil
    go_simp
    (go_at_call 39; refine (ty (equalPins_any AD AF nD cD nF cF _ _ _ LD LF (by first | exact OD.out.rd | exact (OD.out.rd.below (by (repeat (first | with_reducible exact Below.refl _ _ | with_reducible refine Below.drew ?_ | with_reducible refine below_drewN ?_ _ | (with_reducible refine bel_alloc ?_ ?_ _; (first | omega | (simp; omega) | simp)) | (with_reducible refine bel_set ?_ ?_ _; (first | omega | (simp; omega) | simp)) | (with_reducible refine bel_tr (by assumption) ?_ ?_; (first | omega | (simp; omega) | simp))))))) (by first | exact OF.out.rd | exact (OF.out.rd.below (by (repeat (first | with_reducible exact Below.refl _ _ | with_reducible refine Below.drew ?_ | with_reducible refine below_drewN ?_ _ | (with_reducible refine bel_alloc ?_ ?_ _; (first | omega | (simp; omega) | simp)) | (with_reducible refine bel_set ?_ ?_ _; (first | omega | (simp; omega) | simp)) | (with_reducible refine bel_tr (by assumption) ?_ ?_; (first | omega | (simp; omega) | simp)))))))) e2).mono ?_; rintro y wG ⟨rfl, hbG⟩; have bcG := bcell hbG; obtain ⟨hcG, hfG⟩ := bcG; have ksG := hbG.size; (try simp at ksG); have kcG0 : ∀ o, wG.cell? ⟨w.heap.size, o, none⟩ = _ := (fun o => hbG.cell (p := ⟨w.heap.size, o, none⟩) (by (first | omega | (simp; omega) | simp))); have kfG0 : ∀ o, wG.frozen? ⟨w.heap.size, o, none⟩ = _ := (fun o => hbG.frozen (p := ⟨w.heap.size, o, none⟩) (by (first | omega | (simp; omega) | simp))); have kcG1 : ∀ o, wG.cell? ⟨w.heap.size + 1, o, none⟩ = _ := (fun o => hbG.cell (p := ⟨w.heap.size + 1, o, none⟩) (by (first | omega | (simp; omega) | simp))); have kfG1 : ∀ o, wG.frozen? ⟨w.heap.size + 1, o, none⟩ = _ := (fun o => hbG.frozen (p := ⟨w.heap.size + 1, o, none⟩) (by (first | omega | (simp; omega) | simp))); have kzG0 : w.heap.size < wG.heap.size := (by have hh := hbG.size; (try simp at hh); omega); have kzG1 : w.heap.size + 1 < wG.heap.size := (by have hh := hbG.size; (try simp at hh); omega))
    go_wp2_with fail
    clear hHeld
    refine hK.out _ _ ?_ (fun hHeld => ?_)
    · (try dsimp only); (repeat' apply And.intro) <;> (first | (go_keep; done) | (go_simp; done))
    clear hK
    try simp only [Act.put, List.getElem_toArray, List.getElem_cons_succ, List.getElem_cons_zero, List.setIfInBounds_toArray, List.set_cons_zero, List.set_cons_succ]
    refine wpAnyH_take (i := 20) (oi := _) (v := ?_) rfl (by kernel_rfl) (by kernel_rfl) (by kernel_rfl) (fun _ _ _ h => h) (Or.inl ⟨by rfl, ?_⟩) (by assumption) ?_
    rotate_left
    · (intro w hSw; (try dsimp only at hSw); go_simp) <;> with_reducible rfl
    simp only [Act.put, List.getElem_toArray, List.getElem_cons_succ, List.getElem_cons_zero, List.setIfInBounds_toArray, List.set_cons_zero, List.set_cons_succ]
    refine wpAnyH_take (i := 21) (oi := _) (v := ?_) rfl (by kernel_rfl) (by kernel_rfl) (by kernel_rfl) (fun _ _ _ h => h) (Or.inl ⟨by rfl, ?_⟩) (by assumption) ?_
    rotate_left
    · (intro w hSw; (try dsimp only at hSw); go_simp) <;> with_reducible rfl
    simp only [Act.put, List.getElem_toArray, List.getElem_cons_succ, List.getElem_cons_zero, List.setIfInBounds_toArray, List.set_cons_zero, List.set_cons_succ]
    refine wpAnyH_take (i := 22) (oi := _) (v := ?_) rfl (by kernel_rfl) (by kernel_rfl) (by kernel_rfl) (fun _ _ _ h => h) (Or.inl ⟨by rfl, ?_⟩) (by assumption) ?_
    rotate_left
    · (intro w hSw; (try dsimp only at hSw); go_simp) <;> with_reducible rfl
    simp only [Act.put, List.getElem_toArray, List.getElem_cons_succ, List.getElem_cons_zero, List.setIfInBounds_toArray, List.set_cons_zero, List.set_cons_succ]
    refine wpAnyH_take (i := 23) (oi := _) (v := ?_) rfl (by kernel_rfl) (by kernel_rfl) (by kernel_rfl) (fun _ _ _ h => h) (Or.inl ⟨by rfl, ?_⟩) (by assumption) ?_
    rotate_left
    · (intro w hSw; (try dsimp only at hSw); go_simp) <;> with_reducible rfl
    simp only [Act.put, List.getElem_toArray, List.getElem_cons_succ, List.getElem_cons_zero, List.setIfInBounds_toArray, List.set_cons_zero, List.set_cons_succ]
    refine wpAnyH_take (i := 24) (oi := _) (v := ?_) rfl (by kernel_rfl) (by kernel_rfl) (by kernel_rfl) (fun _ _ _ h => h) (Or.inl ⟨by rfl, ?_⟩) (by assumption) ?_
    rotate_left
    · (intro w hSw; (try dsimp only at hSw); go_simp) <;> with_reducible rfl
    simp only [Act.put, List.getElem_toArray, List.getElem_cons_succ, List.getElem_cons_zero, List.setIfInBounds_toArray, List.set_cons_zero, List.set_cons_succ]
    refine wpAnyH_take (i := 25) (oi := _) (v := ?_) rfl (by kernel_rfl) (by kernel_rfl) (by kernel_rfl) (fun _ _ _ h => h) (Or.inl ⟨by rfl, ?_⟩) (by assumption) ?_
    rotate_left
    · (intro w hSw; (try dsimp only at hSw); go_simp) <;> with_reducible rfl
    simp only [Act.put, List.getElem_toArray, List.getElem_cons_succ, List.getElem_cons_zero, List.setIfInBounds_toArray, List.set_cons_zero, List.set_cons_succ]
    refine wpAnyH_take (i := 26) (oi := _) (v := ?_) rfl (by kernel_rfl) (by kernel_rfl) (by kernel_rfl) (fun _ _ _ h => h) (Or.inl ⟨by rfl, ?_⟩) (by assumption) ?_
    rotate_left
    · (intro w hSw; (try dsimp only at hSw); go_simp) <;> with_reducible rfl
    simp only [Act.put, List.getElem_toArray, List.getElem_cons_succ, List.getElem_cons_zero, List.setIfInBounds_toArray, List.set_cons_zero, List.set_cons_succ]
    refine wpAnyH_ready (rs := [27]) (by kernel_rfl) (by simp) ?_
    refine AllReadyH.cons (o := _) rfl (fun K hK => ?_) AllReadyH.nil
    go_simp
    (go_at_call 42; refine (iHeldIn_t P m pc cab ps hd _ hm0 (HP.out.below (by (repeat (first | with_reducible exact Below.refl _ _ | with_reducible refine Below.drew ?_ | with_reducible refine below_drewN ?_ _ | (with_reducible refine bel_alloc ?_ ?_ _; (first | omega | (simp; omega) | simp)) | (with_reducible refine bel_set ?_ ?_ _; (first | omega | (simp; omega) | simp)) | (with_reducible refine bel_tr (by assumption) ?_ ?_; (first | omega | (simp; omega) | simp)))))) HD.out).mono ?_; rintro y wH ⟨rfl, hbH⟩; have bcH := bcell hbH; obtain ⟨hcH, hfH⟩ := bcH; have ksH := hbH.size; (try simp at ksH); have kcH0 : ∀ o, wH.cell? ⟨w.heap.size, o, none⟩ = _ := (fun o => hbH.cell (p := ⟨w.heap.size, o, none⟩) (by (first | omega | (simp; omega) | simp))); have kfH0 : ∀ o, wH.frozen? ⟨w.heap.size, o, none⟩ = _ := (fun o => hbH.frozen (p := ⟨w.heap.size, o, none⟩) (by (first | omega | (simp; omega) | simp))); have kcH1 : ∀ o, wH.cell? ⟨w.heap.size + 1, o, none⟩ = _ := (fun o => hbH.cell (p := ⟨w.heap.size + 1, o, none⟩) (by (first | omega | (simp; omega) | simp))); have kfH1 : ∀ o, wH.frozen? ⟨w.heap.size + 1, o, none⟩ = _ := (fun o => hbH.frozen (p := ⟨w.heap.size + 1, o, none⟩) (by (first | omega | (simp; omega) | simp))); have kzH0 : w.heap.size < wH.heap.size := (by have hh := hbH.size; (try simp at hh); omega); have kzH1 : w.heap.size + 1 < wH.heap.size := (by have hh := hbH.size; (try simp at hh); omega))
    go_wp2_with fail
    clear hHeld
    refine hK.out _ _ ?_ (fun hHeld => ?_)
    · (try dsimp only); (repeat' apply And.intro) <;> (first | (go_keep; done) | (go_simp; done))
    clear hK
    try simp only [Act.put, List.getElem_toArray, List.getElem_cons_succ, List.getElem_cons_zero, List.setIfInBounds_toArray, List.set_cons_zero, List.set_cons_succ]
    refine wpAnyH_take (i := 28) (oi := _) (v := ?_) rfl (by kernel_rfl) (by kernel_rfl) (by kernel_rfl) (fun _ _ _ h => h) (Or.inl ⟨by rfl, ?_⟩) (by assumption) ?_
    rotate_left
    · (intro w hSw; (try dsimp only at hSw); go_simp) <;> with_reducible rfl
    simp only [Act.put, List.getElem_toArray, List.getElem_cons_succ, List.getElem_cons_zero, List.setIfInBounds_toArray, List.set_cons_zero, List.set_cons_succ]
    refine wpAnyH_take (i := 29) (oi := _) (v := ?_) rfl (by kernel_rfl) (by kernel_rfl) (by kernel_rfl) (fun _ _ _ h => h) (Or.inl ⟨by rfl, ?_⟩) (by assumption) ?_
    rotate_left
    · (intro w hSw; (try dsimp only at hSw); go_simp) <;> with_reducible rfl
    simp only [Act.put, List.getElem_toArray, List.getElem_cons_succ, List.getElem_cons_zero, List.setIfInBounds_toArray, List.set_cons_zero, List.set_cons_succ]
    refine wpAnyH_take (i := 30) (oi := _) (v := ?_) rfl (by kernel_rfl) (by kernel_rfl) (by kernel_rfl) (fun _ _ _ h => h) (Or.inl ⟨by rfl, ?_⟩) (by assumption) ?_
    rotate_left
    · (intro w hSw; (try dsimp only at hSw); go_simp) <;> with_reducible rfl
    simp only [Act.put, List.getElem_toArray, List.getElem_cons_succ, List.getElem_cons_zero, List.setIfInBounds_toArray, List.set_cons_zero, List.set_cons_succ]
    refine wpAnyH_take (i := 31) (oi := _) (v := undef) rfl (by kernel_rfl) (by kernel_rfl) (by kernel_rfl) (fun _ _ _ h => h) (Or.inr ⟨by rfl, rfl⟩) (by assumption) ?_
    simp only [Act.put, List.getElem_toArray, List.getElem_cons_succ, List.getElem_cons_zero, List.setIfInBounds_toArray, List.set_cons_zero, List.set_cons_succ]
    refine wpAnyH_take (i := 32) (oi := _) (v := undef) rfl (by kernel_rfl) (by kernel_rfl) (by kernel_rfl) (fun _ _ _ h => h) (Or.inr ⟨by rfl, rfl⟩) (by assumption) ?_
    simp only [Act.put, List.getElem_toArray, List.getElem_cons_succ, List.getElem_cons_zero, List.setIfInBounds_toArray, List.set_cons_zero, List.set_cons_succ]
    refine wpAnyH_take (i := 33) (oi := _) (v := undef) rfl (by kernel_rfl) (by kernel_rfl) (by kernel_rfl) (fun _ _ _ h => h) (Or.inr ⟨by rfl, rfl⟩) (by assumption) ?_
    simp only [Act.put, List.getElem_toArray, List.getElem_cons_succ, List.getElem_cons_zero, List.setIfInBounds_toArray, List.set_cons_zero, List.set_cons_succ]
    refine wpAnyH_take (i := 34) (oi := _) (v := undef) rfl (by kernel_rfl) (by kernel_rfl) (by kernel_rfl) (fun _ _ _ h => h) (Or.inr ⟨by rfl, rfl⟩) (by assumption) ?_
    simp only [Act.put, List.getElem_toArray, List.getElem_cons_succ, List.getElem_cons_zero, List.setIfInBounds_toArray, List.set_cons_zero, List.set_cons_succ]
    refine wpAnyH_take (i := 35) (oi := _) (v := undef) rfl (by kernel_rfl) (by kernel_rfl) (by kernel_rfl) (fun _ _ _ h => h) (Or.inr ⟨by rfl, rfl⟩) (by assumption) ?_
    simp only [Act.put, List.getElem_toArray, List.getElem_cons_succ, List.getElem_cons_zero, List.setIfInBounds_toArray, List.set_cons_zero, List.set_cons_succ]
    refine wpAnyH_take (i := 36) (oi := _) (v := undef) rfl (by kernel_rfl) (by kernel_rfl) (by kernel_rfl) (fun _ _ _ h => h) (Or.inr ⟨by rfl, rfl⟩) (by assumption) ?_
    simp only [Act.put, List.getElem_toArray, List.getElem_cons_succ, List.getElem_cons_zero, List.setIfInBounds_toArray, List.set_cons_zero, List.set_cons_succ]
    refine wpAnyH_take (i := 37) (oi := _) (v := undef) rfl (by kernel_rfl) (by kernel_rfl) (by kernel_rfl) (fun _ _ _ h => h) (Or.inr ⟨by rfl, rfl⟩) (by assumption) ?_
    simp only [Act.put, List.getElem_toArray, List.getElem_cons_succ, List.getElem_cons_zero, List.setIfInBounds_toArray, List.set_cons_zero, List.set_cons_succ]
    refine wpAnyH_take (i := 38) (oi := _) (v := ?_) rfl (by kernel_rfl) (by kernel_rfl) (by kernel_rfl) (fun _ _ _ h => h) (Or.inl ⟨by rfl, ?_⟩) (by assumption) ?_
    rotate_left
    · (intro w hSw; (try dsimp only at hSw); go_simp) <;> with_reducible rfl
    simp only [Act.put, List.getElem_toArray, List.getElem_cons_succ, List.getElem_cons_zero, List.setIfInBounds_toArray, List.set_cons_zero, List.set_cons_succ]
    refine wpAnyH_take (i := 39) (oi := _) (v := ?_) rfl (by kernel_rfl) (by kernel_rfl) (by kernel_rfl) (fun _ _ _ h => h) (Or.inl ⟨by rfl, ?_⟩) (by assumption) ?_
    rotate_left
    · (intro w hSw; (try dsimp only at hSw); go_simp) <;> with_reducible rfl
    simp only [Act.put, List.getElem_toArray, List.getElem_cons_succ, List.getElem_cons_zero, List.setIfInBounds_toArray, List.set_cons_zero, List.set_cons_succ]
    refine wpAnyH_done (by kernel_rfl) ?_ _
    go_wp2
    go_ret
    exact .inr ⟨rfl, hR.out, by (repeat (first | with_reducible exact Below.refl _ _ | with_reducible refine Below.drew ?_ | with_reducible refine below_drewN ?_ _ | (with_reducible refine bel_alloc ?_ ?_ _; (first | omega | (simp; omega) | simp)) | (with_reducible refine bel_set ?_ ?_ _; (first | omega | (simp; omega) | simp)) | (with_reducible refine bel_tr (by assumption) ?_ ?_; (first | omega | (simp; omega) | simp))))⟩
  have HD2 := Lib.hid (HD.out.trans e3.symm)
  clear e3
  by_cases e4 : x4 = td
  case neg =>
    have hR : Hid (¬ AGR x0 x1 x2 x3 x4 k qs N S (entL ok r now ps m) ps cab m) := Lib.hid fun h => e4 (h.2.2.2.2.trans HT.out)
    have hf4 : (x4 == td) = false := by simpa using e4
    go_enter Tryz.func10, Tryz.ntmps10
    go_wp2
    go_region_held3 (fun w' => w'.cell? ⟨w.heap.size, 0, none⟩ = some (.slice A n c) ∧ w'.cell? ⟨w.heap.size, 1, none⟩ = some (.int .i64 (r 1)) ∧ w'.cell? ⟨w.heap.size, 2, none⟩ = some (.int .i64 (r 2)) ∧ w'.cell? ⟨w.heap.size, 3, none⟩ = some (.int .i64 (r 3)) ∧ w'.cell? ⟨w.heap.size, 4, none⟩ = some (.int .i64 (r 4)) ∧ w'.cell? ⟨w.heap.size, 5, none⟩ = some (.int .i64 (r 5)) ∧ w'.cell? ⟨w.heap.size, 6, none⟩ = some (.int .i64 (r 6)) ∧ w'.cell? ⟨w.heap.size, 7, none⟩ = some (.int .i64 (r 7)) ∧ w'.cell? ⟨w.heap.size, 8, none⟩ = some (.int .i64 (r 8)) ∧ w'.cell? ⟨w.heap.size + 1, 0, none⟩ = some (.int .i64 x0) ∧ w'.cell? ⟨w.heap.size + 1, 1, none⟩ = some (.int .i64 x1) ∧ w'.cell? ⟨w.heap.size + 1, 2, none⟩ = some (.int .i64 x2) ∧ w'.cell? ⟨w.heap.size + 1, 3, none⟩ = some (.int .i64 x3) ∧ w'.cell? ⟨w.heap.size + 1, 4, none⟩ = some (.int .i64 x4) ∧ w'.cell? ⟨w.heap.size + 1, 5, none⟩ = some (.slice AE k kc) ∧ w'.cell? ⟨w.heap.size + 1, 6, none⟩ = some (.slice WA N cw)) ((first | (go_keep; done) | (go_simp; done))) (first
      | (go_at_call 9; refine (ty (iCabinOk_any x0 x1 x2 x3 x4 AE k kc qs WA N cw S _ hk0 hkc hN hT (HE.out.below (by (repeat (first | with_reducible exact Below.refl _ _ | with_reducible refine Below.drew ?_ | with_reducible refine below_drewN ?_ _ | (with_reducible refine bel_alloc ?_ ?_ _; (first | omega | (simp; omega) | simp)) | (with_reducible refine bel_set ?_ ?_ _; (first | omega | (simp; omega) | simp)) | (with_reducible refine bel_tr (by assumption) ?_ ?_; (first | omega | (simp; omega) | simp)))))) (HW.out.below (by (repeat (first | with_reducible exact Below.refl _ _ | with_reducible refine Below.drew ?_ | with_reducible refine below_drewN ?_ _ | (with_reducible refine bel_alloc ?_ ?_ _; (first | omega | (simp; omega) | simp)) | (with_reducible refine bel_set ?_ ?_ _; (first | omega | (simp; omega) | simp)) | (with_reducible refine bel_tr (by assumption) ?_ ?_; (first | omega | (simp; omega) | simp))))))) e0).mono ?_; rintro y wA ⟨rfl, hbA⟩; have bcA := bcell hbA; obtain ⟨hcA, hfA⟩ := bcA; have ksA := hbA.size; (try simp at ksA); have kcA0 : ∀ o, wA.cell? ⟨w.heap.size, o, none⟩ = _ := (fun o => hbA.cell (p := ⟨w.heap.size, o, none⟩) (by (first | omega | (simp; omega) | simp))); have kfA0 : ∀ o, wA.frozen? ⟨w.heap.size, o, none⟩ = _ := (fun o => hbA.frozen (p := ⟨w.heap.size, o, none⟩) (by (first | omega | (simp; omega) | simp))); have kcA1 : ∀ o, wA.cell? ⟨w.heap.size + 1, o, none⟩ = _ := (fun o => hbA.cell (p := ⟨w.heap.size + 1, o, none⟩) (by (first | omega | (simp; omega) | simp))); have kfA1 : ∀ o, wA.frozen? ⟨w.heap.size + 1, o, none⟩ = _ := (fun o => hbA.frozen (p := ⟨w.heap.size + 1, o, none⟩) (by (first | omega | (simp; omega) | simp))); have kzA0 : w.heap.size < wA.heap.size := (by have hh := hbA.size; (try simp at hh); omega); have kzA1 : w.heap.size + 1 < wA.heap.size := (by have hh := hbA.size; (try simp at hh); omega))
      | (go_at_call 38; refine (iQueueOf_any A n c es r P m pc ps cab now ok _ hn hm (H.out.below (by (repeat (first | with_reducible exact Below.refl _ _ | with_reducible refine Below.drew ?_ | with_reducible refine below_drewN ?_ _ | (with_reducible refine bel_alloc ?_ ?_ _; (first | omega | (simp; omega) | simp)) | (with_reducible refine bel_set ?_ ?_ _; (first | omega | (simp; omega) | simp)) | (with_reducible refine bel_tr (by assumption) ?_ ?_; (first | omega | (simp; omega) | simp)))))) (HP.out.below (by (repeat (first | with_reducible exact Below.refl _ _ | with_reducible refine Below.drew ?_ | with_reducible refine below_drewN ?_ _ | (with_reducible refine bel_alloc ?_ ?_ _; (first | omega | (simp; omega) | simp)) | (with_reducible refine bel_set ?_ ?_ _; (first | omega | (simp; omega) | simp)) | (with_reducible refine bel_tr (by assumption) ?_ ?_; (first | omega | (simp; omega) | simp)))))) HK.out).mono ?_; rintro y wB ⟨AB, nB, cB, rfl, oB, _, hbB⟩; have bcB := bcell hbB; obtain ⟨hcB, hfB⟩ := bcB; have ksB := hbB.size; (try simp at ksB); have kcB0 : ∀ o, wB.cell? ⟨w.heap.size, o, none⟩ = _ := (fun o => hbB.cell (p := ⟨w.heap.size, o, none⟩) (by (first | omega | (simp; omega) | simp))); have kfB0 : ∀ o, wB.frozen? ⟨w.heap.size, o, none⟩ = _ := (fun o => hbB.frozen (p := ⟨w.heap.size, o, none⟩) (by (first | omega | (simp; omega) | simp))); have kcB1 : ∀ o, wB.cell? ⟨w.heap.size + 1, o, none⟩ = _ := (fun o => hbB.cell (p := ⟨w.heap.size + 1, o, none⟩) (by (first | omega | (simp; omega) | simp))); have kfB1 : ∀ o, wB.frozen? ⟨w.heap.size + 1, o, none⟩ = _ := (fun o => hbB.frozen (p := ⟨w.heap.size + 1, o, none⟩) (by (first | omega | (simp; omega) | simp))); have kzB0 : w.heap.size < wB.heap.size := (by have hh := hbB.size; (try simp at hh); omega); have kzB1 : w.heap.size + 1 < wB.heap.size := (by have hh := hbB.size; (try simp at hh); omega); have OB := Lib.hid oB; have LB : nB ≤ 4194304 := (by have h1 := OB.out.1; have h2 := entL_len ok r now ps m; rw [sortR_len] at h1; omega); clear oB)
      | (go_at_call 37; refine (ty (equalRow_any AE AB k kc nB cB _ _ _ hk LB (HE.out.below (by (repeat (first | with_reducible exact Below.refl _ _ | with_reducible refine Below.drew ?_ | with_reducible refine below_drewN ?_ _ | (with_reducible refine bel_alloc ?_ ?_ _; (first | omega | (simp; omega) | simp)) | (with_reducible refine bel_set ?_ ?_ _; (first | omega | (simp; omega) | simp)) | (with_reducible refine bel_tr (by assumption) ?_ ?_; (first | omega | (simp; omega) | simp)))))) (by first | exact OB.out.rd | exact (OB.out.rd.below (by (repeat (first | with_reducible exact Below.refl _ _ | with_reducible refine Below.drew ?_ | with_reducible refine below_drewN ?_ _ | (with_reducible refine bel_alloc ?_ ?_ _; (first | omega | (simp; omega) | simp)) | (with_reducible refine bel_set ?_ ?_ _; (first | omega | (simp; omega) | simp)) | (with_reducible refine bel_tr (by assumption) ?_ ?_; (first | omega | (simp; omega) | simp)))))))) e1).mono ?_; rintro y wC ⟨rfl, hbC⟩; have bcC := bcell hbC; obtain ⟨hcC, hfC⟩ := bcC; have ksC := hbC.size; (try simp at ksC); have kcC0 : ∀ o, wC.cell? ⟨w.heap.size, o, none⟩ = _ := (fun o => hbC.cell (p := ⟨w.heap.size, o, none⟩) (by (first | omega | (simp; omega) | simp))); have kfC0 : ∀ o, wC.frozen? ⟨w.heap.size, o, none⟩ = _ := (fun o => hbC.frozen (p := ⟨w.heap.size, o, none⟩) (by (first | omega | (simp; omega) | simp))); have kcC1 : ∀ o, wC.cell? ⟨w.heap.size + 1, o, none⟩ = _ := (fun o => hbC.cell (p := ⟨w.heap.size + 1, o, none⟩) (by (first | omega | (simp; omega) | simp))); have kfC1 : ∀ o, wC.frozen? ⟨w.heap.size + 1, o, none⟩ = _ := (fun o => hbC.frozen (p := ⟨w.heap.size + 1, o, none⟩) (by (first | omega | (simp; omega) | simp))); have kzC0 : w.heap.size < wC.heap.size := (by have hh := hbC.size; (try simp at hh); omega); have kzC1 : w.heap.size + 1 < wC.heap.size := (by have hh := hbC.size; (try simp at hh); omega))
      | (go_at_call 40; refine (iPinsOf_any WA N cw S _ hN hT (HW.out.below (by (repeat (first | with_reducible exact Below.refl _ _ | with_reducible refine Below.drew ?_ | with_reducible refine below_drewN ?_ _ | (with_reducible refine bel_alloc ?_ ?_ _; (first | omega | (simp; omega) | simp)) | (with_reducible refine bel_set ?_ ?_ _; (first | omega | (simp; omega) | simp)) | (with_reducible refine bel_tr (by assumption) ?_ ?_; (first | omega | (simp; omega) | simp))))))).mono ?_; rintro y wD ⟨AD, nD, cD, rfl, oD, _, hbD⟩; have bcD := bcell hbD; obtain ⟨hcD, hfD⟩ := bcD; have ksD := hbD.size; (try simp at ksD); have kcD0 : ∀ o, wD.cell? ⟨w.heap.size, o, none⟩ = _ := (fun o => hbD.cell (p := ⟨w.heap.size, o, none⟩) (by (first | omega | (simp; omega) | simp))); have kfD0 : ∀ o, wD.frozen? ⟨w.heap.size, o, none⟩ = _ := (fun o => hbD.frozen (p := ⟨w.heap.size, o, none⟩) (by (first | omega | (simp; omega) | simp))); have kcD1 : ∀ o, wD.cell? ⟨w.heap.size + 1, o, none⟩ = _ := (fun o => hbD.cell (p := ⟨w.heap.size + 1, o, none⟩) (by (first | omega | (simp; omega) | simp))); have kfD1 : ∀ o, wD.frozen? ⟨w.heap.size + 1, o, none⟩ = _ := (fun o => hbD.frozen (p := ⟨w.heap.size + 1, o, none⟩) (by (first | omega | (simp; omega) | simp))); have kzD0 : w.heap.size < wD.heap.size := (by have hh := hbD.size; (try simp at hh); omega); have kzD1 : w.heap.size + 1 < wD.heap.size := (by have hh := hbD.size; (try simp at hh); omega); have OD := Lib.hid oD; have LD : nD ≤ 4194304 := (by have h1 := OD.out.1; have h2 := pinsL_len (N := N) (S := S); omega); clear oD)
      | (go_at_call 41; refine (iPinsIn_n P m pc cab ps _ hm (HP.out.below (by (repeat (first | with_reducible exact Below.refl _ _ | with_reducible refine Below.drew ?_ | with_reducible refine below_drewN ?_ _ | (with_reducible refine bel_alloc ?_ ?_ _; (first | omega | (simp; omega) | simp)) | (with_reducible refine bel_set ?_ ?_ _; (first | omega | (simp; omega) | simp)) | (with_reducible refine bel_tr (by assumption) ?_ ?_; (first | omega | (simp; omega) | simp))))))).mono ?_; rintro y wE ⟨AF, nF, cF, rfl, oF, _, hbE⟩; have bcE := bcell hbE; obtain ⟨hcE, hfE⟩ := bcE; have ksE := hbE.size; (try simp at ksE); have kcE0 : ∀ o, wE.cell? ⟨w.heap.size, o, none⟩ = _ := (fun o => hbE.cell (p := ⟨w.heap.size, o, none⟩) (by (first | omega | (simp; omega) | simp))); have kfE0 : ∀ o, wE.frozen? ⟨w.heap.size, o, none⟩ = _ := (fun o => hbE.frozen (p := ⟨w.heap.size, o, none⟩) (by (first | omega | (simp; omega) | simp))); have kcE1 : ∀ o, wE.cell? ⟨w.heap.size + 1, o, none⟩ = _ := (fun o => hbE.cell (p := ⟨w.heap.size + 1, o, none⟩) (by (first | omega | (simp; omega) | simp))); have kfE1 : ∀ o, wE.frozen? ⟨w.heap.size + 1, o, none⟩ = _ := (fun o => hbE.frozen (p := ⟨w.heap.size + 1, o, none⟩) (by (first | omega | (simp; omega) | simp))); have kzE0 : w.heap.size < wE.heap.size := (by have hh := hbE.size; (try simp at hh); omega); have kzE1 : w.heap.size + 1 < wE.heap.size := (by have hh := hbE.size; (try simp at hh); omega); have OF := Lib.hid oF; have LF : nF ≤ 4194304 := (by have h1 := OF.out.1; have h2 := pinF_len ps cab m; rw [sortL_len] at h1; omega); clear oF)
      | (go_at_call 39; refine (ty (equalPins_any AD AF nD cD nF cF _ _ _ LD LF (by first | exact OD.out.rd | exact (OD.out.rd.below (by (repeat (first | with_reducible exact Below.refl _ _ | with_reducible refine Below.drew ?_ | with_reducible refine below_drewN ?_ _ | (with_reducible refine bel_alloc ?_ ?_ _; (first | omega | (simp; omega) | simp)) | (with_reducible refine bel_set ?_ ?_ _; (first | omega | (simp; omega) | simp)) | (with_reducible refine bel_tr (by assumption) ?_ ?_; (first | omega | (simp; omega) | simp))))))) (by first | exact OF.out.rd | exact (OF.out.rd.below (by (repeat (first | with_reducible exact Below.refl _ _ | with_reducible refine Below.drew ?_ | with_reducible refine below_drewN ?_ _ | (with_reducible refine bel_alloc ?_ ?_ _; (first | omega | (simp; omega) | simp)) | (with_reducible refine bel_set ?_ ?_ _; (first | omega | (simp; omega) | simp)) | (with_reducible refine bel_tr (by assumption) ?_ ?_; (first | omega | (simp; omega) | simp)))))))) e2).mono ?_; rintro y wG ⟨rfl, hbG⟩; have bcG := bcell hbG; obtain ⟨hcG, hfG⟩ := bcG; have ksG := hbG.size; (try simp at ksG); have kcG0 : ∀ o, wG.cell? ⟨w.heap.size, o, none⟩ = _ := (fun o => hbG.cell (p := ⟨w.heap.size, o, none⟩) (by (first | omega | (simp; omega) | simp))); have kfG0 : ∀ o, wG.frozen? ⟨w.heap.size, o, none⟩ = _ := (fun o => hbG.frozen (p := ⟨w.heap.size, o, none⟩) (by (first | omega | (simp; omega) | simp))); have kcG1 : ∀ o, wG.cell? ⟨w.heap.size + 1, o, none⟩ = _ := (fun o => hbG.cell (p := ⟨w.heap.size + 1, o, none⟩) (by (first | omega | (simp; omega) | simp))); have kfG1 : ∀ o, wG.frozen? ⟨w.heap.size + 1, o, none⟩ = _ := (fun o => hbG.frozen (p := ⟨w.heap.size + 1, o, none⟩) (by (first | omega | (simp; omega) | simp))); have kzG0 : w.heap.size < wG.heap.size := (by have hh := hbG.size; (try simp at hh); omega); have kzG1 : w.heap.size + 1 < wG.heap.size := (by have hh := hbG.size; (try simp at hh); omega))
      | (go_at_call 42; refine (iHeldIn_t P m pc cab ps x2 _ hm0 (HP.out.below (by (repeat (first | with_reducible exact Below.refl _ _ | with_reducible refine Below.drew ?_ | with_reducible refine below_drewN ?_ _ | (with_reducible refine bel_alloc ?_ ?_ _; (first | omega | (simp; omega) | simp)) | (with_reducible refine bel_set ?_ ?_ _; (first | omega | (simp; omega) | simp)) | (with_reducible refine bel_tr (by assumption) ?_ ?_; (first | omega | (simp; omega) | simp)))))) HD2.out).mono ?_; rintro y wH ⟨rfl, hbH⟩; have bcH := bcell hbH; obtain ⟨hcH, hfH⟩ := bcH; have ksH := hbH.size; (try simp at ksH); have kcH0 : ∀ o, wH.cell? ⟨w.heap.size, o, none⟩ = _ := (fun o => hbH.cell (p := ⟨w.heap.size, o, none⟩) (by (first | omega | (simp; omega) | simp))); have kfH0 : ∀ o, wH.frozen? ⟨w.heap.size, o, none⟩ = _ := (fun o => hbH.frozen (p := ⟨w.heap.size, o, none⟩) (by (first | omega | (simp; omega) | simp))); have kcH1 : ∀ o, wH.cell? ⟨w.heap.size + 1, o, none⟩ = _ := (fun o => hbH.cell (p := ⟨w.heap.size + 1, o, none⟩) (by (first | omega | (simp; omega) | simp))); have kfH1 : ∀ o, wH.frozen? ⟨w.heap.size + 1, o, none⟩ = _ := (fun o => hbH.frozen (p := ⟨w.heap.size + 1, o, none⟩) (by (first | omega | (simp; omega) | simp))); have kzH0 : w.heap.size < wH.heap.size := (by have hh := hbH.size; (try simp at hh); omega); have kzH1 : w.heap.size + 1 < wH.heap.size := (by have hh := hbH.size; (try simp at hh); omega))
      | (go_at_call 43; refine (iTiedIn_t P m pc cab ps td _ hm0 (HP.out.below (by (repeat (first | with_reducible exact Below.refl _ _ | with_reducible refine Below.drew ?_ | with_reducible refine below_drewN ?_ _ | (with_reducible refine bel_alloc ?_ ?_ _; (first | omega | (simp; omega) | simp)) | (with_reducible refine bel_set ?_ ?_ _; (first | omega | (simp; omega) | simp)) | (with_reducible refine bel_tr (by assumption) ?_ ?_; (first | omega | (simp; omega) | simp)))))) HT.out).mono ?_; rintro y wI ⟨rfl, hbI⟩; have bcI := bcell hbI; obtain ⟨hcI, hfI⟩ := bcI; have ksI := hbI.size; (try simp at ksI); have kcI0 : ∀ o, wI.cell? ⟨w.heap.size, o, none⟩ = _ := (fun o => hbI.cell (p := ⟨w.heap.size, o, none⟩) (by (first | omega | (simp; omega) | simp))); have kfI0 : ∀ o, wI.frozen? ⟨w.heap.size, o, none⟩ = _ := (fun o => hbI.frozen (p := ⟨w.heap.size, o, none⟩) (by (first | omega | (simp; omega) | simp))); have kcI1 : ∀ o, wI.cell? ⟨w.heap.size + 1, o, none⟩ = _ := (fun o => hbI.cell (p := ⟨w.heap.size + 1, o, none⟩) (by (first | omega | (simp; omega) | simp))); have kfI1 : ∀ o, wI.frozen? ⟨w.heap.size + 1, o, none⟩ = _ := (fun o => hbI.frozen (p := ⟨w.heap.size + 1, o, none⟩) (by (first | omega | (simp; omega) | simp))); have kzI0 : w.heap.size < wI.heap.size := (by have hh := hbI.size; (try simp at hh); omega); have kzI1 : w.heap.size + 1 < wI.heap.size := (by have hh := hbI.size; (try simp at hh); omega)))
    go_wp2
    go_ret
    exact .inr ⟨rfl, hR.out, by (repeat (first | with_reducible exact Below.refl _ _ | with_reducible refine Below.drew ?_ | with_reducible refine below_drewN ?_ _ | (with_reducible refine bel_alloc ?_ ?_ _; (first | omega | (simp; omega) | simp)) | (with_reducible refine bel_set ?_ ?_ _; (first | omega | (simp; omega) | simp)) | (with_reducible refine bel_tr (by assumption) ?_ ?_; (first | omega | (simp; omega) | simp))))⟩
  have HT2 := Lib.hid (HT.out.trans e4.symm)
  clear e4
  have hR : Hid (AGR x0 x1 x2 x3 x4 k qs N S (entL ok r now ps m) ps cab m) := Lib.hid ⟨e0, e1, e2, HD2.out.symm, HT2.out.symm⟩
  go_enter Tryz.func10, Tryz.ntmps10
  go_wp2
  go_region_held3 (fun w' => w'.cell? ⟨w.heap.size, 0, none⟩ = some (.slice A n c) ∧ w'.cell? ⟨w.heap.size, 1, none⟩ = some (.int .i64 (r 1)) ∧ w'.cell? ⟨w.heap.size, 2, none⟩ = some (.int .i64 (r 2)) ∧ w'.cell? ⟨w.heap.size, 3, none⟩ = some (.int .i64 (r 3)) ∧ w'.cell? ⟨w.heap.size, 4, none⟩ = some (.int .i64 (r 4)) ∧ w'.cell? ⟨w.heap.size, 5, none⟩ = some (.int .i64 (r 5)) ∧ w'.cell? ⟨w.heap.size, 6, none⟩ = some (.int .i64 (r 6)) ∧ w'.cell? ⟨w.heap.size, 7, none⟩ = some (.int .i64 (r 7)) ∧ w'.cell? ⟨w.heap.size, 8, none⟩ = some (.int .i64 (r 8)) ∧ w'.cell? ⟨w.heap.size + 1, 0, none⟩ = some (.int .i64 x0) ∧ w'.cell? ⟨w.heap.size + 1, 1, none⟩ = some (.int .i64 x1) ∧ w'.cell? ⟨w.heap.size + 1, 2, none⟩ = some (.int .i64 x2) ∧ w'.cell? ⟨w.heap.size + 1, 3, none⟩ = some (.int .i64 x3) ∧ w'.cell? ⟨w.heap.size + 1, 4, none⟩ = some (.int .i64 x4) ∧ w'.cell? ⟨w.heap.size + 1, 5, none⟩ = some (.slice AE k kc) ∧ w'.cell? ⟨w.heap.size + 1, 6, none⟩ = some (.slice WA N cw)) ((first | (go_keep; done) | (go_simp; done))) (first
    | (go_at_call 9; refine (ty (iCabinOk_any x0 x1 x2 x3 x4 AE k kc qs WA N cw S _ hk0 hkc hN hT (HE.out.below (by (repeat (first | with_reducible exact Below.refl _ _ | with_reducible refine Below.drew ?_ | with_reducible refine below_drewN ?_ _ | (with_reducible refine bel_alloc ?_ ?_ _; (first | omega | (simp; omega) | simp)) | (with_reducible refine bel_set ?_ ?_ _; (first | omega | (simp; omega) | simp)) | (with_reducible refine bel_tr (by assumption) ?_ ?_; (first | omega | (simp; omega) | simp)))))) (HW.out.below (by (repeat (first | with_reducible exact Below.refl _ _ | with_reducible refine Below.drew ?_ | with_reducible refine below_drewN ?_ _ | (with_reducible refine bel_alloc ?_ ?_ _; (first | omega | (simp; omega) | simp)) | (with_reducible refine bel_set ?_ ?_ _; (first | omega | (simp; omega) | simp)) | (with_reducible refine bel_tr (by assumption) ?_ ?_; (first | omega | (simp; omega) | simp))))))) e0).mono ?_; rintro y wA ⟨rfl, hbA⟩; have bcA := bcell hbA; obtain ⟨hcA, hfA⟩ := bcA; have ksA := hbA.size; (try simp at ksA); have kcA0 : ∀ o, wA.cell? ⟨w.heap.size, o, none⟩ = _ := (fun o => hbA.cell (p := ⟨w.heap.size, o, none⟩) (by (first | omega | (simp; omega) | simp))); have kfA0 : ∀ o, wA.frozen? ⟨w.heap.size, o, none⟩ = _ := (fun o => hbA.frozen (p := ⟨w.heap.size, o, none⟩) (by (first | omega | (simp; omega) | simp))); have kcA1 : ∀ o, wA.cell? ⟨w.heap.size + 1, o, none⟩ = _ := (fun o => hbA.cell (p := ⟨w.heap.size + 1, o, none⟩) (by (first | omega | (simp; omega) | simp))); have kfA1 : ∀ o, wA.frozen? ⟨w.heap.size + 1, o, none⟩ = _ := (fun o => hbA.frozen (p := ⟨w.heap.size + 1, o, none⟩) (by (first | omega | (simp; omega) | simp))); have kzA0 : w.heap.size < wA.heap.size := (by have hh := hbA.size; (try simp at hh); omega); have kzA1 : w.heap.size + 1 < wA.heap.size := (by have hh := hbA.size; (try simp at hh); omega))
    | (go_at_call 38; refine (iQueueOf_any A n c es r P m pc ps cab now ok _ hn hm (H.out.below (by (repeat (first | with_reducible exact Below.refl _ _ | with_reducible refine Below.drew ?_ | with_reducible refine below_drewN ?_ _ | (with_reducible refine bel_alloc ?_ ?_ _; (first | omega | (simp; omega) | simp)) | (with_reducible refine bel_set ?_ ?_ _; (first | omega | (simp; omega) | simp)) | (with_reducible refine bel_tr (by assumption) ?_ ?_; (first | omega | (simp; omega) | simp)))))) (HP.out.below (by (repeat (first | with_reducible exact Below.refl _ _ | with_reducible refine Below.drew ?_ | with_reducible refine below_drewN ?_ _ | (with_reducible refine bel_alloc ?_ ?_ _; (first | omega | (simp; omega) | simp)) | (with_reducible refine bel_set ?_ ?_ _; (first | omega | (simp; omega) | simp)) | (with_reducible refine bel_tr (by assumption) ?_ ?_; (first | omega | (simp; omega) | simp)))))) HK.out).mono ?_; rintro y wB ⟨AB, nB, cB, rfl, oB, _, hbB⟩; have bcB := bcell hbB; obtain ⟨hcB, hfB⟩ := bcB; have ksB := hbB.size; (try simp at ksB); have kcB0 : ∀ o, wB.cell? ⟨w.heap.size, o, none⟩ = _ := (fun o => hbB.cell (p := ⟨w.heap.size, o, none⟩) (by (first | omega | (simp; omega) | simp))); have kfB0 : ∀ o, wB.frozen? ⟨w.heap.size, o, none⟩ = _ := (fun o => hbB.frozen (p := ⟨w.heap.size, o, none⟩) (by (first | omega | (simp; omega) | simp))); have kcB1 : ∀ o, wB.cell? ⟨w.heap.size + 1, o, none⟩ = _ := (fun o => hbB.cell (p := ⟨w.heap.size + 1, o, none⟩) (by (first | omega | (simp; omega) | simp))); have kfB1 : ∀ o, wB.frozen? ⟨w.heap.size + 1, o, none⟩ = _ := (fun o => hbB.frozen (p := ⟨w.heap.size + 1, o, none⟩) (by (first | omega | (simp; omega) | simp))); have kzB0 : w.heap.size < wB.heap.size := (by have hh := hbB.size; (try simp at hh); omega); have kzB1 : w.heap.size + 1 < wB.heap.size := (by have hh := hbB.size; (try simp at hh); omega); have OB := Lib.hid oB; have LB : nB ≤ 4194304 := (by have h1 := OB.out.1; have h2 := entL_len ok r now ps m; rw [sortR_len] at h1; omega); clear oB)
    | (go_at_call 37; refine (ty (equalRow_any AE AB k kc nB cB _ _ _ hk LB (HE.out.below (by (repeat (first | with_reducible exact Below.refl _ _ | with_reducible refine Below.drew ?_ | with_reducible refine below_drewN ?_ _ | (with_reducible refine bel_alloc ?_ ?_ _; (first | omega | (simp; omega) | simp)) | (with_reducible refine bel_set ?_ ?_ _; (first | omega | (simp; omega) | simp)) | (with_reducible refine bel_tr (by assumption) ?_ ?_; (first | omega | (simp; omega) | simp)))))) (by first | exact OB.out.rd | exact (OB.out.rd.below (by (repeat (first | with_reducible exact Below.refl _ _ | with_reducible refine Below.drew ?_ | with_reducible refine below_drewN ?_ _ | (with_reducible refine bel_alloc ?_ ?_ _; (first | omega | (simp; omega) | simp)) | (with_reducible refine bel_set ?_ ?_ _; (first | omega | (simp; omega) | simp)) | (with_reducible refine bel_tr (by assumption) ?_ ?_; (first | omega | (simp; omega) | simp)))))))) e1).mono ?_; rintro y wC ⟨rfl, hbC⟩; have bcC := bcell hbC; obtain ⟨hcC, hfC⟩ := bcC; have ksC := hbC.size; (try simp at ksC); have kcC0 : ∀ o, wC.cell? ⟨w.heap.size, o, none⟩ = _ := (fun o => hbC.cell (p := ⟨w.heap.size, o, none⟩) (by (first | omega | (simp; omega) | simp))); have kfC0 : ∀ o, wC.frozen? ⟨w.heap.size, o, none⟩ = _ := (fun o => hbC.frozen (p := ⟨w.heap.size, o, none⟩) (by (first | omega | (simp; omega) | simp))); have kcC1 : ∀ o, wC.cell? ⟨w.heap.size + 1, o, none⟩ = _ := (fun o => hbC.cell (p := ⟨w.heap.size + 1, o, none⟩) (by (first | omega | (simp; omega) | simp))); have kfC1 : ∀ o, wC.frozen? ⟨w.heap.size + 1, o, none⟩ = _ := (fun o => hbC.frozen (p := ⟨w.heap.size + 1, o, none⟩) (by (first | omega | (simp; omega) | simp))); have kzC0 : w.heap.size < wC.heap.size := (by have hh := hbC.size; (try simp at hh); omega); have kzC1 : w.heap.size + 1 < wC.heap.size := (by have hh := hbC.size; (try simp at hh); omega))
    | (go_at_call 40; refine (iPinsOf_any WA N cw S _ hN hT (HW.out.below (by (repeat (first | with_reducible exact Below.refl _ _ | with_reducible refine Below.drew ?_ | with_reducible refine below_drewN ?_ _ | (with_reducible refine bel_alloc ?_ ?_ _; (first | omega | (simp; omega) | simp)) | (with_reducible refine bel_set ?_ ?_ _; (first | omega | (simp; omega) | simp)) | (with_reducible refine bel_tr (by assumption) ?_ ?_; (first | omega | (simp; omega) | simp))))))).mono ?_; rintro y wD ⟨AD, nD, cD, rfl, oD, _, hbD⟩; have bcD := bcell hbD; obtain ⟨hcD, hfD⟩ := bcD; have ksD := hbD.size; (try simp at ksD); have kcD0 : ∀ o, wD.cell? ⟨w.heap.size, o, none⟩ = _ := (fun o => hbD.cell (p := ⟨w.heap.size, o, none⟩) (by (first | omega | (simp; omega) | simp))); have kfD0 : ∀ o, wD.frozen? ⟨w.heap.size, o, none⟩ = _ := (fun o => hbD.frozen (p := ⟨w.heap.size, o, none⟩) (by (first | omega | (simp; omega) | simp))); have kcD1 : ∀ o, wD.cell? ⟨w.heap.size + 1, o, none⟩ = _ := (fun o => hbD.cell (p := ⟨w.heap.size + 1, o, none⟩) (by (first | omega | (simp; omega) | simp))); have kfD1 : ∀ o, wD.frozen? ⟨w.heap.size + 1, o, none⟩ = _ := (fun o => hbD.frozen (p := ⟨w.heap.size + 1, o, none⟩) (by (first | omega | (simp; omega) | simp))); have kzD0 : w.heap.size < wD.heap.size := (by have hh := hbD.size; (try simp at hh); omega); have kzD1 : w.heap.size + 1 < wD.heap.size := (by have hh := hbD.size; (try simp at hh); omega); have OD := Lib.hid oD; have LD : nD ≤ 4194304 := (by have h1 := OD.out.1; have h2 := pinsL_len (N := N) (S := S); omega); clear oD)
    | (go_at_call 41; refine (iPinsIn_n P m pc cab ps _ hm (HP.out.below (by (repeat (first | with_reducible exact Below.refl _ _ | with_reducible refine Below.drew ?_ | with_reducible refine below_drewN ?_ _ | (with_reducible refine bel_alloc ?_ ?_ _; (first | omega | (simp; omega) | simp)) | (with_reducible refine bel_set ?_ ?_ _; (first | omega | (simp; omega) | simp)) | (with_reducible refine bel_tr (by assumption) ?_ ?_; (first | omega | (simp; omega) | simp))))))).mono ?_; rintro y wE ⟨AF, nF, cF, rfl, oF, _, hbE⟩; have bcE := bcell hbE; obtain ⟨hcE, hfE⟩ := bcE; have ksE := hbE.size; (try simp at ksE); have kcE0 : ∀ o, wE.cell? ⟨w.heap.size, o, none⟩ = _ := (fun o => hbE.cell (p := ⟨w.heap.size, o, none⟩) (by (first | omega | (simp; omega) | simp))); have kfE0 : ∀ o, wE.frozen? ⟨w.heap.size, o, none⟩ = _ := (fun o => hbE.frozen (p := ⟨w.heap.size, o, none⟩) (by (first | omega | (simp; omega) | simp))); have kcE1 : ∀ o, wE.cell? ⟨w.heap.size + 1, o, none⟩ = _ := (fun o => hbE.cell (p := ⟨w.heap.size + 1, o, none⟩) (by (first | omega | (simp; omega) | simp))); have kfE1 : ∀ o, wE.frozen? ⟨w.heap.size + 1, o, none⟩ = _ := (fun o => hbE.frozen (p := ⟨w.heap.size + 1, o, none⟩) (by (first | omega | (simp; omega) | simp))); have kzE0 : w.heap.size < wE.heap.size := (by have hh := hbE.size; (try simp at hh); omega); have kzE1 : w.heap.size + 1 < wE.heap.size := (by have hh := hbE.size; (try simp at hh); omega); have OF := Lib.hid oF; have LF : nF ≤ 4194304 := (by have h1 := OF.out.1; have h2 := pinF_len ps cab m; rw [sortL_len] at h1; omega); clear oF)
    | (go_at_call 39; refine (ty (equalPins_any AD AF nD cD nF cF _ _ _ LD LF (by first | exact OD.out.rd | exact (OD.out.rd.below (by (repeat (first | with_reducible exact Below.refl _ _ | with_reducible refine Below.drew ?_ | with_reducible refine below_drewN ?_ _ | (with_reducible refine bel_alloc ?_ ?_ _; (first | omega | (simp; omega) | simp)) | (with_reducible refine bel_set ?_ ?_ _; (first | omega | (simp; omega) | simp)) | (with_reducible refine bel_tr (by assumption) ?_ ?_; (first | omega | (simp; omega) | simp))))))) (by first | exact OF.out.rd | exact (OF.out.rd.below (by (repeat (first | with_reducible exact Below.refl _ _ | with_reducible refine Below.drew ?_ | with_reducible refine below_drewN ?_ _ | (with_reducible refine bel_alloc ?_ ?_ _; (first | omega | (simp; omega) | simp)) | (with_reducible refine bel_set ?_ ?_ _; (first | omega | (simp; omega) | simp)) | (with_reducible refine bel_tr (by assumption) ?_ ?_; (first | omega | (simp; omega) | simp)))))))) e2).mono ?_; rintro y wG ⟨rfl, hbG⟩; have bcG := bcell hbG; obtain ⟨hcG, hfG⟩ := bcG; have ksG := hbG.size; (try simp at ksG); have kcG0 : ∀ o, wG.cell? ⟨w.heap.size, o, none⟩ = _ := (fun o => hbG.cell (p := ⟨w.heap.size, o, none⟩) (by (first | omega | (simp; omega) | simp))); have kfG0 : ∀ o, wG.frozen? ⟨w.heap.size, o, none⟩ = _ := (fun o => hbG.frozen (p := ⟨w.heap.size, o, none⟩) (by (first | omega | (simp; omega) | simp))); have kcG1 : ∀ o, wG.cell? ⟨w.heap.size + 1, o, none⟩ = _ := (fun o => hbG.cell (p := ⟨w.heap.size + 1, o, none⟩) (by (first | omega | (simp; omega) | simp))); have kfG1 : ∀ o, wG.frozen? ⟨w.heap.size + 1, o, none⟩ = _ := (fun o => hbG.frozen (p := ⟨w.heap.size + 1, o, none⟩) (by (first | omega | (simp; omega) | simp))); have kzG0 : w.heap.size < wG.heap.size := (by have hh := hbG.size; (try simp at hh); omega); have kzG1 : w.heap.size + 1 < wG.heap.size := (by have hh := hbG.size; (try simp at hh); omega))
    | (go_at_call 42; refine (iHeldIn_t P m pc cab ps x2 _ hm0 (HP.out.below (by (repeat (first | with_reducible exact Below.refl _ _ | with_reducible refine Below.drew ?_ | with_reducible refine below_drewN ?_ _ | (with_reducible refine bel_alloc ?_ ?_ _; (first | omega | (simp; omega) | simp)) | (with_reducible refine bel_set ?_ ?_ _; (first | omega | (simp; omega) | simp)) | (with_reducible refine bel_tr (by assumption) ?_ ?_; (first | omega | (simp; omega) | simp)))))) HD2.out).mono ?_; rintro y wH ⟨rfl, hbH⟩; have bcH := bcell hbH; obtain ⟨hcH, hfH⟩ := bcH; have ksH := hbH.size; (try simp at ksH); have kcH0 : ∀ o, wH.cell? ⟨w.heap.size, o, none⟩ = _ := (fun o => hbH.cell (p := ⟨w.heap.size, o, none⟩) (by (first | omega | (simp; omega) | simp))); have kfH0 : ∀ o, wH.frozen? ⟨w.heap.size, o, none⟩ = _ := (fun o => hbH.frozen (p := ⟨w.heap.size, o, none⟩) (by (first | omega | (simp; omega) | simp))); have kcH1 : ∀ o, wH.cell? ⟨w.heap.size + 1, o, none⟩ = _ := (fun o => hbH.cell (p := ⟨w.heap.size + 1, o, none⟩) (by (first | omega | (simp; omega) | simp))); have kfH1 : ∀ o, wH.frozen? ⟨w.heap.size + 1, o, none⟩ = _ := (fun o => hbH.frozen (p := ⟨w.heap.size + 1, o, none⟩) (by (first | omega | (simp; omega) | simp))); have kzH0 : w.heap.size < wH.heap.size := (by have hh := hbH.size; (try simp at hh); omega); have kzH1 : w.heap.size + 1 < wH.heap.size := (by have hh := hbH.size; (try simp at hh); omega))
    | (go_at_call 43; refine (iTiedIn_t P m pc cab ps x4 _ hm0 (HP.out.below (by (repeat (first | with_reducible exact Below.refl _ _ | with_reducible refine Below.drew ?_ | with_reducible refine below_drewN ?_ _ | (with_reducible refine bel_alloc ?_ ?_ _; (first | omega | (simp; omega) | simp)) | (with_reducible refine bel_set ?_ ?_ _; (first | omega | (simp; omega) | simp)) | (with_reducible refine bel_tr (by assumption) ?_ ?_; (first | omega | (simp; omega) | simp)))))) HT2.out).mono ?_; rintro y wI ⟨rfl, hbI⟩; have bcI := bcell hbI; obtain ⟨hcI, hfI⟩ := bcI; have ksI := hbI.size; (try simp at ksI); have kcI0 : ∀ o, wI.cell? ⟨w.heap.size, o, none⟩ = _ := (fun o => hbI.cell (p := ⟨w.heap.size, o, none⟩) (by (first | omega | (simp; omega) | simp))); have kfI0 : ∀ o, wI.frozen? ⟨w.heap.size, o, none⟩ = _ := (fun o => hbI.frozen (p := ⟨w.heap.size, o, none⟩) (by (first | omega | (simp; omega) | simp))); have kcI1 : ∀ o, wI.cell? ⟨w.heap.size + 1, o, none⟩ = _ := (fun o => hbI.cell (p := ⟨w.heap.size + 1, o, none⟩) (by (first | omega | (simp; omega) | simp))); have kfI1 : ∀ o, wI.frozen? ⟨w.heap.size + 1, o, none⟩ = _ := (fun o => hbI.frozen (p := ⟨w.heap.size + 1, o, none⟩) (by (first | omega | (simp; omega) | simp))); have kzI0 : w.heap.size < wI.heap.size := (by have hh := hbI.size; (try simp at hh); omega); have kzI1 : w.heap.size + 1 < wI.heap.size := (by have hh := hbI.size; (try simp at hh); omega)))
  go_wp2
  go_ret
  exact .inl ⟨rfl, hR.out, by (repeat (first | with_reducible exact Below.refl _ _ | with_reducible refine Below.drew ?_ | with_reducible refine below_drewN ?_ _ | (with_reducible refine bel_alloc ?_ ?_ _; (first | omega | (simp; omega) | simp)) | (with_reducible refine bel_set ?_ ?_ _; (first | omega | (simp; omega) | simp)) | (with_reducible refine bel_tr (by assumption) ?_ ?_; (first | omega | (simp; omega) | simp))))⟩
end Go.Proofs.YtjlmcppkafjniaaGreat
