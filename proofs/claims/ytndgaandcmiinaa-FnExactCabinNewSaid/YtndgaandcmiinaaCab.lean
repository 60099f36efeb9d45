/-
  Contracts of the functions that make, compare, mark and check a cabin that has no entries. No conditions beyond those stated.
-/
import Derived.Test.YtndgaandcmiinaaWo
import Derived.Test.YtndgaandcmiinaaLawsB
import Derived.Test.YtndgaandcmiinaaEs
namespace Go.Proofs.Ytndgaandcmiinaa
open Go.RowKit

def CabV (t x : Int) (N : Nat) (b : Bool) : Prop := (LOk t 0 0 t 0 ∧ x = t ∧ N = 9 ∧ b = true) ∨ (¬ LOk t 0 0 t 0 ∧ x = 0 ∧ N = 0 ∧ b = false)
theorem set_lo {lo hi N : Nat} {w : World} {A : Option Addr} {S : Nat → Sp} {p : Addr} {v : Value} (hp : p.block < lo) (h : OwnW lo hi w A N S) : OwnW lo hi (w.setCell p v) A N S := h.set_ (.inl hp) v
theorem cabV_ex (t : Int) : ∃ x N b, CabV t x N b := by
  by_cases h : LOk t 0 0 t 0
  · exact ⟨t, 9, true, .inl ⟨h, rfl, rfl, rfl⟩⟩
  · exact ⟨0, 0, false, .inr ⟨h, rfl, rfl, rfl⟩⟩

set_option maxRecDepth 100000 in
set_option maxHeartbeats 4000000 in
theorem iCabinNew_any (t x : Int) (N : Nat) (b : Bool) (w : World) (hC : CabV t x N b) :
    Calls Try.prog 47 #[.int .i64 t] w fun y w' => ∃ A c S, y = .returned (.tuple #[.agg #[.int .i64 x, .int .i64 0, .int .i64 0, .int .i64 x, .int .i64 0, .slice none 0 0, .slice A N c], .bool b]) ∧ OwnW w.heap.size w'.heap.size w' A N S ∧ (∀ i, i < N → (S i).n = 0 ∧ (S i).es = []) ∧ Below w.heap.size w w' := by
  rcases hC with ⟨h, rfl, rfl, rfl⟩ | ⟨h, rfl, rfl, rfl⟩
  · go_enter Try.func47, Try.ntmps47
    go_wp2_with fail
    refine (impl_New_y _ _ h).mono ?_
    rintro y w1 ⟨rfl, hb1⟩
    have bc1 := bcell hb1; obtain ⟨hc1, hf1⟩ := bc1; have ks1 := hb1.size; (try simp at ks1); have kc10 : ∀ o, w1.cell? ⟨w.heap.size, o, none⟩ = _ := (fun o => hb1.cell (p := ⟨w.heap.size, o, none⟩) (by (first | omega | (simp; omega) | simp))); have kf10 : ∀ o, w1.frozen? ⟨w.heap.size, o, none⟩ = _ := (fun o => hb1.frozen (p := ⟨w.heap.size, o, none⟩) (by (first | omega | (simp; omega) | simp))); have kz10 : w.heap.size < w1.heap.size := (by have hh := hb1.size; (try simp at hh); omega)
    go_wp2
    go_region_held3 (fun w' => w'.cell? ⟨w1.heap.size, 0, none⟩ = some (.int .i64 x) ∧ w'.cell? ⟨w1.heap.size, 1, none⟩ = some (.int .i64 0) ∧ w'.cell? ⟨w1.heap.size, 2, none⟩ = some (.int .i64 0) ∧ w'.cell? ⟨w1.heap.size, 3, none⟩ = some (.int .i64 x) ∧ w'.cell? ⟨w1.heap.size, 4, none⟩ = some (.int .i64 0)) ((first | (go_keep; done) | (go_simp; done))) (
      (go_at_call 16; refine (iWheelNew_any _).mono ?_; rintro y w2 ⟨A2, c2, S2, rfl, g2, e2, hb2⟩; have G2 := Lib.hid g2; have E2 := Lib.hid e2; clear g2 e2; have bc2 := bcell hb2; obtain ⟨hc2, hf2⟩ := bc2; have ks2 := hb2.size; (try simp at ks2); have kc20 : ∀ o, w2.cell? ⟨w.heap.size, o, none⟩ = _ := (fun o => hb2.cell (p := ⟨w.heap.size, o, none⟩) (by (first | omega | (simp; omega) | simp))); have kf20 : ∀ o, w2.frozen? ⟨w.heap.size, o, none⟩ = _ := (fun o => hb2.frozen (p := ⟨w.heap.size, o, none⟩) (by (first | omega | (simp; omega) | simp))); have kz20 : w.heap.size < w2.heap.size := (by have hh := hb2.size; (try simp at hh); omega); (try (have jzw12 : w1.heap.size < w2.heap.size := (by have hh := hb2.size; (try simp at hh); omega); have jcw12 : ∀ o, w2.cell? ⟨w1.heap.size, o, none⟩ = _ := (fun o => hb2.cell (p := ⟨w1.heap.size, o, none⟩) (by (first | omega | (simp; omega) | simp))); have jfw12 : ∀ o, w2.frozen? ⟨w1.heap.size, o, none⟩ = _ := (fun o => hb2.frozen (p := ⟨w1.heap.size, o, none⟩) (by (first | omega | (simp; omega) | simp)))))))
    go_wp2
    refine bodyPost_ret (v := .tuple #[.agg #[.int .i64 x, .int .i64 0, .int .i64 0, .int .i64 x, .int .i64 0, .slice none 0 0, .slice A2 9 c2], .bool true]) (by simp only [results, Try.results47]; first | (go_simp; done) | (go_simp; omega)) rfl ⟨A2, c2, S2, rfl, ?_, E2.out, ?_⟩
    · refine OwnW.wide (lo := w1.heap.size + 1) (hi := w2.heap.size) ?_ (by (first | omega | (simp; omega) | simp)) (by (first | omega | (simp; omega) | simp)) (by (first | omega | (simp; omega) | simp))
      have h0 : OwnW (w1.heap.size + 1) w2.heap.size w2 A2 9 S2 := G2.out.own1.1.wide (by (first | omega | (simp; omega) | simp)) (Nat.le_refl _) (Nat.le_refl _)
      repeat (first | with_reducible exact h0 | (with_reducible refine set_lo ?_ ?_; ((first | omega | (simp; omega) | simp))))
    · (repeat (first | with_reducible exact Below.refl _ _ | with_reducible refine Below.drew ?_ | with_reducible refine below_drewN ?_ _ | (with_reducible refine bel_alloc ?_ ?_ _; (first | omega | (simp; omega) | simp)) | (with_reducible refine bel_set ?_ ?_ _; (first | omega | (simp; omega) | simp)) | (with_reducible refine bel_tr (by assumption) ?_ ?_; (first | omega | (simp; omega) | simp))))
  · go_enter Try.func47, Try.ntmps47
    go_wp2_with fail
    refine (impl_New_n _ _ h).mono ?_
    rintro y w1 ⟨rfl, hb1⟩
    have bc1 := bcell hb1; obtain ⟨hc1, hf1⟩ := bc1; have ks1 := hb1.size; (try simp at ks1); have kc10 : ∀ o, w1.cell? ⟨w.heap.size, o, none⟩ = _ := (fun o => hb1.cell (p := ⟨w.heap.size, o, none⟩) (by (first | omega | (simp; omega) | simp))); have kf10 : ∀ o, w1.frozen? ⟨w.heap.size, o, none⟩ = _ := (fun o => hb1.frozen (p := ⟨w.heap.size, o, none⟩) (by (first | omega | (simp; omega) | simp))); have kz10 : w.heap.size < w1.heap.size := (by have hh := hb1.size; (try simp at hh); omega)
    go_wp2
    refine bodyPost_ret (v := .tuple #[.agg #[.int .i64 0, .int .i64 0, .int .i64 0, .int .i64 0, .int .i64 0, .slice none 0 0, .slice none 0 0], .bool false]) (by simp only [results, Try.results47]; first | (go_simp; done) | (go_simp; omega)) rfl ⟨none, 0, (fun _ => (⟨none, 0, 0, []⟩ : Sp)), rfl, ownW_zero _ _ _ _ (Nat.le_refl _), fun i hi => absurd hi (by omega), ?_⟩
    (repeat (first | with_reducible exact Below.refl _ _ | with_reducible refine Below.drew ?_ | with_reducible refine below_drewN ?_ _ | (with_reducible refine bel_alloc ?_ ?_ _; (first | omega | (simp; omega) | simp)) | (with_reducible refine bel_set ?_ ?_ _; (first | omega | (simp; omega) | simp)) | (with_reducible refine bel_tr (by assumption) ?_ ?_; (first | omega | (simp; omega) | simp))))

set_option maxRecDepth 100000 in
set_option maxHeartbeats 4000000 in
theorem sCabinNew_any (t x : Int) (N : Nat) (b : Bool) (w : World) (hC : CabV t x N b) :
    Calls Try.prog 46 #[.int .i64 t] w fun y w' => ∃ A c S, y = .returned (.tuple #[.agg #[.int .i64 x, .int .i64 0, .int .i64 0, .int .i64 x, .int .i64 0, .slice none 0 0, .slice A N c], .bool b]) ∧ OwnW w.heap.size w'.heap.size w' A N S ∧ (∀ i, i < N → (S i).n = 0 ∧ (S i).es = []) ∧ Below w.heap.size w w' := by
  rcases hC with ⟨h, rfl, rfl, rfl⟩ | ⟨h, rfl, rfl, rfl⟩
  · go_enter Try.func46, Try.ntmps46
    go_wp2_with fail
    refine (spec_New_y _ _ h).mono ?_
    rintro y w1 ⟨rfl, hb1⟩
    have bc1 := bcell hb1; obtain ⟨hc1, hf1⟩ := bc1; have ks1 := hb1.size; (try simp at ks1); have kc10 : ∀ o, w1.cell? ⟨w.heap.size, o, none⟩ = _ := (fun o => hb1.cell (p := ⟨w.heap.size, o, none⟩) (by (first | omega | (simp; omega) | simp))); have kf10 : ∀ o, w1.frozen? ⟨w.heap.size, o, none⟩ = _ := (fun o => hb1.frozen (p := ⟨w.heap.size, o, none⟩) (by (first | omega | (simp; omega) | simp))); have kz10 : w.heap.size < w1.heap.size := (by have hh := hb1.size; (try simp at hh); omega)
    go_wp2
    go_region_held3 (fun w' => w'.cell? ⟨w1.heap.size, 0, none⟩ = some (.int .i64 x) ∧ w'.cell? ⟨w1.heap.size, 1, none⟩ = some (.int .i64 0) ∧ w'.cell? ⟨w1.heap.size, 2, none⟩ = some (.int .i64 0) ∧ w'.cell? ⟨w1.heap.size, 3, none⟩ = some (.int .i64 x) ∧ w'.cell? ⟨w1.heap.size, 4, none⟩ = some (.int .i64 0)) ((first | (go_keep; done) | (go_simp; done))) (
      (go_at_call 15; refine (sWheelNew_any _).mono ?_; rintro y w2 ⟨A2, c2, S2, rfl, g2, e2, hb2⟩; have G2 := Lib.hid g2; have E2 := Lib.hid e2; clear g2 e2; have bc2 := bcell hb2; obtain ⟨hc2, hf2⟩ := bc2; have ks2 := hb2.size; (try simp at ks2); have kc20 : ∀ o, w2.cell? ⟨w.heap.size, o, none⟩ = _ := (fun o => hb2.cell (p := ⟨w.heap.size, o, none⟩) (by (first | omega | (simp; omega) | simp))); have kf20 : ∀ o, w2.frozen? ⟨w.heap.size, o, none⟩ = _ := (fun o => hb2.frozen (p := ⟨w.heap.size, o, none⟩) (by (first | omega | (simp; omega) | simp))); have kz20 : w.heap.size < w2.heap.size := (by have hh := hb2.size; (try simp at hh); omega); (try (have jzw12 : w1.heap.size < w2.heap.size := (by have hh := hb2.size; (try simp at hh); omega); have jcw12 : ∀ o, w2.cell? ⟨w1.heap.size, o, none⟩ = _ := (fun o => hb2.cell (p := ⟨w1.heap.size, o, none⟩) (by (first | omega | (simp; omega) | simp))); have jfw12 : ∀ o, w2.frozen? ⟨w1.heap.size, o, none⟩ = _ := (fun o => hb2.frozen (p := ⟨w1.heap.size, o, none⟩) (by (first | omega | (simp; omega) | simp)))))))
    go_wp2
    refine bodyPost_ret (v := .tuple #[.agg #[.int .i64 x, .int .i64 0, .int .i64 0, .int .i64 x, .int .i64 0, .slice none 0 0, .slice A2 9 c2], .bool true]) (by simp only [results, Try.results46]; first | (go_simp; done) | (go_simp; omega)) rfl ⟨A2, c2, S2, rfl, ?_, E2.out, ?_⟩
    · refine OwnW.wide (lo := w1.heap.size + 1) (hi := w2.heap.size) ?_ (by (first | omega | (simp; omega) | simp)) (by (first | omega | (simp; omega) | simp)) (by (first | omega | (simp; omega) | simp))
      have h0 : OwnW (w1.heap.size + 1) w2.heap.size w2 A2 9 S2 := G2.out.own1.1.wide (by (first | omega | (simp; omega) | simp)) (Nat.le_refl _) (Nat.le_refl _)
      repeat (first | with_reducible exact h0 | (with_reducible refine set_lo ?_ ?_; ((first | omega | (simp; omega) | simp))))
    · (repeat (first | with_reducible exact Below.refl _ _ | with_reducible refine Below.drew ?_ | with_reducible refine below_drewN ?_ _ | (with_reducible refine bel_alloc ?_ ?_ _; (first | omega | (simp; omega) | simp)) | (with_reducible refine bel_set ?_ ?_ _; (first | omega | (simp; omega) | simp)) | (with_reducible refine bel_tr (by assumption) ?_ ?_; (first | omega | (simp; omega) | simp))))
  · go_enter Try.func46, Try.ntmps46
    go_wp2_with fail
    refine (spec_New_n _ _ h).mono ?_
    rintro y w1 ⟨rfl, hb1⟩
    have bc1 := bcell hb1; obtain ⟨hc1, hf1⟩ := bc1; have ks1 := hb1.size; (try simp at ks1); have kc10 : ∀ o, w1.cell? ⟨w.heap.size, o, none⟩ = _ := (fun o => hb1.cell (p := ⟨w.heap.size, o, none⟩) (by (first | omega | (simp; omega) | simp))); have kf10 : ∀ o, w1.frozen? ⟨w.heap.size, o, none⟩ = _ := (fun o => hb1.frozen (p := ⟨w.heap.size, o, none⟩) (by (first | omega | (simp; omega) | simp))); have kz10 : w.heap.size < w1.heap.size := (by have hh := hb1.size; (try simp at hh); omega)
    go_wp2
    refine bodyPost_ret (v := .tuple #[.agg #[.int .i64 0, .int .i64 0, .int .i64 0, .int .i64 0, .int .i64 0, .slice none 0 0, .slice none 0 0], .bool false]) (by simp only [results, Try.results46]; first | (go_simp; done) | (go_simp; omega)) rfl ⟨none, 0, (fun _ => (⟨none, 0, 0, []⟩ : Sp)), rfl, ownW_zero _ _ _ _ (Nat.le_refl _), fun i hi => absurd hi (by omega), ?_⟩
    (repeat (first | with_reducible exact Below.refl _ _ | with_reducible refine Below.drew ?_ | with_reducible refine below_drewN ?_ _ | (with_reducible refine bel_alloc ?_ ?_ _; (first | omega | (simp; omega) | simp)) | (with_reducible refine bel_set ?_ ?_ _; (first | omega | (simp; omega) | simp)) | (with_reducible refine bel_tr (by assumption) ?_ ?_; (first | omega | (simp; omega) | simp))))

set_option maxHeartbeats 2000000 in
theorem eqCabin_same (x : Int) (A A2 : Option Addr) (N c c2 : Nat) (S S2 : Nat → Sp) (w : World) (hN : N ≤ 4194304) (hT : tot S N ≤ 4194304) (h : RdW w A N S) (h2 : RdW w A2 N S2) (hs : Sam N S S2) :
    Calls Try.prog 48 #[.agg #[.int .i64 x, .int .i64 0, .int .i64 0, .int .i64 x, .int .i64 0, .slice none 0 0, .slice A N c], .agg #[.int .i64 x, .int .i64 0, .int .i64 0, .int .i64 x, .int .i64 0, .slice none 0 0, .slice A2 N c2]] w fun y w' => y = .returned (.bool true) ∧ Below w.heap.size w w' := by
  have H := Lib.hid h
  have H2 := Lib.hid h2
  clear h h2
  go_enter Try.func48, Try.ntmps48
  go_wp2_with fail
  refine (eqLedger_any _ _ _ _ _ _).mono ?_
  rintro y w1 ⟨rfl, hb1⟩
  have bc1 := bcell hb1; obtain ⟨hc1, hf1⟩ := bc1; have ks1 := hb1.size; (try simp at ks1); have kc10 : ∀ o, w1.cell? ⟨w.heap.size, o, none⟩ = _ := (fun o => hb1.cell (p := ⟨w.heap.size, o, none⟩) (by (first | omega | (simp; omega) | simp))); have kf10 : ∀ o, w1.frozen? ⟨w.heap.size, o, none⟩ = _ := (fun o => hb1.frozen (p := ⟨w.heap.size, o, none⟩) (by (first | omega | (simp; omega) | simp))); have kc11 : ∀ o, w1.cell? ⟨w.heap.size + 1, o, none⟩ = _ := (fun o => hb1.cell (p := ⟨w.heap.size + 1, o, none⟩) (by (first | omega | (simp; omega) | simp))); have kf11 : ∀ o, w1.frozen? ⟨w.heap.size + 1, o, none⟩ = _ := (fun o => hb1.frozen (p := ⟨w.heap.size + 1, o, none⟩) (by (first | omega | (simp; omega) | simp))); have kz10 : w.heap.size < w1.heap.size := (by have hh := hb1.size; (try simp at hh); omega); have kz11 : w.heap.size + 1 < w1.heap.size := (by have hh := hb1.size; (try simp at hh); omega)
  go_wp2_with fail
  refine (eqEntryS_same none none 0 0 0 [] _ (by omega) ⟨rfl, .inl rfl⟩ ⟨rfl, .inl rfl⟩).mono ?_
  rintro y w2 ⟨rfl, hb2⟩
  have bc2 := bcell hb2; obtain ⟨hc2, hf2⟩ := bc2; have ks2 := hb2.size; (try simp at ks2); have kc20 : ∀ o, w2.cell? ⟨w.heap.size, o, none⟩ = _ := (fun o => hb2.cell (p := ⟨w.heap.size, o, none⟩) (by (first | omega | (simp; omega) | simp))); have kf20 : ∀ o, w2.frozen? ⟨w.heap.size, o, none⟩ = _ := (fun o => hb2.frozen (p := ⟨w.heap.size, o, none⟩) (by (first | omega | (simp; omega) | simp))); have kc21 : ∀ o, w2.cell? ⟨w.heap.size + 1, o, none⟩ = _ := (fun o => hb2.cell (p := ⟨w.heap.size + 1, o, none⟩) (by (first | omega | (simp; omega) | simp))); have kf21 : ∀ o, w2.frozen? ⟨w.heap.size + 1, o, none⟩ = _ := (fun o => hb2.frozen (p := ⟨w.heap.size + 1, o, none⟩) (by (first | omega | (simp; omega) | simp))); have kz20 : w.heap.size < w2.heap.size := (by have hh := hb2.size; (try simp at hh); omega); have kz21 : w.heap.size + 1 < w2.heap.size := (by have hh := hb2.size; (try simp at hh); omega)
  go_wp2_with fail
  refine (eqWheel_same A A2 N c c2 S S2 _ hN hT (H.out.below (by (repeat (first | with_reducible exact Below.refl _ _ | with_reducible refine Below.drew ?_ | with_reducible refine below_drewN ?_ _ | (with_reducible refine bel_alloc ?_ ?_ _; (first | omega | (simp; omega) | simp)) | (with_reducible refine bel_set ?_ ?_ _; (first | omega | (simp; omega) | simp)) | (with_reducible refine bel_tr (by assumption) ?_ ?_; (first | omega | (simp; omega) | simp)))))) (H2.out.below (by (repeat (first | with_reducible exact Below.refl _ _ | with_reducible refine Below.drew ?_ | with_reducible refine below_drewN ?_ _ | (with_reducible refine bel_alloc ?_ ?_ _; (first | omega | (simp; omega) | simp)) | (with_reducible refine bel_set ?_ ?_ _; (first | omega | (simp; omega) | simp)) | (with_reducible refine bel_tr (by assumption) ?_ ?_; (first | omega | (simp; omega) | simp)))))) hs).mono ?_
  rintro y w3 ⟨rfl, hb3⟩
  go_wp2
  go_ret
  exact ⟨rfl, by (repeat (first | with_reducible exact Below.refl _ _ | with_reducible refine Below.drew ?_ | with_reducible refine below_drewN ?_ _ | (with_reducible refine bel_alloc ?_ ?_ _; (first | omega | (simp; omega) | simp)) | (with_reducible refine bel_set ?_ ?_ _; (first | omega | (simp; omega) | simp)) | (with_reducible refine bel_tr (by assumption) ?_ ?_; (first | omega | (simp; omega) | simp))))⟩

set_option maxHeartbeats 2000000 in
theorem markCabin_any (x : Int) (lo hi : Nat) (A : Option Addr) (N c : Nat) (S : Nat → Sp) (w : World) (hN : N ≤ 4194304) (hT : tot S N ≤ 4194304) (h : OwnW lo hi w A N S) :
    Calls Try.prog 49 #[.agg #[.int .i64 x, .int .i64 0, .int .i64 0, .int .i64 x, .int .i64 0, .slice none 0 0, .slice A N c], .int .i64 1] w fun y w' => y = .returned (.int .i64 ((1 + 2 * tot S N : Nat) : Int)) ∧ OwnW lo hi w' A N (markS S 1) ∧ Mk lo hi w w' := by
  have H := Lib.hid h
  clear h
  go_enter Try.func49, Try.ntmps49
  go_wp2_with fail
  refine (markEntryS_any w.heap.size none 0 0 1 [] _ (by omega) (by omega) ⟨rfl, .inl rfl⟩).mono ?_
  rintro y w1 ⟨rfl, m1⟩
  have b1 : Below (w.heap.size + 1) _ w1 := (Below.refl _ _).grown m1.2.1 (by simp) (by simp)
  have hc1 : ∀ o, w1.cell? ⟨w.heap.size, o, none⟩ = _ := fun o => b1.cell (p := ⟨w.heap.size, o, none⟩) (by simp)
  have s1 := b1.size
  (try simp at s1)
  clear m1
  go_wp2_with fail
  refine (markWheel_any lo hi A N c 1 S _ hN hT (by omega) (H.out.below (by (repeat (first | with_reducible exact Below.refl _ _ | with_reducible refine Below.drew ?_ | with_reducible refine below_drewN ?_ _ | (with_reducible refine bel_alloc ?_ ?_ _; (first | omega | (simp; omega) | simp)) | (with_reducible refine bel_set ?_ ?_ _; (first | omega | (simp; omega) | simp)) | (with_reducible refine bel_tr (by assumption) ?_ ?_; (first | omega | (simp; omega) | simp))))))).mono ?_
  rintro y w2 ⟨rfl, o2, m2⟩
  have O2 := Lib.hid o2
  clear o2
  go_wp2
  go_ret
  refine ⟨rfl, O2.out, ?_⟩
  obtain ⟨w3, h3, h4⟩ := m2
  exact ⟨w3, (show Below w.heap.size w w1 from by (repeat (first | with_reducible exact Below.refl _ _ | with_reducible refine Below.drew ?_ | with_reducible refine below_drewN ?_ _ | (with_reducible refine bel_alloc ?_ ?_ _; (first | omega | (simp; omega) | simp)) | (with_reducible refine bel_set ?_ ?_ _; (first | omega | (simp; omega) | simp)) | (with_reducible refine bel_tr (by assumption) ?_ ?_; (first | omega | (simp; omega) | simp))))).trans (h3.mono (by omega)), h4⟩

set_option maxHeartbeats 2000000 in
theorem heldCabin_any (x : Int) (A : Option Addr) (N c : Nat) (S : Nat → Sp) (w : World) (hN : N ≤ 4194304) (hT : tot S N ≤ 4194304) (h : RdW w A N (markS S 1)) :
    Calls Try.prog 50 #[.agg #[.int .i64 x, .int .i64 0, .int .i64 0, .int .i64 x, .int .i64 0, .slice none 0 0, .slice A N c], .int .i64 1] w fun y w' => y = .returned (.int .i64 ((1 + 2 * tot S N : Nat) : Int)) ∧ Below w.heap.size w w' := by
  have H := Lib.hid h
  clear h
  go_enter Try.func50, Try.ntmps50
  go_wp2_with fail
  refine (heldEntryS_any none 0 0 1 _ (by omega) (by omega) ⟨by simp [marks], .inl rfl⟩).mono ?_
  rintro y w1 ⟨rfl, rfl⟩
  go_wp2_with fail
  refine (heldWheel_any A N c 1 S _ hN hT (by omega) (H.out.below (by (repeat (first | with_reducible exact Below.refl _ _ | with_reducible refine Below.drew ?_ | with_reducible refine below_drewN ?_ _ | (with_reducible refine bel_alloc ?_ ?_ _; (first | omega | (simp; omega) | simp)) | (with_reducible refine bel_set ?_ ?_ _; (first | omega | (simp; omega) | simp)) | (with_reducible refine bel_tr (by assumption) ?_ ?_; (first | omega | (simp; omega) | simp))))))).mono ?_
  rintro y w2 ⟨rfl, hb2⟩
  have hq : ¬ (((1 + 2 * tot S N : Nat) : Nat) : Int) < 0 := by omega
  go_wp2
  go_ret
  exact ⟨rfl, by (repeat (first | with_reducible exact Below.refl _ _ | with_reducible refine Below.drew ?_ | with_reducible refine below_drewN ?_ _ | (with_reducible refine bel_alloc ?_ ?_ _; (first | omega | (simp; omega) | simp)) | (with_reducible refine bel_set ?_ ?_ _; (first | omega | (simp; omega) | simp)) | (with_reducible refine bel_tr (by assumption) ?_ ?_; (first | omega | (simp; omega) | simp))))⟩
end Go.Proofs.Ytndgaandcmiinaa
