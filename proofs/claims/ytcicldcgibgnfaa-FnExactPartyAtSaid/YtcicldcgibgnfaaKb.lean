/-
  Contracts of the functions that measure, copy and compare a cabin. No conditions beyond those stated.
-/
import Derived.Test.YtcicldcgibgnfaaLed
import Derived.Test.YtcicldcgibgnfaaEs
import Derived.Test.YtcicldcgibgnfaaSz2
import Derived.Test.YtcicldcgibgnfaaW1
namespace Go.Proofs.Ytcicldcgibgnfaa
open Go.RowKit

theorem setc_lo {lo hi N : Nat} {w : World} {A : Option Addr} {S : Nat → Sp} {p : Addr} {v : Value} (hp : p.block < lo) (h : OwnW lo hi w A N S) : OwnW lo hi (w.setCell p v) A N S := h.set_ (.inl hp) v

set_option maxRecDepth 100000 in
set_option maxHeartbeats 2000000 in
theorem szCabin_le (x0 x1 x2 x3 x4 : Int) (AE : Option Addr) (n c : Nat) (es : List (Nat → Int)) (A : Option Addr) (N cw : Nat) (S : Nat → Sp) (l : Int) (w : World) (hn : n ≤ 9223372036854775807) (hN : N ≤ 9223372036854775807) (h0 : 0 ≤ l) (h1 : l ≤ 1048576) (h : RdW w A N S) :
    Calls Try.prog 23 #[.agg #[.int .i64 x0, .int .i64 x1, .int .i64 x2, .int .i64 x3, .int .i64 x4, .slice AE n c, .slice A N cw], .int .i64 l] w fun x w' => ∃ r : Int, x = .returned (.int .i64 r) ∧ Below w.heap.size w w' ∧ (r < 0 ∨ 0 ≤ r ∧ (n : Int) ≤ l ∧ (N : Int) + tot S N ≤ l ∧ r ≤ l) := by
  have H := Lib.hid h
  clear h
  go_enter Try.func23, Try.ntmps23
  go_wp2_with fail
  refine (szEntryS_any AE n c l _ hn h0 h1).mono ?_
  by_cases hnl : (n : Int) ≤ l
  · rw [if_pos hnl]
    rintro y w1 ⟨rfl, rfl⟩
    have e0 : ¬ l - (n : Int) < 0 := by omega
    have e1 : 0 ≤ l - (n : Int) := by omega
    have e2 : l - (n : Int) ≤ 1048576 := by omega
    go_wp2_with fail
    refine (szWheel_le A N cw S (l - n) _ hN e1 e2 (H.out.below (by (repeat (first | with_reducible exact Below.refl _ _ | with_reducible refine Below.drew ?_ | with_reducible refine below_drewN ?_ _ | (with_reducible refine bel_alloc ?_ ?_ _; (first | omega | (simp; omega) | simp)) | (with_reducible refine bel_set ?_ ?_ _; (first | omega | (simp; omega) | simp)) | (with_reducible refine bel_tr (by assumption) ?_ ?_; (first | omega | (simp; omega) | simp))))))).mono ?_
    rintro y w2 ⟨r, rfl, hb2, hr⟩
    rcases hr with hr | ⟨hr, hs, hr2⟩
    · go_wp2
      go_ret
      exact ⟨_, rfl, by (repeat (first | with_reducible exact Below.refl _ _ | with_reducible refine Below.drew ?_ | with_reducible refine below_drewN ?_ _ | (with_reducible refine bel_alloc ?_ ?_ _; (first | omega | (simp; omega) | simp)) | (with_reducible refine bel_set ?_ ?_ _; (first | omega | (simp; omega) | simp)) | (with_reducible refine bel_tr (by assumption) ?_ ?_; (first | omega | (simp; omega) | simp)))), .inl (by omega)⟩
    · have hrn : ¬ r < 0 := by omega
      go_wp2
      go_ret
      exact ⟨_, rfl, by (repeat (first | with_reducible exact Below.refl _ _ | with_reducible refine Below.drew ?_ | with_reducible refine below_drewN ?_ _ | (with_reducible refine bel_alloc ?_ ?_ _; (first | omega | (simp; omega) | simp)) | (with_reducible refine bel_set ?_ ?_ _; (first | omega | (simp; omega) | simp)) | (with_reducible refine bel_tr (by assumption) ?_ ?_; (first | omega | (simp; omega) | simp)))), .inr ⟨by omega, by omega, by omega, by omega⟩⟩
  · rw [if_neg hnl]
    rintro y w1 ⟨rfl, rfl⟩
    go_wp2
    go_ret
    exact ⟨_, rfl, by (repeat (first | with_reducible exact Below.refl _ _ | with_reducible refine Below.drew ?_ | with_reducible refine below_drewN ?_ _ | (with_reducible refine bel_alloc ?_ ?_ _; (first | omega | (simp; omega) | simp)) | (with_reducible refine bel_set ?_ ?_ _; (first | omega | (simp; omega) | simp)) | (with_reducible refine bel_tr (by assumption) ?_ ?_; (first | omega | (simp; omega) | simp)))), .inl (by omega)⟩

set_option maxRecDepth 100000 in
set_option maxHeartbeats 4000000 in
theorem toCabin_any (x0 x1 x2 x3 x4 : Int) (AE : Option Addr) (n c : Nat) (es : List (Nat → Int)) (A : Option Addr) (N cw : Nat) (S : Nat → Sp) (w : World) (hn : n ≤ 1048576) (hN : N ≤ 1048576) (hT : tot S N ≤ 1048576) (hE : Rd w 4 AE n es) (h : RdW w A N S) :
    Calls Try.prog 25 #[.agg #[.int .i64 x0, .int .i64 x1, .int .i64 x2, .int .i64 x3, .int .i64 x4, .slice AE n c, .slice A N cw]] w fun x w' => ∃ AE' A' S', x = .returned (.agg #[.int .i64 x0, .int .i64 x1, .int .i64 x2, .int .i64 x3, .int .i64 x4, .slice AE' n n, .slice A' N N]) ∧ Own w.heap.size w' 4 AE' n es ∧ OwnW w.heap.size w'.heap.size w' A' N S' ∧ Sam N S S' ∧ Below w.heap.size w w' := by
  have H := Lib.hid h
  have HE := Lib.hid hE
  clear h hE
  go_enter Try.func25, Try.ntmps25
  go_wp2_with fail
  refine (toLedger_any x0 x1 x2 x3 x4 _).mono ?_
  rintro y w1 ⟨rfl, hb1⟩
  have bc1 := bcell hb1; obtain ⟨hc1, hf1⟩ := bc1; have ks1 := hb1.size; (try simp at ks1); have kc10 : ∀ o, w1.cell? ⟨w.heap.size, o, none⟩ = _ := (fun o => hb1.cell (p := ⟨w.heap.size, o, none⟩) (by (first | omega | (simp; omega) | simp))); have kf10 : ∀ o, w1.frozen? ⟨w.heap.size, o, none⟩ = _ := (fun o => hb1.frozen (p := ⟨w.heap.size, o, none⟩) (by (first | omega | (simp; omega) | simp))); have kc11 : ∀ o, w1.cell? ⟨w.heap.size + 1, o, none⟩ = _ := (fun o => hb1.cell (p := ⟨w.heap.size + 1, o, none⟩) (by (first | omega | (simp; omega) | simp))); have kf11 : ∀ o, w1.frozen? ⟨w.heap.size + 1, o, none⟩ = _ := (fun o => hb1.frozen (p := ⟨w.heap.size + 1, o, none⟩) (by (first | omega | (simp; omega) | simp))); have kc12 : ∀ o, w1.cell? ⟨w.heap.size + 1 + 1, o, none⟩ = _ := (fun o => hb1.cell (p := ⟨w.heap.size + 1 + 1, o, none⟩) (by (first | omega | (simp; omega) | simp))); have kf12 : ∀ o, w1.frozen? ⟨w.heap.size + 1 + 1, o, none⟩ = _ := (fun o => hb1.frozen (p := ⟨w.heap.size + 1 + 1, o, none⟩) (by (first | omega | (simp; omega) | simp))); have kz10 : w.heap.size < w1.heap.size := (by have hh := hb1.size; (try simp at hh); omega); have kz11 : w.heap.size + 1 < w1.heap.size := (by have hh := hb1.size; (try simp at hh); omega); have kz12 : w.heap.size + 1 + 1 < w1.heap.size := (by have hh := hb1.size; (try simp at hh); omega)
  go_wp2_with fail
  refine (toEntryS_n AE n c es _ hn (HE.out.below (by (repeat (first | with_reducible exact Below.refl _ _ | with_reducible refine Below.drew ?_ | with_reducible refine below_drewN ?_ _ | (with_reducible refine bel_alloc ?_ ?_ _; (first | omega | (simp; omega) | simp)) | (with_reducible refine bel_set ?_ ?_ _; (first | omega | (simp; omega) | simp)) | (with_reducible refine bel_tr (by assumption) ?_ ?_; (first | omega | (simp; omega) | simp))))))).mono ?_
  rintro y w2 ⟨AE2, rfl, o2, hb2⟩
  have bc2 := bcell hb2; obtain ⟨hc2, hf2⟩ := bc2; have ks2 := hb2.size; (try simp at ks2); have kc20 : ∀ o, w2.cell? ⟨w.heap.size, o, none⟩ = _ := (fun o => hb2.cell (p := ⟨w.heap.size, o, none⟩) (by (first | omega | (simp; omega) | simp))); have kf20 : ∀ o, w2.frozen? ⟨w.heap.size, o, none⟩ = _ := (fun o => hb2.frozen (p := ⟨w.heap.size, o, none⟩) (by (first | omega | (simp; omega) | simp))); have kc21 : ∀ o, w2.cell? ⟨w.heap.size + 1, o, none⟩ = _ := (fun o => hb2.cell (p := ⟨w.heap.size + 1, o, none⟩) (by (first | omega | (simp; omega) | simp))); have kf21 : ∀ o, w2.frozen? ⟨w.heap.size + 1, o, none⟩ = _ := (fun o => hb2.frozen (p := ⟨w.heap.size + 1, o, none⟩) (by (first | omega | (simp; omega) | simp))); have kc22 : ∀ o, w2.cell? ⟨w.heap.size + 1 + 1, o, none⟩ = _ := (fun o => hb2.cell (p := ⟨w.heap.size + 1 + 1, o, none⟩) (by (first | omega | (simp; omega) | simp))); have kf22 : ∀ o, w2.frozen? ⟨w.heap.size + 1 + 1, o, none⟩ = _ := (fun o => hb2.frozen (p := ⟨w.heap.size + 1 + 1, o, none⟩) (by (first | omega | (simp; omega) | simp))); have kz20 : w.heap.size < w2.heap.size := (by have hh := hb2.size; (try simp at hh); omega); have kz21 : w.heap.size + 1 < w2.heap.size := (by have hh := hb2.size; (try simp at hh); omega); have kz22 : w.heap.size + 1 + 1 < w2.heap.size := (by have hh := hb2.size; (try simp at hh); omega)
  have O2 := Lib.hid o2
  clear o2
  go_wp2_with fail
  refine (toWheel_any A N cw S _ hN hT (H.out.below (by (repeat (first | with_reducible exact Below.refl _ _ | with_reducible refine Below.drew ?_ | with_reducible refine below_drewN ?_ _ | (with_reducible refine bel_alloc ?_ ?_ _; (first | omega | (simp; omega) | simp)) | (with_reducible refine bel_set ?_ ?_ _; (first | omega | (simp; omega) | simp)) | (with_reducible refine bel_tr (by assumption) ?_ ?_; (first | omega | (simp; omega) | simp))))))).mono ?_
  rintro y w3 ⟨A3, S3, rfl, o3, m3, hb3⟩
  have bc3 := bcell hb3; obtain ⟨hc3, hf3⟩ := bc3; have ks3 := hb3.size; (try simp at ks3); have kc30 : ∀ o, w3.cell? ⟨w.heap.size, o, none⟩ = _ := (fun o => hb3.cell (p := ⟨w.heap.size, o, none⟩) (by (first | omega | (simp; omega) | simp))); have kf30 : ∀ o, w3.frozen? ⟨w.heap.size, o, none⟩ = _ := (fun o => hb3.frozen (p := ⟨w.heap.size, o, none⟩) (by (first | omega | (simp; omega) | simp))); have kc31 : ∀ o, w3.cell? ⟨w.heap.size + 1, o, none⟩ = _ := (fun o => hb3.cell (p := ⟨w.heap.size + 1, o, none⟩) (by (first | omega | (simp; omega) | simp))); have kf31 : ∀ o, w3.frozen? ⟨w.heap.size + 1, o, none⟩ = _ := (fun o => hb3.frozen (p := ⟨w.heap.size + 1, o, none⟩) (by (first | omega | (simp; omega) | simp))); have kc32 : ∀ o, w3.cell? ⟨w.heap.size + 1 + 1, o, none⟩ = _ := (fun o => hb3.cell (p := ⟨w.heap.size + 1 + 1, o, none⟩) (by (first | omega | (simp; omega) | simp))); have kf32 : ∀ o, w3.frozen? ⟨w.heap.size + 1 + 1, o, none⟩ = _ := (fun o => hb3.frozen (p := ⟨w.heap.size + 1 + 1, o, none⟩) (by (first | omega | (simp; omega) | simp))); have kz30 : w.heap.size < w3.heap.size := (by have hh := hb3.size; (try simp at hh); omega); have kz31 : w.heap.size + 1 < w3.heap.size := (by have hh := hb3.size; (try simp at hh); omega); have kz32 : w.heap.size + 1 + 1 < w3.heap.size := (by have hh := hb3.size; (try simp at hh); omega)
  have O3 := Lib.hid o3
  have M3 := Lib.hid m3
  clear o3 m3
  go_wp2
  refine bodyPost_ret (v := .agg #[.int .i64 x0, .int .i64 x1, .int .i64 x2, .int .i64 x3, .int .i64 x4, .slice AE2 n n, .slice A3 N N]) (by simp only [results, Try.results25]; first | (go_simp; done) | (go_simp; omega)) rfl ⟨AE2, A3, S3, rfl, ?_, ?_, M3.out, ?_⟩
  · refine Own.mono (B := w.heap.size + 3) ?_ (by omega)
    have h1 : Own (w.heap.size + 3) w2 4 AE2 n es := O2.out.mono (by (first | omega | (simp; omega) | simp))
    have h0 : Own (w.heap.size + 3) w3 4 AE2 n es := by
      refine Own.below ?_ hb3
      (repeat (first | with_reducible exact h1 | (with_reducible refine Own.set_ ?_ ?_ _; (first | omega | (simp; omega) | simp))))
    (repeat (first | with_reducible exact h0 | (with_reducible refine Own.set_ ?_ ?_ _; (first | omega | (simp; omega) | simp))))
  · refine OwnW.wide (lo := w.heap.size + 3) (hi := w3.heap.size) ?_ (by (first | omega | (simp; omega) | simp)) (by (first | omega | (simp; omega) | simp)) (by (first | omega | (simp; omega) | simp))
    have h0 : OwnW (w.heap.size + 3) w3.heap.size w3 A3 N S3 := O3.out.wide (by (first | omega | (simp; omega) | simp)) (Nat.le_refl _) (Nat.le_refl _)
    (repeat (first | with_reducible exact h0 | (with_reducible refine setc_lo ?_ ?_; ((first | omega | (simp; omega) | simp)))))
  · (repeat (first | with_reducible exact Below.refl _ _ | with_reducible refine Below.drew ?_ | with_reducible refine below_drewN ?_ _ | (with_reducible refine bel_alloc ?_ ?_ _; (first | omega | (simp; omega) | simp)) | (with_reducible refine bel_set ?_ ?_ _; (first | omega | (simp; omega) | simp)) | (with_reducible refine bel_tr (by assumption) ?_ ?_; (first | omega | (simp; omega) | simp))))

set_option maxRecDepth 100000 in
set_option maxHeartbeats 2000000 in
theorem eqCabK_same (x0 x1 x2 x3 x4 : Int) (AE : Option Addr) (n c : Nat) (es : List (Nat → Int)) (A : Option Addr) (N cw : Nat) (S : Nat → Sp) (BE : Option Addr) (c2 : Nat) (B : Option Addr) (cw2 : Nat) (S2 : Nat → Sp) (w : World) (hn : n ≤ 4194304) (hN : N ≤ 4194304) (hT : tot S N ≤ 4194304) (hE : Rd w 4 AE n es) (hE2 : Rd w 4 BE n es) (h : RdW w A N S) (h2 : RdW w B N S2) (hs : Sam N S S2) :
    Calls Try.prog 29 #[.agg #[.int .i64 x0, .int .i64 x1, .int .i64 x2, .int .i64 x3, .int .i64 x4, .slice AE n c, .slice A N cw], .agg #[.int .i64 x0, .int .i64 x1, .int .i64 x2, .int .i64 x3, .int .i64 x4, .slice BE n c2, .slice B N cw2]] w fun x w' => x = .returned (.bool true) ∧ Below w.heap.size w w' := by
  have H := Lib.hid h
  have H2 := Lib.hid h2
  have HE := Lib.hid hE
  have HE2 := Lib.hid hE2
  clear h h2 hE hE2
  go_enter Try.func29, Try.ntmps29
  go_wp2_with fail
  refine (eqLedger_any x0 x1 x2 x3 x4 _).mono ?_
  rintro y w1 ⟨rfl, hb1⟩
  have bc1 := bcell hb1; obtain ⟨hc1, hf1⟩ := bc1; have ks1 := hb1.size; (try simp at ks1); have kc10 : ∀ o, w1.cell? ⟨w.heap.size, o, none⟩ = _ := (fun o => hb1.cell (p := ⟨w.heap.size, o, none⟩) (by (first | omega | (simp; omega) | simp))); have kf10 : ∀ o, w1.frozen? ⟨w.heap.size, o, none⟩ = _ := (fun o => hb1.frozen (p := ⟨w.heap.size, o, none⟩) (by (first | omega | (simp; omega) | simp))); have kc11 : ∀ o, w1.cell? ⟨w.heap.size + 1, o, none⟩ = _ := (fun o => hb1.cell (p := ⟨w.heap.size + 1, o, none⟩) (by (first | omega | (simp; omega) | simp))); have kf11 : ∀ o, w1.frozen? ⟨w.heap.size + 1, o, none⟩ = _ := (fun o => hb1.frozen (p := ⟨w.heap.size + 1, o, none⟩) (by (first | omega | (simp; omega) | simp))); have kz10 : w.heap.size < w1.heap.size := (by have hh := hb1.size; (try simp at hh); omega); have kz11 : w.heap.size + 1 < w1.heap.size := (by have hh := hb1.size; (try simp at hh); omega)
  go_wp2_with fail
  refine (eqEntryS_same AE BE n c c2 es _ hn (HE.out.below (by (repeat (first | with_reducible exact Below.refl _ _ | with_reducible refine Below.drew ?_ | with_reducible refine below_drewN ?_ _ | (with_reducible refine bel_alloc ?_ ?_ _; (first | omega | (simp; omega) | simp)) | (with_reducible refine bel_set ?_ ?_ _; (first | omega | (simp; omega) | simp)) | (with_reducible refine bel_tr (by assumption) ?_ ?_; (first | omega | (simp; omega) | simp)))))) (HE2.out.below (by (repeat (first | with_reducible exact Below.refl _ _ | with_reducible refine Below.drew ?_ | with_reducible refine below_drewN ?_ _ | (with_reducible refine bel_alloc ?_ ?_ _; (first | omega | (simp; omega) | simp)) | (with_reducible refine bel_set ?_ ?_ _; (first | omega | (simp; omega) | simp)) | (with_reducible refine bel_tr (by assumption) ?_ ?_; (first | omega | (simp; omega) | simp))))))).mono ?_
  rintro y w2 ⟨rfl, hb2⟩
  have bc2 := bcell hb2; obtain ⟨hc2, hf2⟩ := bc2; have ks2 := hb2.size; (try simp at ks2); have kc20 : ∀ o, w2.cell? ⟨w.heap.size, o, none⟩ = _ := (fun o => hb2.cell (p := ⟨w.heap.size, o, none⟩) (by (first | omega | (simp; omega) | simp))); have kf20 : ∀ o, w2.frozen? ⟨w.heap.size, o, none⟩ = _ := (fun o => hb2.frozen (p := ⟨w.heap.size, o, none⟩) (by (first | omega | (simp; omega) | simp))); have kc21 : ∀ o, w2.cell? ⟨w.heap.size + 1, o, none⟩ = _ := (fun o => hb2.cell (p := ⟨w.heap.size + 1, o, none⟩) (by (first | omega | (simp; omega) | simp))); have kf21 : ∀ o, w2.frozen? ⟨w.heap.size + 1, o, none⟩ = _ := (fun o => hb2.frozen (p := ⟨w.heap.size + 1, o, none⟩) (by (first | omega | (simp; omega) | simp))); have kz20 : w.heap.size < w2.heap.size := (by have hh := hb2.size; (try simp at hh); omega); have kz21 : w.heap.size + 1 < w2.heap.size := (by have hh := hb2.size; (try simp at hh); omega)
  go_wp2_with fail
  refine (eqWheel_same A B N cw cw2 S S2 _ hN hT (H.out.below (by (repeat (first | with_reducible exact Below.refl _ _ | with_reducible refine Below.drew ?_ | with_reducible refine below_drewN ?_ _ | (with_reducible refine bel_alloc ?_ ?_ _; (first | omega | (simp; omega) | simp)) | (with_reducible refine bel_set ?_ ?_ _; (first | omega | (simp; omega) | simp)) | (with_reducible refine bel_tr (by assumption) ?_ ?_; (first | omega | (simp; omega) | simp)))))) (H2.out.below (by (repeat (first | with_reducible exact Below.refl _ _ | with_reducible refine Below.drew ?_ | with_reducible refine below_drewN ?_ _ | (with_reducible refine bel_alloc ?_ ?_ _; (first | omega | (simp; omega) | simp)) | (with_reducible refine bel_set ?_ ?_ _; (first | omega | (simp; omega) | simp)) | (with_reducible refine bel_tr (by assumption) ?_ ?_; (first | omega | (simp; omega) | simp)))))) hs).mono ?_
  rintro y w3 ⟨rfl, hb3⟩
  go_wp2
  go_ret
  exact ⟨rfl, by (repeat (first | with_reducible exact Below.refl _ _ | with_reducible refine Below.drew ?_ | with_reducible refine below_drewN ?_ _ | (with_reducible refine bel_alloc ?_ ?_ _; (first | omega | (simp; omega) | simp)) | (with_reducible refine bel_set ?_ ?_ _; (first | omega | (simp; omega) | simp)) | (with_reducible refine bel_tr (by assumption) ?_ ?_; (first | omega | (simp; omega) | simp))))⟩
end Go.Proofs.Ytcicldcgibgnfaa
