/-
  Contracts of the functions on rules. No conditions beyond those stated.
-/
import Derived.Test.YtcicldcgibgnfaaIs
namespace Go.Proofs.Ytcicldcgibgnfaa
open Go.RowKit

/-- The numbers of the rules are right: Tiers, Room, Size, Period, Window, Rest, Tries, Crew. -/
def RInts (r : Nat → Int) : Prop := (1 ≤ r 1 ∧ r 1 ≤ 5) ∧ (1 ≤ r 2 ∧ r 2 ≤ 10) ∧ (1 ≤ r 3 ∧ r 3 ≤ 6) ∧ (1 ≤ r 4 ∧ r 4 ≤ 12) ∧ (1 ≤ r 5 ∧ r 5 ≤ 8) ∧ (0 ≤ r 6 ∧ r 6 ≤ 8) ∧ (1 ≤ r 7 ∧ r 7 ≤ 4) ∧ (1 ≤ r 8 ∧ r 8 ≤ 3)
def ROk (n : Nat) (es : List (Nat → Int)) (r : Nat → Int) : Prop := ((1 : Int) ≤ n ∧ (n : Int) ≤ 4) ∧ RInts r ∧ ∀ i, i < n → 1 ≤ fld es i 0 ∧ fld es i 0 ≤ 60
theorem ROk.bd {n : Nat} {es : List (Nat → Int)} {r : Nat → Int} (h : ROk n es r) : ((1 : Int) ≤ n ∧ (n : Int) ≤ 4) ∧ RInts r := ⟨h.1, h.2.1⟩

set_option maxHeartbeats 1000000 in
theorem toRules_any (A : Option Addr) (n c : Nat) (es : List (Nat → Int)) (r : Nat → Int) (w : World) (hn : n ≤ 1048576) (h : Rd w 1 A n es) :
    Calls Try.prog 14 #[.agg #[.slice A n c, .int .i64 (r 1), .int .i64 (r 2), .int .i64 (r 3), .int .i64 (r 4), .int .i64 (r 5), .int .i64 (r 6), .int .i64 (r 7), .int .i64 (r 8)]] w fun x w' => ∃ A2 c2, x = .returned (.agg #[.slice A2 n c2, .int .i64 (r 1), .int .i64 (r 2), .int .i64 (r 3), .int .i64 (r 4), .int .i64 (r 5), .int .i64 (r 6), .int .i64 (r 7), .int .i64 (r 8)]) ∧ Own w.heap.size w' 1 A2 n es ∧ Below w.heap.size w w' := by
  have H := Lib.hid h
  clear h
  go_enter Try.func14, Try.ntmps14
  go_wp2_with fail
  refine (toIntS_any A n c es _ hn (H.out.below (by (repeat (first | with_reducible exact Below.refl _ _ | with_reducible refine Below.drew ?_ | with_reducible refine below_drewN ?_ _ | (with_reducible refine bel_alloc ?_ ?_ _; (first | omega | (simp; omega) | simp)) | (with_reducible refine bel_set ?_ ?_ _; (first | omega | (simp; omega) | simp)) | (with_reducible refine bel_tr (by assumption) ?_ ?_; (first | omega | (simp; omega) | simp))))))).mono ?_
  rintro x w1 ⟨A2, c2, rfl, o1, hb1⟩
  have bc1 := bcell hb1; obtain ⟨hc1, hf1⟩ := bc1; have ks1 := hb1.size; (try simp at ks1); have kc10 : ∀ o, w1.cell? ⟨w.heap.size, o, none⟩ = _ := (fun o => hb1.cell (p := ⟨w.heap.size, o, none⟩) (by (first | omega | (simp; omega) | simp))); have kf10 : ∀ o, w1.frozen? ⟨w.heap.size, o, none⟩ = _ := (fun o => hb1.frozen (p := ⟨w.heap.size, o, none⟩) (by (first | omega | (simp; omega) | simp))); have kc11 : ∀ o, w1.cell? ⟨w.heap.size + 1, o, none⟩ = _ := (fun o => hb1.cell (p := ⟨w.heap.size + 1, o, none⟩) (by (first | omega | (simp; omega) | simp))); have kf11 : ∀ o, w1.frozen? ⟨w.heap.size + 1, o, none⟩ = _ := (fun o => hb1.frozen (p := ⟨w.heap.size + 1, o, none⟩) (by (first | omega | (simp; omega) | simp))); have kc12 : ∀ o, w1.cell? ⟨w.heap.size + 1 + 1, o, none⟩ = _ := (fun o => hb1.cell (p := ⟨w.heap.size + 1 + 1, o, none⟩) (by (first | omega | (simp; omega) | simp))); have kf12 : ∀ o, w1.frozen? ⟨w.heap.size + 1 + 1, o, none⟩ = _ := (fun o => hb1.frozen (p := ⟨w.heap.size + 1 + 1, o, none⟩) (by (first | omega | (simp; omega) | simp))); have kz10 : w.heap.size < w1.heap.size := (by have hh := hb1.size; (try simp at hh); omega); have kz11 : w.heap.size + 1 < w1.heap.size := (by have hh := hb1.size; (try simp at hh); omega); have kz12 : w.heap.size + 1 + 1 < w1.heap.size := (by have hh := hb1.size; (try simp at hh); omega)
  have O := Lib.hid o1
  clear o1
  go_wp2
  refine bodyPost_ret (v := .agg #[.slice A2 n c2, .int .i64 (r 1), .int .i64 (r 2), .int .i64 (r 3), .int .i64 (r 4), .int .i64 (r 5), .int .i64 (r 6), .int .i64 (r 7), .int .i64 (r 8)]) (by simp only [results, Try.results14]; go_simp) rfl ⟨A2, c2, rfl, ?_, ?_⟩
  · refine Own.mono (B := w.heap.size + 3) ?_ (by omega)
    have o1 := O.out
    simp only [World.size_alloc] at o1
    (repeat (first | with_reducible assumption | (with_reducible refine Own.set_ ?_ ?_ _; (first | omega | (simp; omega) | simp)) | with_reducible refine Own.alloc_ ?_ _ | with_reducible refine Own.drew_ ?_))
  · (repeat (first | with_reducible exact Below.refl _ _ | with_reducible refine Below.drew ?_ | with_reducible refine below_drewN ?_ _ | (with_reducible refine bel_alloc ?_ ?_ _; (first | omega | (simp; omega) | simp)) | (with_reducible refine bel_set ?_ ?_ _; (first | omega | (simp; omega) | simp)) | (with_reducible refine bel_tr (by assumption) ?_ ?_; (first | omega | (simp; omega) | simp))))

set_option maxHeartbeats 400000 in
theorem szRules_any (A : Option Addr) (n c : Nat) (r : Nat → Int) (l : Int) (w : World) (hn : n ≤ 9223372036854775807) (h0 : 0 ≤ l) (h1 : l ≤ 1048576) :
    Calls Try.prog 9 #[.agg #[.slice A n c, .int .i64 (r 1), .int .i64 (r 2), .int .i64 (r 3), .int .i64 (r 4), .int .i64 (r 5), .int .i64 (r 6), .int .i64 (r 7), .int .i64 (r 8)], .int .i64 l] w fun x w' => x = .returned (.int .i64 (if (n : Int) ≤ l then l - n else -1)) ∧ Below w.heap.size w w' := by
  by_cases h : (n : Int) ≤ l
  · have HS := Lib.hid (szIntS_any A n c l)
    rw [if_pos h]
    have hx : 0 ≤ l - n := by omega
    go_enter Try.func9, Try.ntmps9
    go_wp2_with fail
    refine (HS.out _ hn h0 h1).mono ?_
    rw [if_pos h]
    rintro x w1 ⟨rfl, rfl⟩
    go_wp2
    go_ret
    refine ⟨rfl, ?_⟩
    (repeat (first | with_reducible exact Below.refl _ _ | with_reducible refine Below.drew ?_ | with_reducible refine below_drewN ?_ _ | (with_reducible refine bel_alloc ?_ ?_ _; (first | omega | (simp; omega) | simp)) | (with_reducible refine bel_set ?_ ?_ _; (first | omega | (simp; omega) | simp)) | (with_reducible refine bel_tr (by assumption) ?_ ?_; (first | omega | (simp; omega) | simp))))
  · have HS := Lib.hid (szIntS_any A n c l)
    rw [if_neg h]
    go_enter Try.func9, Try.ntmps9
    go_wp2_with fail
    refine (HS.out _ hn h0 h1).mono ?_
    rw [if_neg (by omega)]
    rintro x w1 ⟨rfl, rfl⟩
    go_wp2
    go_ret
    refine ⟨rfl, ?_⟩
    (repeat (first | with_reducible exact Below.refl _ _ | with_reducible refine Below.drew ?_ | with_reducible refine below_drewN ?_ _ | (with_reducible refine bel_alloc ?_ ?_ _; (first | omega | (simp; omega) | simp)) | (with_reducible refine bel_set ?_ ?_ _; (first | omega | (simp; omega) | simp)) | (with_reducible refine bel_tr (by assumption) ?_ ?_; (first | omega | (simp; omega) | simp))))

set_option maxHeartbeats 1000000 in
theorem eqRules_same (A A2 : Option Addr) (n c c2 : Nat) (es : List (Nat → Int)) (r : Nat → Int) (w : World) (hn : n ≤ 4194304) (h : Rd w 1 A n es) (h2 : Rd w 1 A2 n es) :
    Calls Try.prog 19 #[.agg #[.slice A n c, .int .i64 (r 1), .int .i64 (r 2), .int .i64 (r 3), .int .i64 (r 4), .int .i64 (r 5), .int .i64 (r 6), .int .i64 (r 7), .int .i64 (r 8)], .agg #[.slice A2 n c2, .int .i64 (r 1), .int .i64 (r 2), .int .i64 (r 3), .int .i64 (r 4), .int .i64 (r 5), .int .i64 (r 6), .int .i64 (r 7), .int .i64 (r 8)]] w fun x w' => x = .returned (.bool true) ∧ Below w.heap.size w w' := by
  have H := Lib.hid h
  have H2 := Lib.hid h2
  clear h h2
  go_enter Try.func19, Try.ntmps19
  go_wp2_with fail
  refine (eqIntS_same A A2 n c c2 es _ hn (H.out.below (by (repeat (first | with_reducible exact Below.refl _ _ | with_reducible refine Below.drew ?_ | with_reducible refine below_drewN ?_ _ | (with_reducible refine bel_alloc ?_ ?_ _; (first | omega | (simp; omega) | simp)) | (with_reducible refine bel_set ?_ ?_ _; (first | omega | (simp; omega) | simp)) | (with_reducible refine bel_tr (by assumption) ?_ ?_; (first | omega | (simp; omega) | simp)))))) (H2.out.below (by (repeat (first | with_reducible exact Below.refl _ _ | with_reducible refine Below.drew ?_ | with_reducible refine below_drewN ?_ _ | (with_reducible refine bel_alloc ?_ ?_ _; (first | omega | (simp; omega) | simp)) | (with_reducible refine bel_set ?_ ?_ _; (first | omega | (simp; omega) | simp)) | (with_reducible refine bel_tr (by assumption) ?_ ?_; (first | omega | (simp; omega) | simp))))))).mono ?_
  rintro x w1 ⟨rfl, hb1⟩
  have bc1 := bcell hb1; obtain ⟨hc1, hf1⟩ := bc1; have ks1 := hb1.size; (try simp at ks1); have kc10 : ∀ o, w1.cell? ⟨w.heap.size, o, none⟩ = _ := (fun o => hb1.cell (p := ⟨w.heap.size, o, none⟩) (by (first | omega | (simp; omega) | simp))); have kf10 : ∀ o, w1.frozen? ⟨w.heap.size, o, none⟩ = _ := (fun o => hb1.frozen (p := ⟨w.heap.size, o, none⟩) (by (first | omega | (simp; omega) | simp))); have kc11 : ∀ o, w1.cell? ⟨w.heap.size + 1, o, none⟩ = _ := (fun o => hb1.cell (p := ⟨w.heap.size + 1, o, none⟩) (by (first | omega | (simp; omega) | simp))); have kf11 : ∀ o, w1.frozen? ⟨w.heap.size + 1, o, none⟩ = _ := (fun o => hb1.frozen (p := ⟨w.heap.size + 1, o, none⟩) (by (first | omega | (simp; omega) | simp))); have kz10 : w.heap.size < w1.heap.size := (by have hh := hb1.size; (try simp at hh); omega); have kz11 : w.heap.size + 1 < w1.heap.size := (by have hh := hb1.size; (try simp at hh); omega)
  go_wp2
  go_ret
  refine ⟨rfl, ?_⟩
  (repeat (first | with_reducible exact Below.refl _ _ | with_reducible refine Below.drew ?_ | with_reducible refine below_drewN ?_ _ | (with_reducible refine bel_alloc ?_ ?_ _; (first | omega | (simp; omega) | simp)) | (with_reducible refine bel_set ?_ ?_ _; (first | omega | (simp; omega) | simp)) | (with_reducible refine bel_tr (by assumption) ?_ ?_; (first | omega | (simp; omega) | simp))))

end Go.Proofs.Ytcicldcgibgnfaa
