/-
  Contracts of the functions that measure, copy and compare houses. No conditions beyond those stated.
-/
import Derived.Test.YtcicldcgibgnfaaHc
import Derived.Test.YtcicldcgibgnfaaRu
import Derived.Test.YtcicldcgibgnfaaPs
import Derived.Test.YtcicldcgibgnfaaIs
namespace Go.Proofs.Ytcicldcgibgnfaa
open Go.RowKit

set_option maxRecDepth 100000 in
set_option maxHeartbeats 8000000 in
theorem szHouse_le (A : Option Addr) (n c : Nat) (es : List (Nat → Int)) (r u : Nat → Int) (P : Option Addr) (m pc : Nat) (ps : List (Nat → Int)) (Q : Option Addr) (q qc : Nat) (C : Nat → Cb) (T : Option Addr) (t tc : Nat) (ts : List (Nat → Int)) (J : Option Addr) (j jc : Nat) (js : List (Nat → Int)) (l : Int) (w : World) (hn : n ≤ 9223372036854775807) (hm : m ≤ 9223372036854775807) (hq0 : q ≤ 9223372036854775807) (ht0 : t ≤ 9223372036854775807) (hj0 : j ≤ 9223372036854775807) (h0 : 0 ≤ l) (h1 : l ≤ 1048576) (h : Rd w 1 A n es) (hp : Rd w 10 P m ps) (hq : RdC w Q q C) (ht : Rd w 1 T t ts) (hj : Rd w 1 J j js) :
    Calls Try.prog 4 #[.agg #[.slice A n c, .int .i64 (r 1), .int .i64 (r 2), .int .i64 (r 3), .int .i64 (r 4), .int .i64 (r 5), .int .i64 (r 6), .int .i64 (r 7), .int .i64 (r 8), .int .i64 (u 0), .int .i64 (u 1), .slice P m pc, .slice Q q qc, .slice T t tc, .slice J j jc], .int .i64 l] w fun x w' => ∃ res : Int, x = .returned (.int .i64 res) ∧ Below w.heap.size w w' ∧ (res < 0 ∨ 0 ≤ res ∧ n ≤ 1048576 ∧ m ≤ 1048576 ∧ q ≤ 1048576 ∧ t ≤ 1048576 ∧ j ≤ 1048576 ∧ ∀ i, i < q → SmC 1048576 (C i)) := by
  have H := Lib.hid h
  have HP := Lib.hid hp
  have HQ := Lib.hid hq
  have HT := Lib.hid ht
  have HJ := Lib.hid hj
  clear h hp hq ht hj
  go_enter Try.func4, Try.ntmps4
  go_wp2_with fail
  refine (szRules_any A n c r l _ hn h0 h1).mono ?_
  by_cases k1 : (n : Int) ≤ l
  case neg =>
    rw [if_neg k1]
    rintro y w1 ⟨rfl, hb1⟩
    go_wp2
    go_ret
    exact ⟨_, rfl, by (repeat (first | with_reducible exact Below.refl _ _ | with_reducible refine Below.drew ?_ | with_reducible refine below_drewN ?_ _ | (with_reducible refine bel_alloc ?_ ?_ _; (first | omega | (simp; omega) | simp)) | (with_reducible refine bel_set ?_ ?_ _; (first | omega | (simp; omega) | simp)) | (with_reducible refine bel_tr (by assumption) ?_ ?_; (first | omega | (simp; omega) | simp)))), .inl (by omega)⟩
  rw [if_pos k1]
  rintro y w1 ⟨rfl, hb1⟩
  have bc1 := bcell hb1; obtain ⟨hc1, hf1⟩ := bc1; have ks1 := hb1.size; (try simp at ks1); have kc10 : ∀ o, w1.cell? ⟨w.heap.size, o, none⟩ = _ := (fun o => hb1.cell (p := ⟨w.heap.size, o, none⟩) (by (first | omega | (simp; omega) | simp))); have kf10 : ∀ o, w1.frozen? ⟨w.heap.size, o, none⟩ = _ := (fun o => hb1.frozen (p := ⟨w.heap.size, o, none⟩) (by (first | omega | (simp; omega) | simp))); have kz10 : w.heap.size < w1.heap.size := (by have hh := hb1.size; (try simp at hh); omega)
  have e1 : ¬ l - (n : Int) < 0 := by omega
  go_wp2_with fail
  refine (szPartyS_any P m pc (l - n) _ hm (by omega) (by omega)).mono ?_
  by_cases k2 : (m : Int) ≤ l - n
  case neg =>
    rw [if_neg k2]
    rintro y w2 ⟨rfl, rfl⟩
    go_wp2
    go_ret
    exact ⟨_, rfl, by (repeat (first | with_reducible exact Below.refl _ _ | with_reducible refine Below.drew ?_ | with_reducible refine below_drewN ?_ _ | (with_reducible refine bel_alloc ?_ ?_ _; (first | omega | (simp; omega) | simp)) | (with_reducible refine bel_set ?_ ?_ _; (first | omega | (simp; omega) | simp)) | (with_reducible refine bel_tr (by assumption) ?_ ?_; (first | omega | (simp; omega) | simp)))), .inl (by omega)⟩
  rw [if_pos k2]
  rintro y w2 ⟨rfl, rfl⟩
  have e2 : ¬ l - (n : Int) - (m : Int) < 0 := by omega
  go_wp2_with fail
  refine (szCabinS_le Q q qc C (l - n - m) _ hq0 (by omega) (by omega) (HQ.out.below (by (repeat (first | with_reducible exact Below.refl _ _ | with_reducible refine Below.drew ?_ | with_reducible refine below_drewN ?_ _ | (with_reducible refine bel_alloc ?_ ?_ _; (first | omega | (simp; omega) | simp)) | (with_reducible refine bel_set ?_ ?_ _; (first | omega | (simp; omega) | simp)) | (with_reducible refine bel_tr (by assumption) ?_ ?_; (first | omega | (simp; omega) | simp))))))).mono ?_
  rintro y w3 ⟨r3, rfl, hb3, hr3⟩
  have bc3 := bcell hb3; obtain ⟨hc3, hf3⟩ := bc3; have ks3 := hb3.size; (try simp at ks3); have kc30 : ∀ o, w3.cell? ⟨w.heap.size, o, none⟩ = _ := (fun o => hb3.cell (p := ⟨w.heap.size, o, none⟩) (by (first | omega | (simp; omega) | simp))); have kf30 : ∀ o, w3.frozen? ⟨w.heap.size, o, none⟩ = _ := (fun o => hb3.frozen (p := ⟨w.heap.size, o, none⟩) (by (first | omega | (simp; omega) | simp))); have kz30 : w.heap.size < w3.heap.size := (by have hh := hb3.size; (try simp at hh); omega)
  rcases hr3 with hr3 | ⟨hr3, hr4, k3, k4⟩
  · go_wp2
    go_ret
    exact ⟨_, rfl, by (repeat (first | with_reducible exact Below.refl _ _ | with_reducible refine Below.drew ?_ | with_reducible refine below_drewN ?_ _ | (with_reducible refine bel_alloc ?_ ?_ _; (first | omega | (simp; omega) | simp)) | (with_reducible refine bel_set ?_ ?_ _; (first | omega | (simp; omega) | simp)) | (with_reducible refine bel_tr (by assumption) ?_ ?_; (first | omega | (simp; omega) | simp)))), .inl (by omega)⟩
  have K4 := Lib.hid k4
  have e3 : ¬ r3 < 0 := by omega
  clear k4
  go_wp2_with fail
  refine (szIntS_any T t tc r3 _ ht0 (by omega) (by omega)).mono ?_
  by_cases k5 : (t : Int) ≤ r3
  case neg =>
    rw [if_neg k5]
    rintro y w4 ⟨rfl, rfl⟩
    go_wp2
    go_ret
    exact ⟨_, rfl, by (repeat (first | with_reducible exact Below.refl _ _ | with_reducible refine Below.drew ?_ | with_reducible refine below_drewN ?_ _ | (with_reducible refine bel_alloc ?_ ?_ _; (first | omega | (simp; omega) | simp)) | (with_reducible refine bel_set ?_ ?_ _; (first | omega | (simp; omega) | simp)) | (with_reducible refine bel_tr (by assumption) ?_ ?_; (first | omega | (simp; omega) | simp)))), .inl (by omega)⟩
  rw [if_pos k5]
  rintro y w4 ⟨rfl, rfl⟩
  have e4 : ¬ r3 - (t : Int) < 0 := by omega
  go_wp2_with fail
  refine (szIntS_any J j jc (r3 - t) _ hj0 (by omega) (by omega)).mono ?_
  by_cases k6 : (j : Int) ≤ r3 - t
  case neg =>
    rw [if_neg k6]
    rintro y w5 ⟨rfl, rfl⟩
    go_wp2
    go_ret
    exact ⟨_, rfl, by (repeat (first | with_reducible exact Below.refl _ _ | with_reducible refine Below.drew ?_ | with_reducible refine below_drewN ?_ _ | (with_reducible refine bel_alloc ?_ ?_ _; (first | omega | (simp; omega) | simp)) | (with_reducible refine bel_set ?_ ?_ _; (first | omega | (simp; omega) | simp)) | (with_reducible refine bel_tr (by assumption) ?_ ?_; (first | omega | (simp; omega) | simp)))), .inl (by omega)⟩
  rw [if_pos k6]
  rintro y w5 ⟨rfl, rfl⟩
  have e5 : ¬ r3 - (t : Int) - (j : Int) < 0 := by omega
  go_wp2
  go_ret
  exact ⟨_, rfl, by (repeat (first | with_reducible exact Below.refl _ _ | with_reducible refine Below.drew ?_ | with_reducible refine below_drewN ?_ _ | (with_reducible refine bel_alloc ?_ ?_ _; (first | omega | (simp; omega) | simp)) | (with_reducible refine bel_set ?_ ?_ _; (first | omega | (simp; omega) | simp)) | (with_reducible refine bel_tr (by assumption) ?_ ?_; (first | omega | (simp; omega) | simp)))), .inr ⟨by omega, by omega, by omega, by omega, by omega, by omega, fun i hi => ⟨by have := (K4.out i hi).1; omega, by have := (K4.out i hi).2; omega⟩⟩⟩

set_option maxRecDepth 100000 in
set_option maxHeartbeats 16000000 in
theorem toHouse_any (A : Option Addr) (n c : Nat) (es : List (Nat → Int)) (r u : Nat → Int) (P : Option Addr) (m pc : Nat) (ps : List (Nat → Int)) (Q : Option Addr) (q qc : Nat) (C : Nat → Cb) (T : Option Addr) (t tc : Nat) (ts : List (Nat → Int)) (J : Option Addr) (j jc : Nat) (js : List (Nat → Int)) (w : World) (hn : n ≤ 1048576) (hm : m ≤ 1048576) (hq0 : q ≤ 1048576) (ht0 : t ≤ 1048576) (hj0 : j ≤ 1048576) (hs : ∀ i, i < q → SmC 1048576 (C i)) (h : Rd w 1 A n es) (hp : Rd w 10 P m ps) (hq : RdC w Q q C) (ht : Rd w 1 T t ts) (hj : Rd w 1 J j js) :
    Calls Try.prog 6 #[.agg #[.slice A n c, .int .i64 (r 1), .int .i64 (r 2), .int .i64 (r 3), .int .i64 (r 4), .int .i64 (r 5), .int .i64 (r 6), .int .i64 (r 7), .int .i64 (r 8), .int .i64 (u 0), .int .i64 (u 1), .slice P m pc, .slice Q q qc, .slice T t tc, .slice J j jc]] w fun x w' => ∃ A' c' P' Q' C' T' tc' J' jc', x = .returned (.agg #[.slice A' n c', .int .i64 (r 1), .int .i64 (r 2), .int .i64 (r 3), .int .i64 (r 4), .int .i64 (r 5), .int .i64 (r 6), .int .i64 (r 7), .int .i64 (r 8), .int .i64 (u 0), .int .i64 (u 1), .slice P' m m, .slice Q' q q, .slice T' t tc', .slice J' j jc']) ∧ Rd w' 1 A' n es ∧ Rd w' 10 P' m ps ∧ RdC w' Q' q C' ∧ (∀ i, i < q → SamC (C i) (C' i)) ∧ Rd w' 1 T' t ts ∧ Rd w' 1 J' j js ∧ Below w.heap.size w w' := by
  have H := Lib.hid h
  have HP := Lib.hid hp
  have HQ := Lib.hid hq
  have HT := Lib.hid ht
  have HJ := Lib.hid hj
  clear h hp hq ht hj
  have HS := Lib.hid hs
  clear hs
  go_enter Try.func6, Try.ntmps6
  go_wp2_with fail
  refine (toRules_any A n c es r _ hn (H.out.below (by (repeat (first | with_reducible exact Below.refl _ _ | with_reducible refine Below.drew ?_ | with_reducible refine below_drewN ?_ _ | (with_reducible refine bel_alloc ?_ ?_ _; (first | omega | (simp; omega) | simp)) | (with_reducible refine bel_set ?_ ?_ _; (first | omega | (simp; omega) | simp)) | (with_reducible refine bel_tr (by assumption) ?_ ?_; (first | omega | (simp; omega) | simp))))))).mono ?_
  rintro y w1 ⟨A1, c1, rfl, o1, hb1⟩
  have bc1 := bcell hb1; obtain ⟨hc1, hf1⟩ := bc1; have ks1 := hb1.size; (try simp at ks1); have kc10 : ∀ o, w1.cell? ⟨w.heap.size, o, none⟩ = _ := (fun o => hb1.cell (p := ⟨w.heap.size, o, none⟩) (by (first | omega | (simp; omega) | simp))); have kf10 : ∀ o, w1.frozen? ⟨w.heap.size, o, none⟩ = _ := (fun o => hb1.frozen (p := ⟨w.heap.size, o, none⟩) (by (first | omega | (simp; omega) | simp))); have kc11 : ∀ o, w1.cell? ⟨w.heap.size + 1, o, none⟩ = _ := (fun o => hb1.cell (p := ⟨w.heap.size + 1, o, none⟩) (by (first | omega | (simp; omega) | simp))); have kf11 : ∀ o, w1.frozen? ⟨w.heap.size + 1, o, none⟩ = _ := (fun o => hb1.frozen (p := ⟨w.heap.size + 1, o, none⟩) (by (first | omega | (simp; omega) | simp))); have kc12 : ∀ o, w1.cell? ⟨w.heap.size + 1 + 1, o, none⟩ = _ := (fun o => hb1.cell (p := ⟨w.heap.size + 1 + 1, o, none⟩) (by (first | omega | (simp; omega) | simp))); have kf12 : ∀ o, w1.frozen? ⟨w.heap.size + 1 + 1, o, none⟩ = _ := (fun o => hb1.frozen (p := ⟨w.heap.size + 1 + 1, o, none⟩) (by (first | omega | (simp; omega) | simp))); have kz10 : w.heap.size < w1.heap.size := (by have hh := hb1.size; (try simp at hh); omega); have kz11 : w.heap.size + 1 < w1.heap.size := (by have hh := hb1.size; (try simp at hh); omega); have kz12 : w.heap.size + 1 + 1 < w1.heap.size := (by have hh := hb1.size; (try simp at hh); omega)
  have OA1 : Hid (Own (w.heap.size + 3) w1 1 A1 n es) := Lib.hid (o1.mono (by (first | omega | (simp; omega) | simp)))
  clear o1
  go_wp2_with fail
  refine (toPartyS_n P m pc ps _ hm (HP.out.below (by (repeat (first | with_reducible exact Below.refl _ _ | with_reducible refine Below.drew ?_ | with_reducible refine below_drewN ?_ _ | (with_reducible refine bel_alloc ?_ ?_ _; (first | omega | (simp; omega) | simp)) | (with_reducible refine bel_set ?_ ?_ _; (first | omega | (simp; omega) | simp)) | (with_reducible refine bel_tr (by assumption) ?_ ?_; (first | omega | (simp; omega) | simp))))))).mono ?_
  rintro y w2 ⟨P2, rfl, o2, hb2⟩
  have bc2 := bcell hb2; obtain ⟨hc2, hf2⟩ := bc2; have ks2 := hb2.size; (try simp at ks2); have kc20 : ∀ o, w2.cell? ⟨w.heap.size, o, none⟩ = _ := (fun o => hb2.cell (p := ⟨w.heap.size, o, none⟩) (by (first | omega | (simp; omega) | simp))); have kf20 : ∀ o, w2.frozen? ⟨w.heap.size, o, none⟩ = _ := (fun o => hb2.frozen (p := ⟨w.heap.size, o, none⟩) (by (first | omega | (simp; omega) | simp))); have kc21 : ∀ o, w2.cell? ⟨w.heap.size + 1, o, none⟩ = _ := (fun o => hb2.cell (p := ⟨w.heap.size + 1, o, none⟩) (by (first | omega | (simp; omega) | simp))); have kf21 : ∀ o, w2.frozen? ⟨w.heap.size + 1, o, none⟩ = _ := (fun o => hb2.frozen (p := ⟨w.heap.size + 1, o, none⟩) (by (first | omega | (simp; omega) | simp))); have kc22 : ∀ o, w2.cell? ⟨w.heap.size + 1 + 1, o, none⟩ = _ := (fun o => hb2.cell (p := ⟨w.heap.size + 1 + 1, o, none⟩) (by (first | omega | (simp; omega) | simp))); have kf22 : ∀ o, w2.frozen? ⟨w.heap.size + 1 + 1, o, none⟩ = _ := (fun o => hb2.frozen (p := ⟨w.heap.size + 1 + 1, o, none⟩) (by (first | omega | (simp; omega) | simp))); have kz20 : w.heap.size < w2.heap.size := (by have hh := hb2.size; (try simp at hh); omega); have kz21 : w.heap.size + 1 < w2.heap.size := (by have hh := hb2.size; (try simp at hh); omega); have kz22 : w.heap.size + 1 + 1 < w2.heap.size := (by have hh := hb2.size; (try simp at hh); omega)
  have OA2 : Hid (Own (w.heap.size + 3) w2 1 A1 n es) := Lib.hid (by
    refine Own.below ?_ hb2
    have h1 := OA1.out
    (repeat (first | with_reducible exact h1 | (with_reducible refine Own.set_ ?_ ?_ _; (first | omega | (simp; omega) | simp)))))
  have OP2 : Hid (Own (w.heap.size + 3) w2 10 P2 m ps) := Lib.hid (o2.mono (by (first | omega | (simp; omega) | simp)))
  clear o2
  go_wp2_with fail
  refine (toCabinS_any Q q qc C _ hq0 HS.out (HQ.out.below (by (repeat (first | with_reducible exact Below.refl _ _ | with_reducible refine Below.drew ?_ | with_reducible refine below_drewN ?_ _ | (with_reducible refine bel_alloc ?_ ?_ _; (first | omega | (simp; omega) | simp)) | (with_reducible refine bel_set ?_ ?_ _; (first | omega | (simp; omega) | simp)) | (with_reducible refine bel_tr (by assumption) ?_ ?_; (first | omega | (simp; omega) | simp))))))).mono ?_
  rintro y w3 ⟨Q3, C3, rfl, o3, s3, hb3⟩
  have bc3 := bcell hb3; obtain ⟨hc3, hf3⟩ := bc3; have ks3 := hb3.size; (try simp at ks3); have kc30 : ∀ o, w3.cell? ⟨w.heap.size, o, none⟩ = _ := (fun o => hb3.cell (p := ⟨w.heap.size, o, none⟩) (by (first | omega | (simp; omega) | simp))); have kf30 : ∀ o, w3.frozen? ⟨w.heap.size, o, none⟩ = _ := (fun o => hb3.frozen (p := ⟨w.heap.size, o, none⟩) (by (first | omega | (simp; omega) | simp))); have kc31 : ∀ o, w3.cell? ⟨w.heap.size + 1, o, none⟩ = _ := (fun o => hb3.cell (p := ⟨w.heap.size + 1, o, none⟩) (by (first | omega | (simp; omega) | simp))); have kf31 : ∀ o, w3.frozen? ⟨w.heap.size + 1, o, none⟩ = _ := (fun o => hb3.frozen (p := ⟨w.heap.size + 1, o, none⟩) (by (first | omega | (simp; omega) | simp))); have kc32 : ∀ o, w3.cell? ⟨w.heap.size + 1 + 1, o, none⟩ = _ := (fun o => hb3.cell (p := ⟨w.heap.size + 1 + 1, o, none⟩) (by (first | omega | (simp; omega) | simp))); have kf32 : ∀ o, w3.frozen? ⟨w.heap.size + 1 + 1, o, none⟩ = _ := (fun o => hb3.frozen (p := ⟨w.heap.size + 1 + 1, o, none⟩) (by (first | omega | (simp; omega) | simp))); have kz30 : w.heap.size < w3.heap.size := (by have hh := hb3.size; (try simp at hh); omega); have kz31 : w.heap.size + 1 < w3.heap.size := (by have hh := hb3.size; (try simp at hh); omega); have kz32 : w.heap.size + 1 + 1 < w3.heap.size := (by have hh := hb3.size; (try simp at hh); omega)
  have OA3 : Hid (Own (w.heap.size + 3) w3 1 A1 n es) := Lib.hid (by
    refine Own.below ?_ hb3
    have h1 := OA2.out
    (repeat (first | with_reducible exact h1 | (with_reducible refine Own.set_ ?_ ?_ _; (first | omega | (simp; omega) | simp)))))
  have OP3 : Hid (Own (w.heap.size + 3) w3 10 P2 m ps) := Lib.hid (by
    refine Own.below ?_ hb3
    have h1 := OP2.out
    (repeat (first | with_reducible exact h1 | (with_reducible refine Own.set_ ?_ ?_ _; (first | omega | (simp; omega) | simp)))))
  have OQ3 : Hid (OwnC (w.heap.size + 3) w3 Q3 q C3) := Lib.hid (o3.mono (by (first | omega | (simp; omega) | simp)))
  clear o3
  have S3 := Lib.hid s3
  clear s3
  go_wp2_with fail
  refine (toIntS_any T t tc ts _ ht0 (HT.out.below (by (repeat (first | with_reducible exact Below.refl _ _ | with_reducible refine Below.drew ?_ | with_reducible refine below_drewN ?_ _ | (with_reducible refine bel_alloc ?_ ?_ _; (first | omega | (simp; omega) | simp)) | (with_reducible refine bel_set ?_ ?_ _; (first | omega | (simp; omega) | simp)) | (with_reducible refine bel_tr (by assumption) ?_ ?_; (first | omega | (simp; omega) | simp))))))).mono ?_
  rintro y w4 ⟨T4, c4, rfl, o4, hb4⟩
  have bc4 := bcell hb4; obtain ⟨hc4, hf4⟩ := bc4; have ks4 := hb4.size; (try simp at ks4); have kc40 : ∀ o, w4.cell? ⟨w.heap.size, o, none⟩ = _ := (fun o => hb4.cell (p := ⟨w.heap.size, o, none⟩) (by (first | omega | (simp; omega) | simp))); have kf40 : ∀ o, w4.frozen? ⟨w.heap.size, o, none⟩ = _ := (fun o => hb4.frozen (p := ⟨w.heap.size, o, none⟩) (by (first | omega | (simp; omega) | simp))); have kc41 : ∀ o, w4.cell? ⟨w.heap.size + 1, o, none⟩ = _ := (fun o => hb4.cell (p := ⟨w.heap.size + 1, o, none⟩) (by (first | omega | (simp; omega) | simp))); have kf41 : ∀ o, w4.frozen? ⟨w.heap.size + 1, o, none⟩ = _ := (fun o => hb4.frozen (p := ⟨w.heap.size + 1, o, none⟩) (by (first | omega | (simp; omega) | simp))); have kc42 : ∀ o, w4.cell? ⟨w.heap.size + 1 + 1, o, none⟩ = _ := (fun o => hb4.cell (p := ⟨w.heap.size + 1 + 1, o, none⟩) (by (first | omega | (simp; omega) | simp))); have kf42 : ∀ o, w4.frozen? ⟨w.heap.size + 1 + 1, o, none⟩ = _ := (fun o => hb4.frozen (p := ⟨w.heap.size + 1 + 1, o, none⟩) (by (first | omega | (simp; omega) | simp))); have kz40 : w.heap.size < w4.heap.size := (by have hh := hb4.size; (try simp at hh); omega); have kz41 : w.heap.size + 1 < w4.heap.size := (by have hh := hb4.size; (try simp at hh); omega); have kz42 : w.heap.size + 1 + 1 < w4.heap.size := (by have hh := hb4.size; (try simp at hh); omega)
  have OA4 : Hid (Own (w.heap.size + 3) w4 1 A1 n es) := Lib.hid (by
    refine Own.below ?_ hb4
    have h1 := OA3.out
    (repeat (first | with_reducible exact h1 | (with_reducible refine Own.set_ ?_ ?_ _; (first | omega | (simp; omega) | simp)))))
  have OP4 : Hid (Own (w.heap.size + 3) w4 10 P2 m ps) := Lib.hid (by
    refine Own.below ?_ hb4
    have h1 := OP3.out
    (repeat (first | with_reducible exact h1 | (with_reducible refine Own.set_ ?_ ?_ _; (first | omega | (simp; omega) | simp)))))
  have OQ4 : Hid (OwnC (w.heap.size + 3) w4 Q3 q C3) := Lib.hid (by
    refine OwnC.below ?_ hb4
    have h1 := OQ3.out
    (repeat (first | with_reducible exact h1 | (with_reducible refine OwnC.set_ ?_ ?_ _; (first | omega | (simp; omega) | simp)))))
  have OT4 : Hid (Own (w.heap.size + 3) w4 1 T4 t ts) := Lib.hid (o4.mono (by (first | omega | (simp; omega) | simp)))
  clear o4
  go_wp2_with fail
  refine (toIntS_any J j jc js _ hj0 (HJ.out.below (by (repeat (first | with_reducible exact Below.refl _ _ | with_reducible refine Below.drew ?_ | with_reducible refine below_drewN ?_ _ | (with_reducible refine bel_alloc ?_ ?_ _; (first | omega | (simp; omega) | simp)) | (with_reducible refine bel_set ?_ ?_ _; (first | omega | (simp; omega) | simp)) | (with_reducible refine bel_tr (by assumption) ?_ ?_; (first | omega | (simp; omega) | simp))))))).mono ?_
  rintro y w5 ⟨J5, c5, rfl, o5, hb5⟩
  have bc5 := bcell hb5; obtain ⟨hc5, hf5⟩ := bc5; have ks5 := hb5.size; (try simp at ks5); have kc50 : ∀ o, w5.cell? ⟨w.heap.size, o, none⟩ = _ := (fun o => hb5.cell (p := ⟨w.heap.size, o, none⟩) (by (first | omega | (simp; omega) | simp))); have kf50 : ∀ o, w5.frozen? ⟨w.heap.size, o, none⟩ = _ := (fun o => hb5.frozen (p := ⟨w.heap.size, o, none⟩) (by (first | omega | (simp; omega) | simp))); have kc51 : ∀ o, w5.cell? ⟨w.heap.size + 1, o, none⟩ = _ := (fun o => hb5.cell (p := ⟨w.heap.size + 1, o, none⟩) (by (first | omega | (simp; omega) | simp))); have kf51 : ∀ o, w5.frozen? ⟨w.heap.size + 1, o, none⟩ = _ := (fun o => hb5.frozen (p := ⟨w.heap.size + 1, o, none⟩) (by (first | omega | (simp; omega) | simp))); have kc52 : ∀ o, w5.cell? ⟨w.heap.size + 1 + 1, o, none⟩ = _ := (fun o => hb5.cell (p := ⟨w.heap.size + 1 + 1, o, none⟩) (by (first | omega | (simp; omega) | simp))); have kf52 : ∀ o, w5.frozen? ⟨w.heap.size + 1 + 1, o, none⟩ = _ := (fun o => hb5.frozen (p := ⟨w.heap.size + 1 + 1, o, none⟩) (by (first | omega | (simp; omega) | simp))); have kz50 : w.heap.size < w5.heap.size := (by have hh := hb5.size; (try simp at hh); omega); have kz51 : w.heap.size + 1 < w5.heap.size := (by have hh := hb5.size; (try simp at hh); omega); have kz52 : w.heap.size + 1 + 1 < w5.heap.size := (by have hh := hb5.size; (try simp at hh); omega)
  have OA5 : Hid (Own (w.heap.size + 3) w5 1 A1 n es) := Lib.hid (by
    refine Own.below ?_ hb5
    have h1 := OA4.out
    (repeat (first | with_reducible exact h1 | (with_reducible refine Own.set_ ?_ ?_ _; (first | omega | (simp; omega) | simp)))))
  have OP5 : Hid (Own (w.heap.size + 3) w5 10 P2 m ps) := Lib.hid (by
    refine Own.below ?_ hb5
    have h1 := OP4.out
    (repeat (first | with_reducible exact h1 | (with_reducible refine Own.set_ ?_ ?_ _; (first | omega | (simp; omega) | simp)))))
  have OQ5 : Hid (OwnC (w.heap.size + 3) w5 Q3 q C3) := Lib.hid (by
    refine OwnC.below ?_ hb5
    have h1 := OQ4.out
    (repeat (first | with_reducible exact h1 | (with_reducible refine OwnC.set_ ?_ ?_ _; (first | omega | (simp; omega) | simp)))))
  have OT5 : Hid (Own (w.heap.size + 3) w5 1 T4 t ts) := Lib.hid (by
    refine Own.below ?_ hb5
    have h1 := OT4.out
    (repeat (first | with_reducible exact h1 | (with_reducible refine Own.set_ ?_ ?_ _; (first | omega | (simp; omega) | simp)))))
  have OJ5 : Hid (Own (w.heap.size + 3) w5 1 J5 j js) := Lib.hid (o5.mono (by (first | omega | (simp; omega) | simp)))
  clear o5
  go_wp2
  refine bodyPost_ret (v := .agg #[.slice A1 n c1, .int .i64 (r 1), .int .i64 (r 2), .int .i64 (r 3), .int .i64 (r 4), .int .i64 (r 5), .int .i64 (r 6), .int .i64 (r 7), .int .i64 (r 8), .int .i64 (u 0), .int .i64 (u 1), .slice P2 m m, .slice Q3 q q, .slice T4 t c4, .slice J5 j c5]) (by simp only [results, Try.results6]; first | (go_simp; done) | (go_simp; omega)) rfl ⟨A1, c1, P2, Q3, C3, T4, c4, J5, c5, rfl, ?_, ?_, ?_, S3.out, ?_, ?_, ?_⟩
  · refine Own.rd (B := w.heap.size + 3) ?_
    have h1 := OA5.out
    (repeat (first | with_reducible exact h1 | (with_reducible refine Own.set_ ?_ ?_ _; (first | omega | (simp; omega) | simp))))
  · refine Own.rd (B := w.heap.size + 3) ?_
    have h1 := OP5.out
    (repeat (first | with_reducible exact h1 | (with_reducible refine Own.set_ ?_ ?_ _; (first | omega | (simp; omega) | simp))))
  · refine OwnC.rd (B := w.heap.size + 3) ?_
    have h1 := OQ5.out
    (repeat (first | with_reducible exact h1 | (with_reducible refine OwnC.set_ ?_ ?_ _; (first | omega | (simp; omega) | simp))))
  · refine Own.rd (B := w.heap.size + 3) ?_
    have h1 := OT5.out
    (repeat (first | with_reducible exact h1 | (with_reducible refine Own.set_ ?_ ?_ _; (first | omega | (simp; omega) | simp))))
  · refine Own.rd (B := w.heap.size + 3) ?_
    have h1 := OJ5.out
    (repeat (first | with_reducible exact h1 | (with_reducible refine Own.set_ ?_ ?_ _; (first | omega | (simp; omega) | simp))))
  · (repeat (first | with_reducible exact Below.refl _ _ | with_reducible refine Below.drew ?_ | with_reducible refine below_drewN ?_ _ | (with_reducible refine bel_alloc ?_ ?_ _; (first | omega | (simp; omega) | simp)) | (with_reducible refine bel_set ?_ ?_ _; (first | omega | (simp; omega) | simp)) | (with_reducible refine bel_tr (by assumption) ?_ ?_; (first | omega | (simp; omega) | simp))))

set_option maxRecDepth 100000 in
set_option maxHeartbeats 8000000 in
theorem eqHouse_same (A : Option Addr) (n c : Nat) (es : List (Nat → Int)) (r u : Nat → Int) (P : Option Addr) (m pc : Nat) (ps : List (Nat → Int)) (Q : Option Addr) (q qc : Nat) (C : Nat → Cb) (T : Option Addr) (t tc : Nat) (ts : List (Nat → Int)) (J : Option Addr) (j jc : Nat) (js : List (Nat → Int)) (A2 : Option Addr) (c2 : Nat) (P2 : Option Addr) (pc2 : Nat) (Q2 : Option Addr) (qc2 : Nat) (C2 : Nat → Cb) (T2 : Option Addr) (tc2 : Nat) (J2 : Option Addr) (jc2 : Nat) (w : World) (hn : n ≤ 4194304) (hm : m ≤ 4194304) (hq0 : q ≤ 4194304) (ht0 : t ≤ 4194304) (hj0 : j ≤ 4194304) (hs : ∀ i, i < q → SmC 1048576 (C i)) (h : Rd w 1 A n es) (hp : Rd w 10 P m ps) (hq : RdC w Q q C) (ht : Rd w 1 T t ts) (hj : Rd w 1 J j js)
    (g1 : Rd w 1 A2 n es) (g2 : Rd w 10 P2 m ps) (g3 : RdC w Q2 q C2) (g4 : Rd w 1 T2 t ts) (g5 : Rd w 1 J2 j js) (he : ∀ i, i < q → SamC (C i) (C2 i)) :
    Calls Try.prog 8 #[.agg #[.slice A n c, .int .i64 (r 1), .int .i64 (r 2), .int .i64 (r 3), .int .i64 (r 4), .int .i64 (r 5), .int .i64 (r 6), .int .i64 (r 7), .int .i64 (r 8), .int .i64 (u 0), .int .i64 (u 1), .slice P m pc, .slice Q q qc, .slice T t tc, .slice J j jc], .agg #[.slice A2 n c2, .int .i64 (r 1), .int .i64 (r 2), .int .i64 (r 3), .int .i64 (r 4), .int .i64 (r 5), .int .i64 (r 6), .int .i64 (r 7), .int .i64 (r 8), .int .i64 (u 0), .int .i64 (u 1), .slice P2 m pc2, .slice Q2 q qc2, .slice T2 t tc2, .slice J2 j jc2]] w fun x w' => x = .returned (.bool true) ∧ Below w.heap.size w w' := by
  have H := Lib.hid h
  have HP := Lib.hid hp
  have HQ := Lib.hid hq
  have HT := Lib.hid ht
  have HJ := Lib.hid hj
  clear h hp hq ht hj
  have G := Lib.hid g1
  have GP := Lib.hid g2
  have GQ := Lib.hid g3
  have GT := Lib.hid g4
  have GJ := Lib.hid g5
  have HS := Lib.hid hs
  have HE := Lib.hid he
  clear g1 g2 g3 g4 g5 hs he
  go_enter Try.func8, Try.ntmps8
  go_wp2_with fail
  refine (eqRules_same A A2 n c c2 es r _ hn (H.out.below (by (repeat (first | with_reducible exact Below.refl _ _ | with_reducible refine Below.drew ?_ | with_reducible refine below_drewN ?_ _ | (with_reducible refine bel_alloc ?_ ?_ _; (first | omega | (simp; omega) | simp)) | (with_reducible refine bel_set ?_ ?_ _; (first | omega | (simp; omega) | simp)) | (with_reducible refine bel_tr (by assumption) ?_ ?_; (first | omega | (simp; omega) | simp)))))) (G.out.below (by (repeat (first | with_reducible exact Below.refl _ _ | with_reducible refine Below.drew ?_ | with_reducible refine below_drewN ?_ _ | (with_reducible refine bel_alloc ?_ ?_ _; (first | omega | (simp; omega) | simp)) | (with_reducible refine bel_set ?_ ?_ _; (first | omega | (simp; omega) | simp)) | (with_reducible refine bel_tr (by assumption) ?_ ?_; (first | omega | (simp; omega) | simp))))))).mono ?_
  rintro y w1 ⟨rfl, hb1⟩
  have bc1 := bcell hb1; obtain ⟨hc1, hf1⟩ := bc1; have ks1 := hb1.size; (try simp at ks1); have kc10 : ∀ o, w1.cell? ⟨w.heap.size, o, none⟩ = _ := (fun o => hb1.cell (p := ⟨w.heap.size, o, none⟩) (by (first | omega | (simp; omega) | simp))); have kf10 : ∀ o, w1.frozen? ⟨w.heap.size, o, none⟩ = _ := (fun o => hb1.frozen (p := ⟨w.heap.size, o, none⟩) (by (first | omega | (simp; omega) | simp))); have kc11 : ∀ o, w1.cell? ⟨w.heap.size + 1, o, none⟩ = _ := (fun o => hb1.cell (p := ⟨w.heap.size + 1, o, none⟩) (by (first | omega | (simp; omega) | simp))); have kf11 : ∀ o, w1.frozen? ⟨w.heap.size + 1, o, none⟩ = _ := (fun o => hb1.frozen (p := ⟨w.heap.size + 1, o, none⟩) (by (first | omega | (simp; omega) | simp))); have kz10 : w.heap.size < w1.heap.size := (by have hh := hb1.size; (try simp at hh); omega); have kz11 : w.heap.size + 1 < w1.heap.size := (by have hh := hb1.size; (try simp at hh); omega)
  go_wp2_with fail
  refine (eqPartyS_same P P2 m pc pc2 ps _ hm (HP.out.below (by (repeat (first | with_reducible exact Below.refl _ _ | with_reducible refine Below.drew ?_ | with_reducible refine below_drewN ?_ _ | (with_reducible refine bel_alloc ?_ ?_ _; (first | omega | (simp; omega) | simp)) | (with_reducible refine bel_set ?_ ?_ _; (first | omega | (simp; omega) | simp)) | (with_reducible refine bel_tr (by assumption) ?_ ?_; (first | omega | (simp; omega) | simp)))))) (GP.out.below (by (repeat (first | with_reducible exact Below.refl _ _ | with_reducible refine Below.drew ?_ | with_reducible refine below_drewN ?_ _ | (with_reducible refine bel_alloc ?_ ?_ _; (first | omega | (simp; omega) | simp)) | (with_reducible refine bel_set ?_ ?_ _; (first | omega | (simp; omega) | simp)) | (with_reducible refine bel_tr (by assumption) ?_ ?_; (first | omega | (simp; omega) | simp))))))).mono ?_
  rintro y w2 ⟨rfl, hb2⟩
  have bc2 := bcell hb2; obtain ⟨hc2, hf2⟩ := bc2; have ks2 := hb2.size; (try simp at ks2); have kc20 : ∀ o, w2.cell? ⟨w.heap.size, o, none⟩ = _ := (fun o => hb2.cell (p := ⟨w.heap.size, o, none⟩) (by (first | omega | (simp; omega) | simp))); have kf20 : ∀ o, w2.frozen? ⟨w.heap.size, o, none⟩ = _ := (fun o => hb2.frozen (p := ⟨w.heap.size, o, none⟩) (by (first | omega | (simp; omega) | simp))); have kc21 : ∀ o, w2.cell? ⟨w.heap.size + 1, o, none⟩ = _ := (fun o => hb2.cell (p := ⟨w.heap.size + 1, o, none⟩) (by (first | omega | (simp; omega) | simp))); have kf21 : ∀ o, w2.frozen? ⟨w.heap.size + 1, o, none⟩ = _ := (fun o => hb2.frozen (p := ⟨w.heap.size + 1, o, none⟩) (by (first | omega | (simp; omega) | simp))); have kz20 : w.heap.size < w2.heap.size := (by have hh := hb2.size; (try simp at hh); omega); have kz21 : w.heap.size + 1 < w2.heap.size := (by have hh := hb2.size; (try simp at hh); omega)
  go_wp2_with fail
  refine (eqCabinS_same Q Q2 q qc qc2 C C2 _ hq0 HS.out (HQ.out.below (by (repeat (first | with_reducible exact Below.refl _ _ | with_reducible refine Below.drew ?_ | with_reducible refine below_drewN ?_ _ | (with_reducible refine bel_alloc ?_ ?_ _; (first | omega | (simp; omega) | simp)) | (with_reducible refine bel_set ?_ ?_ _; (first | omega | (simp; omega) | simp)) | (with_reducible refine bel_tr (by assumption) ?_ ?_; (first | omega | (simp; omega) | simp)))))) (GQ.out.below (by (repeat (first | with_reducible exact Below.refl _ _ | with_reducible refine Below.drew ?_ | with_reducible refine below_drewN ?_ _ | (with_reducible refine bel_alloc ?_ ?_ _; (first | omega | (simp; omega) | simp)) | (with_reducible refine bel_set ?_ ?_ _; (first | omega | (simp; omega) | simp)) | (with_reducible refine bel_tr (by assumption) ?_ ?_; (first | omega | (simp; omega) | simp)))))) HE.out).mono ?_
  rintro y w3 ⟨rfl, hb3⟩
  have bc3 := bcell hb3; obtain ⟨hc3, hf3⟩ := bc3; have ks3 := hb3.size; (try simp at ks3); have kc30 : ∀ o, w3.cell? ⟨w.heap.size, o, none⟩ = _ := (fun o => hb3.cell (p := ⟨w.heap.size, o, none⟩) (by (first | omega | (simp; omega) | simp))); have kf30 : ∀ o, w3.frozen? ⟨w.heap.size, o, none⟩ = _ := (fun o => hb3.frozen (p := ⟨w.heap.size, o, none⟩) (by (first | omega | (simp; omega) | simp))); have kc31 : ∀ o, w3.cell? ⟨w.heap.size + 1, o, none⟩ = _ := (fun o => hb3.cell (p := ⟨w.heap.size + 1, o, none⟩) (by (first | omega | (simp; omega) | simp))); have kf31 : ∀ o, w3.frozen? ⟨w.heap.size + 1, o, none⟩ = _ := (fun o => hb3.frozen (p := ⟨w.heap.size + 1, o, none⟩) (by (first | omega | (simp; omega) | simp))); have kz30 : w.heap.size < w3.heap.size := (by have hh := hb3.size; (try simp at hh); omega); have kz31 : w.heap.size + 1 < w3.heap.size := (by have hh := hb3.size; (try simp at hh); omega)
  go_wp2_with fail
  refine (eqIntS_same T T2 t tc tc2 ts _ ht0 (HT.out.below (by (repeat (first | with_reducible exact Below.refl _ _ | with_reducible refine Below.drew ?_ | with_reducible refine below_drewN ?_ _ | (with_reducible refine bel_alloc ?_ ?_ _; (first | omega | (simp; omega) | simp)) | (with_reducible refine bel_set ?_ ?_ _; (first | omega | (simp; omega) | simp)) | (with_reducible refine bel_tr (by assumption) ?_ ?_; (first | omega | (simp; omega) | simp)))))) (GT.out.below (by (repeat (first | with_reducible exact Below.refl _ _ | with_reducible refine Below.drew ?_ | with_reducible refine below_drewN ?_ _ | (with_reducible refine bel_alloc ?_ ?_ _; (first | omega | (simp; omega) | simp)) | (with_reducible refine bel_set ?_ ?_ _; (first | omega | (simp; omega) | simp)) | (with_reducible refine bel_tr (by assumption) ?_ ?_; (first | omega | (simp; omega) | simp))))))).mono ?_
  rintro y w4 ⟨rfl, hb4⟩
  have bc4 := bcell hb4; obtain ⟨hc4, hf4⟩ := bc4; have ks4 := hb4.size; (try simp at ks4); have kc40 : ∀ o, w4.cell? ⟨w.heap.size, o, none⟩ = _ := (fun o => hb4.cell (p := ⟨w.heap.size, o, none⟩) (by (first | omega | (simp; omega) | simp))); have kf40 : ∀ o, w4.frozen? ⟨w.heap.size, o, none⟩ = _ := (fun o => hb4.frozen (p := ⟨w.heap.size, o, none⟩) (by (first | omega | (simp; omega) | simp))); have kc41 : ∀ o, w4.cell? ⟨w.heap.size + 1, o, none⟩ = _ := (fun o => hb4.cell (p := ⟨w.heap.size + 1, o, none⟩) (by (first | omega | (simp; omega) | simp))); have kf41 : ∀ o, w4.frozen? ⟨w.heap.size + 1, o, none⟩ = _ := (fun o => hb4.frozen (p := ⟨w.heap.size + 1, o, none⟩) (by (first | omega | (simp; omega) | simp))); have kz40 : w.heap.size < w4.heap.size := (by have hh := hb4.size; (try simp at hh); omega); have kz41 : w.heap.size + 1 < w4.heap.size := (by have hh := hb4.size; (try simp at hh); omega)
  go_wp2_with fail
  refine (eqIntS_same J J2 j jc jc2 js _ hj0 (HJ.out.below (by (repeat (first | with_reducible exact Below.refl _ _ | with_reducible refine Below.drew ?_ | with_reducible refine below_drewN ?_ _ | (with_reducible refine bel_alloc ?_ ?_ _; (first | omega | (simp; omega) | simp)) | (with_reducible refine bel_set ?_ ?_ _; (first | omega | (simp; omega) | simp)) | (with_reducible refine bel_tr (by assumption) ?_ ?_; (first | omega | (simp; omega) | simp)))))) (GJ.out.below (by (repeat (first | with_reducible exact Below.refl _ _ | with_reducible refine Below.drew ?_ | with_reducible refine below_drewN ?_ _ | (with_reducible refine bel_alloc ?_ ?_ _; (first | omega | (simp; omega) | simp)) | (with_reducible refine bel_set ?_ ?_ _; (first | omega | (simp; omega) | simp)) | (with_reducible refine bel_tr (by assumption) ?_ ?_; (first | omega | (simp; omega) | simp))))))).mono ?_
  rintro y w5 ⟨rfl, hb5⟩
  have bc5 := bcell hb5; obtain ⟨hc5, hf5⟩ := bc5; have ks5 := hb5.size; (try simp at ks5); have kc50 : ∀ o, w5.cell? ⟨w.heap.size, o, none⟩ = _ := (fun o => hb5.cell (p := ⟨w.heap.size, o, none⟩) (by (first | omega | (simp; omega) | simp))); have kf50 : ∀ o, w5.frozen? ⟨w.heap.size, o, none⟩ = _ := (fun o => hb5.frozen (p := ⟨w.heap.size, o, none⟩) (by (first | omega | (simp; omega) | simp))); have kc51 : ∀ o, w5.cell? ⟨w.heap.size + 1, o, none⟩ = _ := (fun o => hb5.cell (p := ⟨w.heap.size + 1, o, none⟩) (by (first | omega | (simp; omega) | simp))); have kf51 : ∀ o, w5.frozen? ⟨w.heap.size + 1, o, none⟩ = _ := (fun o => hb5.frozen (p := ⟨w.heap.size + 1, o, none⟩) (by (first | omega | (simp; omega) | simp))); have kz50 : w.heap.size < w5.heap.size := (by have hh := hb5.size; (try simp at hh); omega); have kz51 : w.heap.size + 1 < w5.heap.size := (by have hh := hb5.size; (try simp at hh); omega)
  go_wp2
  go_ret
  exact ⟨rfl, by (repeat (first | with_reducible exact Below.refl _ _ | with_reducible refine Below.drew ?_ | with_reducible refine below_drewN ?_ _ | (with_reducible refine bel_alloc ?_ ?_ _; (first | omega | (simp; omega) | simp)) | (with_reducible refine bel_set ?_ ?_ _; (first | omega | (simp; omega) | simp)) | (with_reducible refine bel_tr (by assumption) ?_ ?_; (first | omega | (simp; omega) | simp))))⟩
end Go.Proofs.Ytcicldcgibgnfaa
