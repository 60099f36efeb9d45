/-
  Contracts of LevelOf and EntryOf, of the program and of the reference. No conditions beyond those stated.
-/
import Derived.Test.YtccabkmmlddenaaPa
namespace Go.Proofs.Ytccabkmmlddenaa
open Go.RowKit

/-- The level: the tier less the periods waited, at least 0. -/
def lvlV (r p : Nat → Int) (now : Int) : Int := if p 4 - (now - p 5) / r 4 < 0 then 0 else p 4 - (now - p 5) / r 4
theorem POk.lv {n : Nat} {es : List (Nat → Int)} {r p : Nat → Int} {now : Int} (h : POk n es r p now) :
    1 ≤ r 4 ∧ r 4 ≤ 12 ∧ 0 ≤ now - p 5 ∧ now - p 5 ≤ 1000000 ∧ 0 ≤ now ∧ now ≤ 1000000 ∧ 0 ≤ p 5 ∧ p 5 ≤ 1000000 ∧ 0 ≤ p 4 ∧ p 4 ≤ 4 ∧ 0 ≤ (now - p 5) / r 4 ∧ (now - p 5) / r 4 ≤ 1000000 ∧ r 1 ≤ 5 ∧ p 4 ≤ r 1 - 1 ∧ 1 ≤ r 1 := by
  have h1 := h.1.ints
  have h2 := h.2
  unfold PInts at h2
  have h3 : 0 ≤ now - p 5 := by omega
  have h4 : 0 ≤ (now - p 5) / r 4 := Int.ediv_nonneg h3 (by omega)
  have h5 : (now - p 5) / r 4 ≤ now - p 5 := Int.ediv_le_self _ h3
  omega
theorem lvlV_lo {n : Nat} {es : List (Nat → Int)} {r p : Nat → Int} {now : Int} (h : POk n es r p now) : 0 ≤ lvlV r p now ∧ lvlV r p now ≤ 4 := by
  have := h.lv
  unfold lvlV
  split <;> omega
def LVP (P : Prop) (v : Int) (w : World) (e : Ending) (w' : World) : Prop := (e = .returned (.int .i64 v) ∧ P ∧ Below w.heap.size w w') ∨ (e = .returned (.int .i64 (-1)) ∧ ¬ P ∧ Below w.heap.size w w')

set_option maxHeartbeats 400000 in
theorem l1Max_any (a b : Int) (w : World) :
    Calls Try.prog 78 #[.int .i64 a, .int .i64 b] w fun x w' => x = .returned (.int .i64 (if b < a then a else b)) ∧ w = w' := by
  by_cases h : b < a
  · rw [if_pos h]
    go_enter Try.func78, Try.ntmps78
    go_wp2
    go_ret
    exact ⟨rfl, rfl⟩
  · rw [if_neg h]
    go_enter Try.func78, Try.ntmps78
    go_wp2
    go_ret
    exact ⟨rfl, rfl⟩

set_option maxHeartbeats 1000000 in
theorem l5Level_any (A : Option Addr) (n c : Nat) (r p : Nat → Int) (now : Int) (es : List (Nat → Int)) (w : World) (hP : POk n es r p now) :
    Calls Try.prog 66 #[.agg #[.slice A n c, .int .i64 (r 1), .int .i64 (r 2), .int .i64 (r 3), .int .i64 (r 4), .int .i64 (r 5), .int .i64 (r 6), .int .i64 (r 7), .int .i64 (r 8)], .int .i64 (p 4), .int .i64 (now - p 5)] w fun x w' => x = .returned (.int .i64 (lvlV r p now)) ∧ Below w.heap.size w w' := by
  obtain ⟨q1, q2, q3, q4, q5, q6, q7, q8, q9, q10, q11, q12, q13, q14, q15⟩ := hP.lv
  have HM := Lib.hid (l1Max_any 0 (p 4 - (now - p 5) / r 4))
  have HV : Hid (lvlV r p now = if p 4 - (now - p 5) / r 4 < 0 then 0 else p 4 - (now - p 5) / r 4) := rfl
  clear hP
  go_enter Try.func66, Try.ntmps66
  go_wp2_with fail
  refine (HM.out _).mono ?_
  rintro x w1 ⟨rfl, rfl⟩
  rw [← HV.out]
  go_wp2
  go_ret
  refine ⟨rfl, ?_⟩
  (repeat (first | with_reducible exact Below.refl _ _ | with_reducible refine Below.drew ?_ | with_reducible refine below_drewN ?_ _ | (with_reducible refine bel_alloc ?_ ?_ _; (first | omega | (simp; omega) | simp)) | (with_reducible refine bel_set ?_ ?_ _; (first | omega | (simp; omega) | simp)) | (with_reducible refine bel_tr (by assumption) ?_ ?_; (first | omega | (simp; omega) | simp))))

set_option maxHeartbeats 1000000 in
theorem spec_LevelOf (A : Option Addr) (n c : Nat) (es : List (Nat → Int)) (r p : Nat → Int) (now : Int) (w : World) (hn : n ≤ 4194304) (h : Rd w 1 A n es) :
    Calls Try.prog 47 #[.agg #[.slice A n c, .int .i64 (r 1), .int .i64 (r 2), .int .i64 (r 3), .int .i64 (r 4), .int .i64 (r 5), .int .i64 (r 6), .int .i64 (r 7), .int .i64 (r 8)], .agg #[.int .i64 (p 0), .int .i64 (p 1), .int .i64 (p 2), .int .i64 (p 3), .int .i64 (p 4), .int .i64 (p 5), .int .i64 (p 6), .int .i64 (p 7), .int .i64 (p 8), .int .i64 (p 9)], .int .i64 now] w (LVP (POk n es r p now) (lvlV r p now) w) := by
  have H := Lib.hid h
  clear h
  by_cases hP : POk n es r p now
  · obtain ⟨q1, q2, q3, q4, q5, q6, q7, q8, q9, q10, q11, q12, q13, q14, q15⟩ := hP.lv
    go_enter Try.func47, Try.ntmps47
    go_wp2_with (first
      | (go_at_call 65; refine (ty (spec_PartyOk _ _ _ es _ _ _ _ hn (H.out.below (by (repeat (first | with_reducible exact Below.refl _ _ | with_reducible refine Below.drew ?_ | with_reducible refine below_drewN ?_ _ | (with_reducible refine bel_alloc ?_ ?_ _; (first | omega | (simp; omega) | simp)) | (with_reducible refine bel_set ?_ ?_ _; (first | omega | (simp; omega) | simp)) | (with_reducible refine bel_tr (by assumption) ?_ ?_; (first | omega | (simp; omega) | simp))))))) hP).mono ?_; rintro e w1 ⟨rfl, hb1⟩; have bc1 := bcell hb1; obtain ⟨hc1, hf1⟩ := bc1; have ks1 := hb1.size; (try simp at ks1); have kc10 : ∀ o, w1.cell? ⟨w.heap.size, o, none⟩ = _ := (fun o => hb1.cell (p := ⟨w.heap.size, o, none⟩) (by (first | omega | (simp; omega) | simp))); have kf10 : ∀ o, w1.frozen? ⟨w.heap.size, o, none⟩ = _ := (fun o => hb1.frozen (p := ⟨w.heap.size, o, none⟩) (by (first | omega | (simp; omega) | simp))); have kc11 : ∀ o, w1.cell? ⟨w.heap.size + 1, o, none⟩ = _ := (fun o => hb1.cell (p := ⟨w.heap.size + 1, o, none⟩) (by (first | omega | (simp; omega) | simp))); have kf11 : ∀ o, w1.frozen? ⟨w.heap.size + 1, o, none⟩ = _ := (fun o => hb1.frozen (p := ⟨w.heap.size + 1, o, none⟩) (by (first | omega | (simp; omega) | simp))); have kz10 : w.heap.size < w1.heap.size := (by have hh := hb1.size; (try simp at hh); omega); have kz11 : w.heap.size + 1 < w1.heap.size := (by have hh := hb1.size; (try simp at hh); omega))
      | (go_at_call 66; refine (l5Level_any _ _ _ _ p now es _ hP).mono ?_; rintro e w2 ⟨rfl, hb2⟩))
    go_ret
    exact .inl ⟨rfl, hP, by (repeat (first | with_reducible exact Below.refl _ _ | with_reducible refine Below.drew ?_ | with_reducible refine below_drewN ?_ _ | (with_reducible refine bel_alloc ?_ ?_ _; (first | omega | (simp; omega) | simp)) | (with_reducible refine bel_set ?_ ?_ _; (first | omega | (simp; omega) | simp)) | (with_reducible refine bel_tr (by assumption) ?_ ?_; (first | omega | (simp; omega) | simp))))⟩
  · go_enter Try.func47, Try.ntmps47
    go_wp2_with (go_at_call 65; refine (tn (spec_PartyOk _ _ _ es _ _ _ _ hn (H.out.below (by (repeat (first | with_reducible exact Below.refl _ _ | with_reducible refine Below.drew ?_ | with_reducible refine below_drewN ?_ _ | (with_reducible refine bel_alloc ?_ ?_ _; (first | omega | (simp; omega) | simp)) | (with_reducible refine bel_set ?_ ?_ _; (first | omega | (simp; omega) | simp)) | (with_reducible refine bel_tr (by assumption) ?_ ?_; (first | omega | (simp; omega) | simp))))))) hP).mono ?_; rintro e w1 ⟨rfl, hb1⟩; have bc1 := bcell hb1; obtain ⟨hc1, hf1⟩ := bc1; have ks1 := hb1.size; (try simp at ks1); have kc10 : ∀ o, w1.cell? ⟨w.heap.size, o, none⟩ = _ := (fun o => hb1.cell (p := ⟨w.heap.size, o, none⟩) (by (first | omega | (simp; omega) | simp))); have kf10 : ∀ o, w1.frozen? ⟨w.heap.size, o, none⟩ = _ := (fun o => hb1.frozen (p := ⟨w.heap.size, o, none⟩) (by (first | omega | (simp; omega) | simp))); have kc11 : ∀ o, w1.cell? ⟨w.heap.size + 1, o, none⟩ = _ := (fun o => hb1.cell (p := ⟨w.heap.size + 1, o, none⟩) (by (first | omega | (simp; omega) | simp))); have kf11 : ∀ o, w1.frozen? ⟨w.heap.size + 1, o, none⟩ = _ := (fun o => hb1.frozen (p := ⟨w.heap.size + 1, o, none⟩) (by (first | omega | (simp; omega) | simp))); have kz10 : w.heap.size < w1.heap.size := (by have hh := hb1.size; (try simp at hh); omega); have kz11 : w.heap.size + 1 < w1.heap.size := (by have hh := hb1.size; (try simp at hh); omega))
    go_ret
    exact .inr ⟨rfl, hP, by (repeat (first | with_reducible exact Below.refl _ _ | with_reducible refine Below.drew ?_ | with_reducible refine below_drewN ?_ _ | (with_reducible refine bel_alloc ?_ ?_ _; (first | omega | (simp; omega) | simp)) | (with_reducible refine bel_set ?_ ?_ _; (first | omega | (simp; omega) | simp)) | (with_reducible refine bel_tr (by assumption) ?_ ?_; (first | omega | (simp; omega) | simp))))⟩

set_option maxHeartbeats 1000000 in
theorem impl_Level (A : Option Addr) (n c : Nat) (r p : Nat → Int) (now : Int) (es : List (Nat → Int)) (w : World) (hn : n ≤ 4194304) (h : Rd w 1 A n es) (hP : POk n es r p now) :
    Calls Try.prog 68 #[.agg #[.slice A n c, .int .i64 (r 1), .int .i64 (r 2), .int .i64 (r 3), .int .i64 (r 4), .int .i64 (r 5), .int .i64 (r 6), .int .i64 (r 7), .int .i64 (r 8)], .int .i64 (p 4), .int .i64 (now - p 5)] w fun x w' => x = .returned (.int .i64 (lvlV r p now)) ∧ Below w.heap.size w w' := by
  obtain ⟨q1, q2, q3, q4, q5, q6, q7, q8, q9, q10, q11, q12, q13, q14, q15⟩ := hP.lv
  have H := Lib.hid h
  have hR := hP.1
  clear h
  by_cases hx : p 4 - (now - p 5) / r 4 < 0
  · rw [show lvlV r p now = 0 from by unfold lvlV; rw [if_pos hx]]
    clear hP
    go_enter Try.func68, Try.ntmps68
    go_wp2_with (first
      | (go_at_call 67; refine (ty (impl_RulesOk _ _ _ es _ _ hn (H.out.below (by (repeat (first | with_reducible exact Below.refl _ _ | with_reducible refine Below.drew ?_ | with_reducible refine below_drewN ?_ _ | (with_reducible refine bel_alloc ?_ ?_ _; (first | omega | (simp; omega) | simp)) | (with_reducible refine bel_set ?_ ?_ _; (first | omega | (simp; omega) | simp)) | (with_reducible refine bel_tr (by assumption) ?_ ?_; (first | omega | (simp; omega) | simp))))))) hR).mono ?_; rintro e w1 ⟨rfl, hb1⟩; have bc1 := bcell hb1; obtain ⟨hc1, hf1⟩ := bc1; have ks1 := hb1.size; (try simp at ks1); have kc10 : ∀ o, w1.cell? ⟨w.heap.size, o, none⟩ = _ := (fun o => hb1.cell (p := ⟨w.heap.size, o, none⟩) (by (first | omega | (simp; omega) | simp))); have kf10 : ∀ o, w1.frozen? ⟨w.heap.size, o, none⟩ = _ := (fun o => hb1.frozen (p := ⟨w.heap.size, o, none⟩) (by (first | omega | (simp; omega) | simp))); have kz10 : w.heap.size < w1.heap.size := (by have hh := hb1.size; (try simp at hh); omega))
      | (go_at_call 57; refine (sy (isIndex_any _ _ _ (by omega) (by omega)) ⟨by omega, by omega⟩).mono ?_; rintro e w2 ⟨rfl, rfl⟩))
    all_goals go_ret
    all_goals exact ⟨by first | rfl | (simp; done) | (simp; omega), by (repeat (first | with_reducible exact Below.refl _ _ | with_reducible refine Below.drew ?_ | with_reducible refine below_drewN ?_ _ | (with_reducible refine bel_alloc ?_ ?_ _; (first | omega | (simp; omega) | simp)) | (with_reducible refine bel_set ?_ ?_ _; (first | omega | (simp; omega) | simp)) | (with_reducible refine bel_tr (by assumption) ?_ ?_; (first | omega | (simp; omega) | simp))))⟩
  · rw [show lvlV r p now = p 4 - (now - p 5) / r 4 from by unfold lvlV; rw [if_neg hx]]
    have hx : 0 ≤ p 4 - (now - p 5) / r 4 := by omega
    clear hP
    go_enter Try.func68, Try.ntmps68
    go_wp2_with (first
      | (go_at_call 67; refine (ty (impl_RulesOk _ _ _ es _ _ hn (H.out.below (by (repeat (first | with_reducible exact Below.refl _ _ | with_reducible refine Below.drew ?_ | with_reducible refine below_drewN ?_ _ | (with_reducible refine bel_alloc ?_ ?_ _; (first | omega | (simp; omega) | simp)) | (with_reducible refine bel_set ?_ ?_ _; (first | omega | (simp; omega) | simp)) | (with_reducible refine bel_tr (by assumption) ?_ ?_; (first | omega | (simp; omega) | simp))))))) hR).mono ?_; rintro e w1 ⟨rfl, hb1⟩; have bc1 := bcell hb1; obtain ⟨hc1, hf1⟩ := bc1; have ks1 := hb1.size; (try simp at ks1); have kc10 : ∀ o, w1.cell? ⟨w.heap.size, o, none⟩ = _ := (fun o => hb1.cell (p := ⟨w.heap.size, o, none⟩) (by (first | omega | (simp; omega) | simp))); have kf10 : ∀ o, w1.frozen? ⟨w.heap.size, o, none⟩ = _ := (fun o => hb1.frozen (p := ⟨w.heap.size, o, none⟩) (by (first | omega | (simp; omega) | simp))); have kz10 : w.heap.size < w1.heap.size := (by have hh := hb1.size; (try simp at hh); omega))
      | (go_at_call 57; refine (sy (isIndex_any _ _ _ (by omega) (by omega)) ⟨by omega, by omega⟩).mono ?_; rintro e w2 ⟨rfl, rfl⟩))
    all_goals go_ret
    all_goals exact ⟨by first | rfl | (simp; done) | (simp; omega), by (repeat (first | with_reducible exact Below.refl _ _ | with_reducible refine Below.drew ?_ | with_reducible refine below_drewN ?_ _ | (with_reducible refine bel_alloc ?_ ?_ _; (first | omega | (simp; omega) | simp)) | (with_reducible refine bel_set ?_ ?_ _; (first | omega | (simp; omega) | simp)) | (with_reducible refine bel_tr (by assumption) ?_ ?_; (first | omega | (simp; omega) | simp))))⟩

set_option maxHeartbeats 1000000 in
theorem impl_LevelOf (A : Option Addr) (n c : Nat) (es : List (Nat → Int)) (r p : Nat → Int) (now : Int) (w : World) (hn : n ≤ 4194304) (h : Rd w 1 A n es) :
    Calls Try.prog 49 #[.agg #[.slice A n c, .int .i64 (r 1), .int .i64 (r 2), .int .i64 (r 3), .int .i64 (r 4), .int .i64 (r 5), .int .i64 (r 6), .int .i64 (r 7), .int .i64 (r 8)], .agg #[.int .i64 (p 0), .int .i64 (p 1), .int .i64 (p 2), .int .i64 (p 3), .int .i64 (p 4), .int .i64 (p 5), .int .i64 (p 6), .int .i64 (p 7), .int .i64 (p 8), .int .i64 (p 9)], .int .i64 now] w (LVP (POk n es r p now) (lvlV r p now) w) := by
  have H := Lib.hid h
  clear h
  by_cases hP : POk n es r p now
  · obtain ⟨q1, q2, q3, q4, q5, q6, q7, q8, q9, q10, q11, q12, q13, q14, q15⟩ := hP.lv
    go_enter Try.func49, Try.ntmps49
    go_wp2_with (first
      | (go_at_call 48; refine (ty (impl_PartyOk _ _ _ es _ _ _ _ hn (H.out.below (by (repeat (first | with_reducible exact Below.refl _ _ | with_reducible refine Below.drew ?_ | with_reducible refine below_drewN ?_ _ | (with_reducible refine bel_alloc ?_ ?_ _; (first | omega | (simp; omega) | simp)) | (with_reducible refine bel_set ?_ ?_ _; (first | omega | (simp; omega) | simp)) | (with_reducible refine bel_tr (by assumption) ?_ ?_; (first | omega | (simp; omega) | simp))))))) hP).mono ?_; rintro e w1 ⟨rfl, hb1⟩; have bc1 := bcell hb1; obtain ⟨hc1, hf1⟩ := bc1; have ks1 := hb1.size; (try simp at ks1); have kc10 : ∀ o, w1.cell? ⟨w.heap.size, o, none⟩ = _ := (fun o => hb1.cell (p := ⟨w.heap.size, o, none⟩) (by (first | omega | (simp; omega) | simp))); have kf10 : ∀ o, w1.frozen? ⟨w.heap.size, o, none⟩ = _ := (fun o => hb1.frozen (p := ⟨w.heap.size, o, none⟩) (by (first | omega | (simp; omega) | simp))); have kc11 : ∀ o, w1.cell? ⟨w.heap.size + 1, o, none⟩ = _ := (fun o => hb1.cell (p := ⟨w.heap.size + 1, o, none⟩) (by (first | omega | (simp; omega) | simp))); have kf11 : ∀ o, w1.frozen? ⟨w.heap.size + 1, o, none⟩ = _ := (fun o => hb1.frozen (p := ⟨w.heap.size + 1, o, none⟩) (by (first | omega | (simp; omega) | simp))); have kz10 : w.heap.size < w1.heap.size := (by have hh := hb1.size; (try simp at hh); omega); have kz11 : w.heap.size + 1 < w1.heap.size := (by have hh := hb1.size; (try simp at hh); omega))
      | (go_at_call 68; refine (impl_Level _ _ _ _ p now es _ hn (H.out.below (by (repeat (first | with_reducible exact Below.refl _ _ | with_reducible refine Below.drew ?_ | with_reducible refine below_drewN ?_ _ | (with_reducible refine bel_alloc ?_ ?_ _; (first | omega | (simp; omega) | simp)) | (with_reducible refine bel_set ?_ ?_ _; (first | omega | (simp; omega) | simp)) | (with_reducible refine bel_tr (by assumption) ?_ ?_; (first | omega | (simp; omega) | simp)))))) hP).mono ?_; rintro e w2 ⟨rfl, hb2⟩))
    go_ret
    exact .inl ⟨rfl, hP, by (repeat (first | with_reducible exact Below.refl _ _ | with_reducible refine Below.drew ?_ | with_reducible refine below_drewN ?_ _ | (with_reducible refine bel_alloc ?_ ?_ _; (first | omega | (simp; omega) | simp)) | (with_reducible refine bel_set ?_ ?_ _; (first | omega | (simp; omega) | simp)) | (with_reducible refine bel_tr (by assumption) ?_ ?_; (first | omega | (simp; omega) | simp))))⟩
  · go_enter Try.func49, Try.ntmps49
    go_wp2_with (go_at_call 48; refine (tn (impl_PartyOk _ _ _ es _ _ _ _ hn (H.out.below (by (repeat (first | with_reducible exact Below.refl _ _ | with_reducible refine Below.drew ?_ | with_reducible refine below_drewN ?_ _ | (with_reducible refine bel_alloc ?_ ?_ _; (first | omega | (simp; omega) | simp)) | (with_reducible refine bel_set ?_ ?_ _; (first | omega | (simp; omega) | simp)) | (with_reducible refine bel_tr (by assumption) ?_ ?_; (first | omega | (simp; omega) | simp))))))) hP).mono ?_; rintro e w1 ⟨rfl, hb1⟩; have bc1 := bcell hb1; obtain ⟨hc1, hf1⟩ := bc1; have ks1 := hb1.size; (try simp at ks1); have kc10 : ∀ o, w1.cell? ⟨w.heap.size, o, none⟩ = _ := (fun o => hb1.cell (p := ⟨w.heap.size, o, none⟩) (by (first | omega | (simp; omega) | simp))); have kf10 : ∀ o, w1.frozen? ⟨w.heap.size, o, none⟩ = _ := (fun o => hb1.frozen (p := ⟨w.heap.size, o, none⟩) (by (first | omega | (simp; omega) | simp))); have kc11 : ∀ o, w1.cell? ⟨w.heap.size + 1, o, none⟩ = _ := (fun o => hb1.cell (p := ⟨w.heap.size + 1, o, none⟩) (by (first | omega | (simp; omega) | simp))); have kf11 : ∀ o, w1.frozen? ⟨w.heap.size + 1, o, none⟩ = _ := (fun o => hb1.frozen (p := ⟨w.heap.size + 1, o, none⟩) (by (first | omega | (simp; omega) | simp))); have kz10 : w.heap.size < w1.heap.size := (by have hh := hb1.size; (try simp at hh); omega); have kz11 : w.heap.size + 1 < w1.heap.size := (by have hh := hb1.size; (try simp at hh); omega))
    go_ret
    exact .inr ⟨rfl, hP, by (repeat (first | with_reducible exact Below.refl _ _ | with_reducible refine Below.drew ?_ | with_reducible refine below_drewN ?_ _ | (with_reducible refine bel_alloc ?_ ?_ _; (first | omega | (simp; omega) | simp)) | (with_reducible refine bel_set ?_ ?_ _; (first | omega | (simp; omega) | simp)) | (with_reducible refine bel_tr (by assumption) ?_ ?_; (first | omega | (simp; omega) | simp))))⟩

end Go.Proofs.Ytccabkmmlddenaa
