/-
  Contracts of LevelOf and EntryOf, of the program and of the reference. No conditions beyond those stated.
-/
import Derived.Test.YtjlmcppkafjniaaGreatIs
namespace Go.Proofs.YtjlmcppkafjniaaGreat
open Go.RowKit

/-- The numbers of the rules are right: Tiers, Room, Size, Period, Window, Rest, Tries, Crew. -/
def RInts (r : Nat → Int) : Prop := (1 ≤ r 1 ∧ r 1 ≤ 5) ∧ (1 ≤ r 2 ∧ r 2 ≤ 10) ∧ (1 ≤ r 3 ∧ r 3 ≤ 6) ∧ (1 ≤ r 4 ∧ r 4 ≤ 12) ∧ (1 ≤ r 5 ∧ r 5 ≤ 8) ∧ (0 ≤ r 6 ∧ r 6 ≤ 8) ∧ (1 ≤ r 7 ∧ r 7 ≤ 4) ∧ (1 ≤ r 8 ∧ r 8 ≤ 3)
def ROk (n : Nat) (es : List (Nat → Int)) (r : Nat → Int) : Prop := ((1 : Int) ≤ n ∧ (n : Int) ≤ 4) ∧ RInts r ∧ ∀ i, i < n → 1 ≤ fld es i 0 ∧ fld es i 0 ≤ 60
theorem ROk.bd {n : Nat} {es : List (Nat → Int)} {r : Nat → Int} (h : ROk n es r) : ((1 : Int) ≤ n ∧ (n : Int) ≤ 4) ∧ RInts r := ⟨h.1, h.2.1⟩

set_option maxHeartbeats 2000000 in
theorem spec_RulesOk (A : Option Addr) (n c : Nat) (es : List (Nat → Int)) (r : Nat → Int) (w : World) (hn : n ≤ 4194304) (h : Rd w 1 A n es) :
    Calls Tryz.prog 146 #[.agg #[.slice A n c, .int .i64 (r 1), .int .i64 (r 2), .int .i64 (r 3), .int .i64 (r 4), .int .i64 (r 5), .int .i64 (r 6), .int .i64 (r 7), .int .i64 (r 8)]] w (TFB (ROk n es r) w) := by
  have hcases := h.2
  clear h
  go_enter Tryz.func146, Tryz.ntmps146
  go_wp2_with (go_at_call 44; refine (l1In_any _ _ _ _).mono ?_; rintro e w2 (⟨rfl, ⟨h1, h2⟩, rfl⟩ | ⟨rfl, h1, rfl⟩))
  all_goals try (go_ret; exact .inr ⟨rfl, (fun hh => by (obtain ⟨k1, k2⟩ := hh.bd; unfold RInts at k2; omega)), (Below.refl _ _).alloc (Nat.le_refl _) _⟩)
  go_loop [3] (fun i => ∃ k : Nat, k ≤ n ∧ i = .int .i64 k ∧ Hid (∀ i, i < k → 1 ≤ fld es i 0 ∧ fld es i 0 ≤ 60)) (fun i => n - (intOf i).toNat)
  case atStart => exact ⟨0, Nat.zero_le _, rfl, fun i hi => absurd hi (by omega)⟩
  case round =>
    obtain ⟨k, hk, rfl, hall⟩ := hrel
    by_cases hlt : k < n
    · obtain ⟨b, off, rfl, hb, hc⟩ := hcases.resolve_left (by omega)
      have c0 : w.cell? ⟨b, off + k, none⟩ = some (.int .i64 (fld es k 0)) := by simpa using hc k hlt 0 (by omega)
      clear hcases hc
      by_cases ht : 1 ≤ fld es k 0 ∧ fld es k 0 ≤ 60
      · have hall' : Hid (∀ i, i < k + 1 → 1 ≤ fld es i 0 ∧ fld es i 0 ≤ 60) := fun i hi => by
          rcases Nat.lt_or_ge i k with h | h
          · exact hall.out i h
          · obtain rfl : i = k := by omega
            exact ht
        clear hall
        go_wp2_with (go_at_call 44; refine (sy (l1In_any _ _ _ _) ht).mono ?_; rintro e w2 ⟨rfl, rfl⟩)
        go_round
        case rel => exact ⟨k + 1, by omega, by go_num, hall'⟩
        case measure => simp [intOf]; omega
      · go_wp2_with (go_at_call 44; refine (sn (l1In_any _ _ _ _) ht).mono ?_; rintro e w2 ⟨rfl, rfl⟩)
        go_ret
        exact .inr ⟨rfl, (fun hh => ht (hh.2.2 k hlt)), (Below.refl _ _).alloc (Nat.le_refl _) _⟩
    · have hkn : k = n := by omega
      subst hkn
      clear hcases
      go_wp2_with (go_at_call 44; refine (l1In_any _ _ _ _).mono ?_; rintro e w2 (⟨rfl, ⟨h1, h2⟩, rfl⟩ | ⟨rfl, h1, rfl⟩))
      all_goals go_ret
      all_goals first
        | exact .inr ⟨rfl, (fun hh => by (obtain ⟨k1, k2⟩ := hh.bd; unfold RInts at k2; omega)), (Below.refl _ _).alloc (Nat.le_refl _) _⟩
        | exact .inl ⟨rfl, ⟨by omega, by unfold RInts; omega, hall.out⟩, (Below.refl _ _).alloc (Nat.le_refl _) _⟩

set_option maxHeartbeats 2000000 in
theorem impl_RulesOk (A : Option Addr) (n c : Nat) (es : List (Nat → Int)) (r : Nat → Int) (w : World) (hn : n ≤ 4194304) (h : Rd w 1 A n es) :
    Calls Tryz.prog 120 #[.agg #[.slice A n c, .int .i64 (r 1), .int .i64 (r 2), .int .i64 (r 3), .int .i64 (r 4), .int .i64 (r 5), .int .i64 (r 6), .int .i64 (r 7), .int .i64 (r 8)]] w (TFB (ROk n es r) w) := by
  have hcases := h.2
  clear h
  go_enter Tryz.func120, Tryz.ntmps120
  go_wp2_with (go_at_call 76; refine (within_any _ _ _ _).mono ?_; rintro e w2 (⟨rfl, ⟨h1, h2⟩, rfl⟩ | ⟨rfl, h1, rfl⟩))
  all_goals try (go_ret; exact .inr ⟨rfl, (fun hh => by (obtain ⟨k1, k2⟩ := hh.bd; unfold RInts at k2; omega)), (Below.refl _ _).alloc (Nat.le_refl _) _⟩)
  go_loop [4, 13] (fun j i => ∃ k : Nat, k ≤ n ∧ i = .int .i64 k ∧ Hid (∀ i, i < k → 1 ≤ fld es i 0 ∧ fld es i 0 ≤ 60)) (fun _ i => n - (intOf i).toNat)
  case atStart => exact ⟨0, Nat.zero_le _, rfl, fun i hi => absurd hi (by omega)⟩
  case round =>
    obtain ⟨k, hk, rfl, hall⟩ := hrel
    by_cases hlt : k < n
    · obtain ⟨b, off, rfl, hb, hc⟩ := hcases.resolve_left (by omega)
      have c0 : w.cell? ⟨b, off + k, none⟩ = some (.int .i64 (fld es k 0)) := by simpa using hc k hlt 0 (by omega)
      clear hcases hc
      by_cases ht : 1 ≤ fld es k 0 ∧ fld es k 0 ≤ 60
      · have hall' : Hid (∀ i, i < k + 1 → 1 ≤ fld es i 0 ∧ fld es i 0 ≤ 60) := fun i hi => by
          rcases Nat.lt_or_ge i k with h | h
          · exact hall.out i h
          · obtain rfl : i = k := by omega
            exact ht
        clear hall
        go_wp2_with (go_at_call 76; refine (sy (within_any _ _ _ _) ht).mono ?_; rintro e w2 ⟨rfl, rfl⟩)
        go_round
        case rel => exact ⟨k + 1, by omega, by go_num, hall'⟩
        case measure => simp [intOf]; omega
      · go_wp2_with (go_at_call 76; refine (sn (within_any _ _ _ _) ht).mono ?_; rintro e w2 ⟨rfl, rfl⟩)
        go_ret
        exact .inr ⟨rfl, (fun hh => ht (hh.2.2 k hlt)), (Below.refl _ _).alloc (Nat.le_refl _) _⟩
    · have hkn : k = n := by omega
      subst hkn
      clear hcases
      go_wp2_with (go_at_call 76; refine (within_any _ _ _ _).mono ?_; rintro e w2 (⟨rfl, ⟨h1, h2⟩, rfl⟩ | ⟨rfl, h1, rfl⟩))
      all_goals go_ret
      all_goals first
        | exact .inr ⟨rfl, (fun hh => by (obtain ⟨k1, k2⟩ := hh.bd; unfold RInts at k2; omega)), (Below.refl _ _).alloc (Nat.le_refl _) _⟩
        | exact .inl ⟨rfl, ⟨by omega, by unfold RInts; omega, hall.out⟩, (Below.refl _ _).alloc (Nat.le_refl _) _⟩

end Go.Proofs.YtjlmcppkafjniaaGreat

namespace Go.Proofs.YtjlmcppkafjniaaGreat
open Go.RowKit

/-- The numbers of a party are right under the rules' numbers r, n cabins, at now. -/
def PInts (n : Nat) (r p : Nat → Int) (now : Int) : Prop :=
  (0 ≤ now ∧ now ≤ 1000000) ∧ (1 ≤ p 0 ∧ p 0 ≤ 999) ∧ (0 ≤ p 1 ∧ p 1 ≤ n - 1) ∧ (-1 ≤ p 2 ∧ p 2 ≤ n - 1) ∧ ¬ p 2 = p 1 ∧ (1 ≤ p 3 ∧ p 3 ≤ r 3) ∧ (0 ≤ p 4 ∧ p 4 ≤ r 1 - 1) ∧ (0 ≤ p 5 ∧ p 5 ≤ now) ∧ (1 ≤ p 6 ∧ p 6 ≤ 1000000) ∧ (0 ≤ p 9 ∧ p 9 ≤ r 7 - 1) ∧
  ((p 7 = 1 ∧ 0 ≤ p 8 ∧ p 8 ≤ now + r 6) ∨ (p 7 = 2 ∧ 1 ≤ p 8 ∧ p 8 ≤ now + r 5))
def POk (n : Nat) (es : List (Nat → Int)) (r p : Nat → Int) (now : Int) : Prop := ROk n es r ∧ PInts n r p now
theorem ROk.ints {n : Nat} {es : List (Nat → Int)} {r : Nat → Int} (h : ROk n es r) : (1 : Int) ≤ n ∧ (n : Int) ≤ 4 ∧ 1 ≤ r 1 ∧ r 1 ≤ 5 ∧ 1 ≤ r 2 ∧ r 2 ≤ 10 ∧ 1 ≤ r 3 ∧ r 3 ≤ 6 ∧ 1 ≤ r 4 ∧ r 4 ≤ 12 ∧ 1 ≤ r 5 ∧ r 5 ≤ 8 ∧ 0 ≤ r 6 ∧ r 6 ≤ 8 ∧ 1 ≤ r 7 ∧ r 7 ≤ 4 ∧ 1 ≤ r 8 ∧ r 8 ≤ 3 := by
  obtain ⟨k1, k2⟩ := h.bd
  unfold RInts at k2
  omega

set_option maxHeartbeats 400000 in
theorem isIndex_any (x n : Int) (w : World) (h1 : -1000 ≤ n) (h2 : n ≤ 9223372036854775807) :
    Calls Tryz.prog 79 #[.int .i64 x, .int .i64 n] w (TF (0 ≤ x ∧ x ≤ n - 1) w) := by
  go_enter Tryz.func79, Tryz.ntmps79
  go_wp2_with (go_at_call 76; refine (within_any _ _ _ _).mono ?_; rintro e w2 (⟨rfl, ⟨h1, h2⟩, rfl⟩ | ⟨rfl, h1, rfl⟩))
  all_goals go_ret
  · exact .inl ⟨rfl, ⟨by omega, by omega⟩, rfl⟩
  · exact .inr ⟨rfl, by omega, rfl⟩

set_option maxRecDepth 100000 in
set_option maxHeartbeats 2000000 in
theorem spec_PartyOk_in (A : Option Addr) (n c : Nat) (es : List (Nat → Int)) (r p : Nat → Int) (now : Int) (w : World) (hn : n ≤ 4194304) (h : Rd w 1 A n es) (bf b1 b2 : Bool)
    (hf : (p 2 == p 1) = bf) (h71 : (p 7 == 1) = b1) (h72 : (p 7 == 2) = b2) (hfi : Hid (bf = true ↔ p 2 = p 1)) (h71i : Hid (b1 = true ↔ p 7 = 1)) (h72i : Hid (b2 = true ↔ p 7 = 2)) :
    Calls Tryz.prog 135 #[.agg #[.slice A n c, .int .i64 (r 1), .int .i64 (r 2), .int .i64 (r 3), .int .i64 (r 4), .int .i64 (r 5), .int .i64 (r 6), .int .i64 (r 7), .int .i64 (r 8)], .agg #[.int .i64 (p 0), .int .i64 (p 1), .int .i64 (p 2), .int .i64 (p 3), .int .i64 (p 4), .int .i64 (p 5), .int .i64 (p 6), .int .i64 (p 7), .int .i64 (p 8), .int .i64 (p 9)], .int .i64 now] w (TFB (POk n es r p now) w) := by
  have H := Lib.hid h
  clear h
  cases bf <;> cases b1 <;> cases b2
  all_goals
    go_enter Tryz.func135, Tryz.ntmps135
    go_wp2_with (first
      | (go_at_call 146; refine (spec_RulesOk _ _ _ es _ _ hn (H.out.below (by (repeat (first | with_reducible exact Below.refl _ _ | with_reducible refine Below.drew ?_ | with_reducible refine below_drewN ?_ _ | (with_reducible refine bel_alloc ?_ ?_ _; (first | omega | (simp; omega) | simp)) | (with_reducible refine bel_set ?_ ?_ _; (first | omega | (simp; omega) | simp)) | (with_reducible refine bel_tr (by assumption) ?_ ?_; (first | omega | (simp; omega) | simp))))))).mono ?_; rintro e w1 (⟨rfl, hrk, hb1⟩ | ⟨rfl, hrk, hb1⟩) <;> (have bc1 := bcell hb1; obtain ⟨hc1, hf1⟩ := bc1; have ks1 := hb1.size; (try simp at ks1); have kc10 : ∀ o, w1.cell? ⟨w.heap.size, o, none⟩ = _ := (fun o => hb1.cell (p := ⟨w.heap.size, o, none⟩) (by (first | omega | (simp; omega) | simp))); have kf10 : ∀ o, w1.frozen? ⟨w.heap.size, o, none⟩ = _ := (fun o => hb1.frozen (p := ⟨w.heap.size, o, none⟩) (by (first | omega | (simp; omega) | simp))); have kc11 : ∀ o, w1.cell? ⟨w.heap.size + 1, o, none⟩ = _ := (fun o => hb1.cell (p := ⟨w.heap.size + 1, o, none⟩) (by (first | omega | (simp; omega) | simp))); have kf11 : ∀ o, w1.frozen? ⟨w.heap.size + 1, o, none⟩ = _ := (fun o => hb1.frozen (p := ⟨w.heap.size + 1, o, none⟩) (by (first | omega | (simp; omega) | simp))); have kz10 : w.heap.size < w1.heap.size := (by have hh := hb1.size; (try simp at hh); omega); have kz11 : w.heap.size + 1 < w1.heap.size := (by have hh := hb1.size; (try simp at hh); omega); (try (obtain ⟨q1, q2, q3, q4, q5, q6, q7, q8, q9, q10, q11, q12, q13, q14, q15, q16, q17, q18⟩ := hrk.ints))))
      | (go_at_call 44; refine (l1In_any _ _ _ _).mono ?_; rintro e w2 (⟨rfl, ⟨h1, h2⟩, rfl⟩ | ⟨rfl, h1, rfl⟩)))
    all_goals go_ret
    all_goals
      have e1 := hfi.out
      have e2 := h71i.out
      have e3 := h72i.out
      simp only [Bool.false_eq_true, false_iff, true_iff] at e1 e2 e3
    all_goals first
      | (exact .inr ⟨rfl, (fun hh => by first | exact absurd hh.1 hrk | (have k := hh.2; unfold PInts at k; omega)), by (repeat (first | with_reducible exact Below.refl _ _ | with_reducible refine Below.drew ?_ | with_reducible refine below_drewN ?_ _ | (with_reducible refine bel_alloc ?_ ?_ _; (first | omega | (simp; omega) | simp)) | (with_reducible refine bel_set ?_ ?_ _; (first | omega | (simp; omega) | simp)) | (with_reducible refine bel_tr (by assumption) ?_ ?_; (first | omega | (simp; omega) | simp))))⟩)
      | (exact .inl ⟨rfl, ⟨hrk, by unfold PInts; omega⟩, by (repeat (first | with_reducible exact Below.refl _ _ | with_reducible refine Below.drew ?_ | with_reducible refine below_drewN ?_ _ | (with_reducible refine bel_alloc ?_ ?_ _; (first | omega | (simp; omega) | simp)) | (with_reducible refine bel_set ?_ ?_ _; (first | omega | (simp; omega) | simp)) | (with_reducible refine bel_tr (by assumption) ?_ ?_; (first | omega | (simp; omega) | simp))))⟩)

theorem spec_PartyOk (A : Option Addr) (n c : Nat) (es : List (Nat → Int)) (r p : Nat → Int) (now : Int) (w : World) (hn : n ≤ 4194304) (h : Rd w 1 A n es) :
    Calls Tryz.prog 135 #[.agg #[.slice A n c, .int .i64 (r 1), .int .i64 (r 2), .int .i64 (r 3), .int .i64 (r 4), .int .i64 (r 5), .int .i64 (r 6), .int .i64 (r 7), .int .i64 (r 8)], .agg #[.int .i64 (p 0), .int .i64 (p 1), .int .i64 (p 2), .int .i64 (p 3), .int .i64 (p 4), .int .i64 (p 5), .int .i64 (p 6), .int .i64 (p 7), .int .i64 (p 8), .int .i64 (p 9)], .int .i64 now] w (TFB (POk n es r p now) w) :=
  spec_PartyOk_in A n c es r p now w hn h (p 2 == p 1) (p 7 == 1) (p 7 == 2) rfl rfl rfl (beq_iff_eq) (beq_iff_eq) (beq_iff_eq)

set_option maxRecDepth 100000 in
set_option maxHeartbeats 2000000 in
theorem impl_PartyOk_in (A : Option Addr) (n c : Nat) (es : List (Nat → Int)) (r p : Nat → Int) (now : Int) (w : World) (hn : n ≤ 4194304) (h : Rd w 1 A n es) (bf b1 b2 : Bool)
    (hf : (p 2 == p 1) = bf) (h71 : (p 7 == 1) = b1) (h72 : (p 7 == 2) = b2) (hfi : Hid (bf = true ↔ p 2 = p 1)) (h71i : Hid (b1 = true ↔ p 7 = 1)) (h72i : Hid (b2 = true ↔ p 7 = 2)) :
    Calls Tryz.prog 105 #[.agg #[.slice A n c, .int .i64 (r 1), .int .i64 (r 2), .int .i64 (r 3), .int .i64 (r 4), .int .i64 (r 5), .int .i64 (r 6), .int .i64 (r 7), .int .i64 (r 8)], .agg #[.int .i64 (p 0), .int .i64 (p 1), .int .i64 (p 2), .int .i64 (p 3), .int .i64 (p 4), .int .i64 (p 5), .int .i64 (p 6), .int .i64 (p 7), .int .i64 (p 8), .int .i64 (p 9)], .int .i64 now] w (TFB (POk n es r p now) w) := by
  have H := Lib.hid h
  clear h
  cases bf <;> cases b1 <;> cases b2
  all_goals
    go_enter Tryz.func105, Tryz.ntmps105
    go_wp2_with (first
      | (go_at_call 120; refine (impl_RulesOk _ _ _ es _ _ hn (H.out.below (by (repeat (first | with_reducible exact Below.refl _ _ | with_reducible refine Below.drew ?_ | with_reducible refine below_drewN ?_ _ | (with_reducible refine bel_alloc ?_ ?_ _; (first | omega | (simp; omega) | simp)) | (with_reducible refine bel_set ?_ ?_ _; (first | omega | (simp; omega) | simp)) | (with_reducible refine bel_tr (by assumption) ?_ ?_; (first | omega | (simp; omega) | simp))))))).mono ?_; rintro e w1 (⟨rfl, hrk, hb1⟩ | ⟨rfl, hrk, hb1⟩) <;> (have bc1 := bcell hb1; obtain ⟨hc1, hf1⟩ := bc1; have ks1 := hb1.size; (try simp at ks1); have kc10 : ∀ o, w1.cell? ⟨w.heap.size, o, none⟩ = _ := (fun o => hb1.cell (p := ⟨w.heap.size, o, none⟩) (by (first | omega | (simp; omega) | simp))); have kf10 : ∀ o, w1.frozen? ⟨w.heap.size, o, none⟩ = _ := (fun o => hb1.frozen (p := ⟨w.heap.size, o, none⟩) (by (first | omega | (simp; omega) | simp))); have kc11 : ∀ o, w1.cell? ⟨w.heap.size + 1, o, none⟩ = _ := (fun o => hb1.cell (p := ⟨w.heap.size + 1, o, none⟩) (by (first | omega | (simp; omega) | simp))); have kf11 : ∀ o, w1.frozen? ⟨w.heap.size + 1, o, none⟩ = _ := (fun o => hb1.frozen (p := ⟨w.heap.size + 1, o, none⟩) (by (first | omega | (simp; omega) | simp))); have kz10 : w.heap.size < w1.heap.size := (by have hh := hb1.size; (try simp at hh); omega); have kz11 : w.heap.size + 1 < w1.heap.size := (by have hh := hb1.size; (try simp at hh); omega); (try (obtain ⟨q1, q2, q3, q4, q5, q6, q7, q8, q9, q10, q11, q12, q13, q14, q15, q16, q17, q18⟩ := hrk.ints))))
      | (go_at_call 76; refine (within_any _ _ _ _).mono ?_; rintro e w2 (⟨rfl, ⟨h1, h2⟩, rfl⟩ | ⟨rfl, h1, rfl⟩))
      | (go_at_call 79; refine (isIndex_any _ _ _ (by omega) (by omega)).mono ?_; rintro e w2 (⟨rfl, ⟨h1, h2⟩, rfl⟩ | ⟨rfl, h1, rfl⟩)))
    all_goals go_ret
    all_goals
      have e1 := hfi.out
      have e2 := h71i.out
      have e3 := h72i.out
      simp only [Bool.false_eq_true, false_iff, true_iff] at e1 e2 e3
    all_goals first
      | (exact .inr ⟨rfl, (fun hh => by first | exact absurd hh.1 hrk | (have k := hh.2; unfold PInts at k; omega)), by (repeat (first | with_reducible exact Below.refl _ _ | with_reducible refine Below.drew ?_ | with_reducible refine below_drewN ?_ _ | (with_reducible refine bel_alloc ?_ ?_ _; (first | omega | (simp; omega) | simp)) | (with_reducible refine bel_set ?_ ?_ _; (first | omega | (simp; omega) | simp)) | (with_reducible refine bel_tr (by assumption) ?_ ?_; (first | omega | (simp; omega) | simp))))⟩)
      | (exact .inl ⟨rfl, ⟨hrk, by unfold PInts; omega⟩, by (repeat (first | with_reducible exact Below.refl _ _ | with_reducible refine Below.drew ?_ | with_reducible refine below_drewN ?_ _ | (with_reducible refine bel_alloc ?_ ?_ _; (first | omega | (simp; omega) | simp)) | (with_reducible refine bel_set ?_ ?_ _; (first | omega | (simp; omega) | simp)) | (with_reducible refine bel_tr (by assumption) ?_ ?_; (first | omega | (simp; omega) | simp))))⟩)

theorem impl_PartyOk (A : Option Addr) (n c : Nat) (es : List (Nat → Int)) (r p : Nat → Int) (now : Int) (w : World) (hn : n ≤ 4194304) (h : Rd w 1 A n es) :
    Calls Tryz.prog 105 #[.agg #[.slice A n c, .int .i64 (r 1), .int .i64 (r 2), .int .i64 (r 3), .int .i64 (r 4), .int .i64 (r 5), .int .i64 (r 6), .int .i64 (r 7), .int .i64 (r 8)], .agg #[.int .i64 (p 0), .int .i64 (p 1), .int .i64 (p 2), .int .i64 (p 3), .int .i64 (p 4), .int .i64 (p 5), .int .i64 (p 6), .int .i64 (p 7), .int .i64 (p 8), .int .i64 (p 9)], .int .i64 now] w (TFB (POk n es r p now) w) :=
  impl_PartyOk_in A n c es r p now w hn h (p 2 == p 1) (p 7 == 1) (p 7 == 2) rfl rfl rfl (beq_iff_eq) (beq_iff_eq) (beq_iff_eq)

end Go.Proofs.YtjlmcppkafjniaaGreat

namespace Go.Proofs.YtjlmcppkafjniaaGreat
open Go.RowKit

/-- The level: the tier less the periods waited, at least 0. -/
def lvlV (r p : Nat → Int) (now : Int) : Int := if p 4 - (now - p 5) / r 4 < 0 then 0 else p 4 - (now - p 5) / r 4
theorem POk.lv {n : Nat} {es : List (Nat → Int)} {r p : Nat → Int} {now : Int} (h : POk n es r p now) :
    1 ≤ r 4 ∧ r 4 ≤ 12 ∧ 0 ≤ now - p 5 ∧ now - p 5 ≤ 1000000 ∧ 0 ≤ now ∧ now ≤ 1000000 ∧ 0 ≤ p 5 ∧ p 5 ≤ 1000000 ∧ 0 ≤ p 4 ∧ p 4 ≤ 4 ∧ 0 ≤ (now - p 5) / r 4 ∧ (now - p 5) / r 4 ≤ 1000000 ∧ r 1 ≤ 5 ∧ p 4 ≤ r 1 - 1 ∧ 1 ≤ r 1 := by
  have h1 := h.1.ints
  have h2 := h.2
  unfold PInts at h2
  have h3 : 0 ≤ now - p 5 := by omega
  have h4 : 0 ≤ (now - p 5) / r 4 := Int.ediv_nonneg h3 (by omega)
  have h5 : (now - p 5) / r 4 ≤ now - p 5 := Int.ediv_le_self _ h3
  omega
theorem lvlV_lo {n : Nat} {es : List (Nat → Int)} {r p : Nat → Int} {now : Int} (h : POk n es r p now) : 0 ≤ lvlV r p now ∧ lvlV r p now ≤ 4 := by
  have := h.lv
  unfold lvlV
  split <;> omega
def LVP (P : Prop) (v : Int) (w : World) (e : Ending) (w' : World) : Prop := (e = .returned (.int .i64 v) ∧ P ∧ Below w.heap.size w w') ∨ (e = .returned (.int .i64 (-1)) ∧ ¬ P ∧ Below w.heap.size w w')

set_option maxHeartbeats 400000 in
theorem l1Max_any (a b : Int) (w : World) :
    Calls Tryz.prog 70 #[.int .i64 a, .int .i64 b] w fun x w' => x = .returned (.int .i64 (if b < a then a else b)) ∧ w = w' := by
  by_cases h : b < a
  · rw [if_pos h]
    go_enter Tryz.func70, Tryz.ntmps70
    go_wp2
    go_ret
    exact ⟨rfl, rfl⟩
  · rw [if_neg h]
    go_enter Tryz.func70, Tryz.ntmps70
    go_wp2
    go_ret
    exact ⟨rfl, rfl⟩

set_option maxHeartbeats 1000000 in
theorem l5Level_any (A : Option Addr) (n c : Nat) (r p : Nat → Int) (now : Int) (es : List (Nat → Int)) (w : World) (hP : POk n es r p now) :
    Calls Tryz.prog 136 #[.agg #[.slice A n c, .int .i64 (r 1), .int .i64 (r 2), .int .i64 (r 3), .int .i64 (r 4), .int .i64 (r 5), .int .i64 (r 6), .int .i64 (r 7), .int .i64 (r 8)], .int .i64 (p 4), .int .i64 (now - p 5)] w fun x w' => x = .returned (.int .i64 (lvlV r p now)) ∧ Below w.heap.size w w' := by
  obtain ⟨q1, q2, q3, q4, q5, q6, q7, q8, q9, q10, q11, q12, q13, q14, q15⟩ := hP.lv
  have HM := Lib.hid (l1Max_any 0 (p 4 - (now - p 5) / r 4))
  have HV : Hid (lvlV r p now = if p 4 - (now - p 5) / r 4 < 0 then 0 else p 4 - (now - p 5) / r 4) := rfl
  clear hP
  go_enter Tryz.func136, Tryz.ntmps136
  go_wp2_with fail
  refine (HM.out _).mono ?_
  rintro x w1 ⟨rfl, rfl⟩
  rw [← HV.out]
  go_wp2
  go_ret
  refine ⟨rfl, ?_⟩
  (repeat (first | with_reducible exact Below.refl _ _ | with_reducible refine Below.drew ?_ | with_reducible refine below_drewN ?_ _ | (with_reducible refine bel_alloc ?_ ?_ _; (first | omega | (simp; omega) | simp)) | (with_reducible refine bel_set ?_ ?_ _; (first | omega | (simp; omega) | simp)) | (with_reducible refine bel_tr (by assumption) ?_ ?_; (first | omega | (simp; omega) | simp))))

set_option maxHeartbeats 1000000 in
theorem spec_LevelOf (A : Option Addr) (n c : Nat) (es : List (Nat → Int)) (r p : Nat → Int) (now : Int) (w : World) (hn : n ≤ 4194304) (h : Rd w 1 A n es) :
    Calls Tryz.prog 115 #[.agg #[.slice A n c, .int .i64 (r 1), .int .i64 (r 2), .int .i64 (r 3), .int .i64 (r 4), .int .i64 (r 5), .int .i64 (r 6), .int .i64 (r 7), .int .i64 (r 8)], .agg #[.int .i64 (p 0), .int .i64 (p 1), .int .i64 (p 2), .int .i64 (p 3), .int .i64 (p 4), .int .i64 (p 5), .int .i64 (p 6), .int .i64 (p 7), .int .i64 (p 8), .int .i64 (p 9)], .int .i64 now] w (LVP (POk n es r p now) (lvlV r p now) w) := by
  have H := Lib.hid h
  clear h
  by_cases hP : POk n es r p now
  · obtain ⟨q1, q2, q3, q4, q5, q6, q7, q8, q9, q10, q11, q12, q13, q14, q15⟩ := hP.lv
    go_enter Tryz.func115, Tryz.ntmps115
    go_wp2_with (first
      | (go_at_call 135; refine (ty (spec_PartyOk _ _ _ es _ _ _ _ hn (H.out.below (by (repeat (first | with_reducible exact Below.refl _ _ | with_reducible refine Below.drew ?_ | with_reducible refine below_drewN ?_ _ | (with_reducible refine bel_alloc ?_ ?_ _; (first | omega | (simp; omega) | simp)) | (with_reducible refine bel_set ?_ ?_ _; (first | omega | (simp; omega) | simp)) | (with_reducible refine bel_tr (by assumption) ?_ ?_; (first | omega | (simp; omega) | simp))))))) hP).mono ?_; rintro e w1 ⟨rfl, hb1⟩; have bc1 := bcell hb1; obtain ⟨hc1, hf1⟩ := bc1; have ks1 := hb1.size; (try simp at ks1); have kc10 : ∀ o, w1.cell? ⟨w.heap.size, o, none⟩ = _ := (fun o => hb1.cell (p := ⟨w.heap.size, o, none⟩) (by (first | omega | (simp; omega) | simp))); have kf10 : ∀ o, w1.frozen? ⟨w.heap.size, o, none⟩ = _ := (fun o => hb1.frozen (p := ⟨w.heap.size, o, none⟩) (by (first | omega | (simp; omega) | simp))); have kc11 : ∀ o, w1.cell? ⟨w.heap.size + 1, o, none⟩ = _ := (fun o => hb1.cell (p := ⟨w.heap.size + 1, o, none⟩) (by (first | omega | (simp; omega) | simp))); have kf11 : ∀ o, w1.frozen? ⟨w.heap.size + 1, o, none⟩ = _ := (fun o => hb1.frozen (p := ⟨w.heap.size + 1, o, none⟩) (by (first | omega | (simp; omega) | simp))); have kz10 : w.heap.size < w1.heap.size := (by have hh := hb1.size; (try simp at hh); omega); have kz11 : w.heap.size + 1 < w1.heap.size := (by have hh := hb1.size; (try simp at hh); omega))
      | (go_at_call 136; refine (l5Level_any _ _ _ _ p now es _ hP).mono ?_; rintro e w2 ⟨rfl, hb2⟩))
    go_ret
    exact .inl ⟨rfl, hP, by (repeat (first | with_reducible exact Below.refl _ _ | with_reducible refine Below.drew ?_ | with_reducible refine below_drewN ?_ _ | (with_reducible refine bel_alloc ?_ ?_ _; (first | omega | (simp; omega) | simp)) | (with_reducible refine bel_set ?_ ?_ _; (first | omega | (simp; omega) | simp)) | (with_reducible refine bel_tr (by assumption) ?_ ?_; (first | omega | (simp; omega) | simp))))⟩
  · go_enter Tryz.func115, Tryz.ntmps115
    go_wp2_with (go_at_call 135; refine (tn (spec_PartyOk _ _ _ es _ _ _ _ hn (H.out.below (by (repeat (first | with_reducible exact Below.refl _ _ | with_reducible refine Below.drew ?_ | with_reducible refine below_drewN ?_ _ | (with_reducible refine bel_alloc ?_ ?_ _; (first | omega | (simp; omega) | simp)) | (with_reducible refine bel_set ?_ ?_ _; (first | omega | (simp; omega) | simp)) | (with_reducible refine bel_tr (by assumption) ?_ ?_; (first | omega | (simp; omega) | simp))))))) hP).mono ?_; rintro e w1 ⟨rfl, hb1⟩; have bc1 := bcell hb1; obtain ⟨hc1, hf1⟩ := bc1; have ks1 := hb1.size; (try simp at ks1); have kc10 : ∀ o, w1.cell? ⟨w.heap.size, o, none⟩ = _ := (fun o => hb1.cell (p := ⟨w.heap.size, o, none⟩) (by (first | omega | (simp; omega) | simp))); have kf10 : ∀ o, w1.frozen? ⟨w.heap.size, o, none⟩ = _ := (fun o => hb1.frozen (p := ⟨w.heap.size, o, none⟩) (by (first | omega | (simp; omega) | simp))); have kc11 : ∀ o, w1.cell? ⟨w.heap.size + 1, o, none⟩ = _ := (fun o => hb1.cell (p := ⟨w.heap.size + 1, o, none⟩) (by (first | omega | (simp; omega) | simp))); have kf11 : ∀ o, w1.frozen? ⟨w.heap.size + 1, o, none⟩ = _ := (fun o => hb1.frozen (p := ⟨w.heap.size + 1, o, none⟩) (by (first | omega | (simp; omega) | simp))); have kz10 : w.heap.size < w1.heap.size := (by have hh := hb1.size; (try simp at hh); omega); have kz11 : w.heap.size + 1 < w1.heap.size := (by have hh := hb1.size; (try simp at hh); omega))
    go_ret
    exact .inr ⟨rfl, hP, by (repeat (first | with_reducible exact Below.refl _ _ | with_reducible refine Below.drew ?_ | with_reducible refine below_drewN ?_ _ | (with_reducible refine bel_alloc ?_ ?_ _; (first | omega | (simp; omega) | simp)) | (with_reducible refine bel_set ?_ ?_ _; (first | omega | (simp; omega) | simp)) | (with_reducible refine bel_tr (by assumption) ?_ ?_; (first | omega | (simp; omega) | simp))))⟩

set_option maxHeartbeats 1000000 in
theorem impl_Level (A : Option Addr) (n c : Nat) (r p : Nat → Int) (now : Int) (es : List (Nat → Int)) (w : World) (hn : n ≤ 4194304) (h : Rd w 1 A n es) (hP : POk n es r p now) :
    Calls Tryz.prog 121 #[.agg #[.slice A n c, .int .i64 (r 1), .int .i64 (r 2), .int .i64 (r 3), .int .i64 (r 4), .int .i64 (r 5), .int .i64 (r 6), .int .i64 (r 7), .int .i64 (r 8)], .int .i64 (p 4), .int .i64 (now - p 5)] w fun x w' => x = .returned (.int .i64 (lvlV r p now)) ∧ Below w.heap.size w w' := by
  obtain ⟨q1, q2, q3, q4, q5, q6, q7, q8, q9, q10, q11, q12, q13, q14, q15⟩ := hP.lv
  have H := Lib.hid h
  have hR := hP.1
  clear h
  by_cases hx : p 4 - (now - p 5) / r 4 < 0
  · rw [show lvlV r p now = 0 from by unfold lvlV; rw [if_pos hx]]
    clear hP
    go_enter Tryz.func121, Tryz.ntmps121
    go_wp2_with (first
      | (go_at_call 120; refine (ty (impl_RulesOk _ _ _ es _ _ hn (H.out.below (by (repeat (first | with_reducible exact Below.refl _ _ | with_reducible refine Below.drew ?_ | with_reducible refine below_drewN ?_ _ | (with_reducible refine bel_alloc ?_ ?_ _; (first | omega | (simp; omega) | simp)) | (with_reducible refine bel_set ?_ ?_ _; (first | omega | (simp; omega) | simp)) | (with_reducible refine bel_tr (by assumption) ?_ ?_; (first | omega | (simp; omega) | simp))))))) hR).mono ?_; rintro e w1 ⟨rfl, hb1⟩; have bc1 := bcell hb1; obtain ⟨hc1, hf1⟩ := bc1; have ks1 := hb1.size; (try simp at ks1); have kc10 : ∀ o, w1.cell? ⟨w.heap.size, o, none⟩ = _ := (fun o => hb1.cell (p := ⟨w.heap.size, o, none⟩) (by (first | omega | (simp; omega) | simp))); have kf10 : ∀ o, w1.frozen? ⟨w.heap.size, o, none⟩ = _ := (fun o => hb1.frozen (p := ⟨w.heap.size, o, none⟩) (by (first | omega | (simp; omega) | simp))); have kz10 : w.heap.size < w1.heap.size := (by have hh := hb1.size; (try simp at hh); omega))
      | (go_at_call 79; refine (sy (isIndex_any _ _ _ (by omega) (by omega)) ⟨by omega, by omega⟩).mono ?_; rintro e w2 ⟨rfl, rfl⟩))
    all_goals go_ret
    all_goals exact ⟨by first | rfl | (simp; done) | (simp; omega), by (repeat (first | with_reducible exact Below.refl _ _ | with_reducible refine Below.drew ?_ | with_reducible refine below_drewN ?_ _ | (with_reducible refine bel_alloc ?_ ?_ _; (first | omega | (simp; omega) | simp)) | (with_reducible refine bel_set ?_ ?_ _; (first | omega | (simp; omega) | simp)) | (with_reducible refine bel_tr (by assumption) ?_ ?_; (first | omega | (simp; omega) | simp))))⟩
  · rw [show lvlV r p now = p 4 - (now - p 5) / r 4 from by unfold lvlV; rw [if_neg hx]]
    have hx : 0 ≤ p 4 - (now - p 5) / r 4 := by omega
    clear hP
    go_enter Tryz.func121, Tryz.ntmps121
    go_wp2_with (first
      | (go_at_call 120; refine (ty (impl_RulesOk _ _ _ es _ _ hn (H.out.below (by (repeat (first | with_reducible exact Below.refl _ _ | with_reducible refine Below.drew ?_ | with_reducible refine below_drewN ?_ _ | (with_reducible refine bel_alloc ?_ ?_ _; (first | omega | (simp; omega) | simp)) | (with_reducible refine bel_set ?_ ?_ _; (first | omega | (simp; omega) | simp)) | (with_reducible refine bel_tr (by assumption) ?_ ?_; (first | omega | (simp; omega) | simp))))))) hR).mono ?_; rintro e w1 ⟨rfl, hb1⟩; have bc1 := bcell hb1; obtain ⟨hc1, hf1⟩ := bc1; have ks1 := hb1.size; (try simp at ks1); have kc10 : ∀ o, w1.cell? ⟨w.heap.size, o, none⟩ = _ := (fun o => hb1.cell (p := ⟨w.heap.size, o, none⟩) (by (first | omega | (simp; omega) | simp))); have kf10 : ∀ o, w1.frozen? ⟨w.heap.size, o, none⟩ = _ := (fun o => hb1.frozen (p := ⟨w.heap.size, o, none⟩) (by (first | omega | (simp; omega) | simp))); have kz10 : w.heap.size < w1.heap.size := (by have hh := hb1.size; (try simp at hh); omega))
      | (go_at_call 79; refine (sy (isIndex_any _ _ _ (by omega) (by omega)) ⟨by omega, by omega⟩).mono ?_; rintro e w2 ⟨rfl, rfl⟩))
    all_goals go_ret
    all_goals exact ⟨by first | rfl | (simp; done) | (simp; omega), by (repeat (first | with_reducible exact Below.refl _ _ | with_reducible refine Below.drew ?_ | with_reducible refine below_drewN ?_ _ | (with_reducible refine bel_alloc ?_ ?_ _; (first | omega | (simp; omega) | simp)) | (with_reducible refine bel_set ?_ ?_ _; (first | omega | (simp; omega) | simp)) | (with_reducible refine bel_tr (by assumption) ?_ ?_; (first | omega | (simp; omega) | simp))))⟩

set_option maxHeartbeats 1000000 in
theorem impl_LevelOf (A : Option Addr) (n c : Nat) (es : List (Nat → Int)) (r p : Nat → Int) (now : Int) (w : World) (hn : n ≤ 4194304) (h : Rd w 1 A n es) :
    Calls Tryz.prog 106 #[.agg #[.slice A n c, .int .i64 (r 1), .int .i64 (r 2), .int .i64 (r 3), .int .i64 (r 4), .int .i64 (r 5), .int .i64 (r 6), .int .i64 (r 7), .int .i64 (r 8)], .agg #[.int .i64 (p 0), .int .i64 (p 1), .int .i64 (p 2), .int .i64 (p 3), .int .i64 (p 4), .int .i64 (p 5), .int .i64 (p 6), .int .i64 (p 7), .int .i64 (p 8), .int .i64 (p 9)], .int .i64 now] w (LVP (POk n es r p now) (lvlV r p now) w) := by
  have H := Lib.hid h
  clear h
  by_cases hP : POk n es r p now
  · obtain ⟨q1, q2, q3, q4, q5, q6, q7, q8, q9, q10, q11, q12, q13, q14, q15⟩ := hP.lv
    go_enter Tryz.func106, Tryz.ntmps106
    go_wp2_with (first
      | (go_at_call 105; refine (ty (impl_PartyOk _ _ _ es _ _ _ _ hn (H.out.below (by (repeat (first | with_reducible exact Below.refl _ _ | with_reducible refine Below.drew ?_ | with_reducible refine below_drewN ?_ _ | (with_reducible refine bel_alloc ?_ ?_ _; (first | omega | (simp; omega) | simp)) | (with_reducible refine bel_set ?_ ?_ _; (first | omega | (simp; omega) | simp)) | (with_reducible refine bel_tr (by assumption) ?_ ?_; (first | omega | (simp; omega) | simp))))))) hP).mono ?_; rintro e w1 ⟨rfl, hb1⟩; have bc1 := bcell hb1; obtain ⟨hc1, hf1⟩ := bc1; have ks1 := hb1.size; (try simp at ks1); have kc10 : ∀ o, w1.cell? ⟨w.heap.size, o, none⟩ = _ := (fun o => hb1.cell (p := ⟨w.heap.size, o, none⟩) (by (first | omega | (simp; omega) | simp))); have kf10 : ∀ o, w1.frozen? ⟨w.heap.size, o, none⟩ = _ := (fun o => hb1.frozen (p := ⟨w.heap.size, o, none⟩) (by (first | omega | (simp; omega) | simp))); have kc11 : ∀ o, w1.cell? ⟨w.heap.size + 1, o, none⟩ = _ := (fun o => hb1.cell (p := ⟨w.heap.size + 1, o, none⟩) (by (first | omega | (simp; omega) | simp))); have kf11 : ∀ o, w1.frozen? ⟨w.heap.size + 1, o, none⟩ = _ := (fun o => hb1.frozen (p := ⟨w.heap.size + 1, o, none⟩) (by (first | omega | (simp; omega) | simp))); have kz10 : w.heap.size < w1.heap.size := (by have hh := hb1.size; (try simp at hh); omega); have kz11 : w.heap.size + 1 < w1.heap.size := (by have hh := hb1.size; (try simp at hh); omega))
      | (go_at_call 121; refine (impl_Level _ _ _ _ p now es _ hn (H.out.below (by (repeat (first | with_reducible exact Below.refl _ _ | with_reducible refine Below.drew ?_ | with_reducible refine below_drewN ?_ _ | (with_reducible refine bel_alloc ?_ ?_ _; (first | omega | (simp; omega) | simp)) | (with_reducible refine bel_set ?_ ?_ _; (first | omega | (simp; omega) | simp)) | (with_reducible refine bel_tr (by assumption) ?_ ?_; (first | omega | (simp; omega) | simp)))))) hP).mono ?_; rintro e w2 ⟨rfl, hb2⟩))
    go_ret
    exact .inl ⟨rfl, hP, by (repeat (first | with_reducible exact Below.refl _ _ | with_reducible refine Below.drew ?_ | with_reducible refine below_drewN ?_ _ | (with_reducible refine bel_alloc ?_ ?_ _; (first | omega | (simp; omega) | simp)) | (with_reducible refine bel_set ?_ ?_ _; (first | omega | (simp; omega) | simp)) | (with_reducible refine bel_tr (by assumption) ?_ ?_; (first | omega | (simp; omega) | simp))))⟩
  · go_enter Tryz.func106, Tryz.ntmps106
    go_wp2_with (go_at_call 105; refine (tn (impl_PartyOk _ _ _ es _ _ _ _ hn (H.out.below (by (repeat (first | with_reducible exact Below.refl _ _ | with_reducible refine Below.drew ?_ | with_reducible refine below_drewN ?_ _ | (with_reducible refine bel_alloc ?_ ?_ _; (first | omega | (simp; omega) | simp)) | (with_reducible refine bel_set ?_ ?_ _; (first | omega | (simp; omega) | simp)) | (with_reducible refine bel_tr (by assumption) ?_ ?_; (first | omega | (simp; omega) | simp))))))) hP).mono ?_; rintro e w1 ⟨rfl, hb1⟩; have bc1 := bcell hb1; obtain ⟨hc1, hf1⟩ := bc1; have ks1 := hb1.size; (try simp at ks1); have kc10 : ∀ o, w1.cell? ⟨w.heap.size, o, none⟩ = _ := (fun o => hb1.cell (p := ⟨w.heap.size, o, none⟩) (by (first | omega | (simp; omega) | simp))); have kf10 : ∀ o, w1.frozen? ⟨w.heap.size, o, none⟩ = _ := (fun o => hb1.frozen (p := ⟨w.heap.size, o, none⟩) (by (first | omega | (simp; omega) | simp))); have kc11 : ∀ o, w1.cell? ⟨w.heap.size + 1, o, none⟩ = _ := (fun o => hb1.cell (p := ⟨w.heap.size + 1, o, none⟩) (by (first | omega | (simp; omega) | simp))); have kf11 : ∀ o, w1.frozen? ⟨w.heap.size + 1, o, none⟩ = _ := (fun o => hb1.frozen (p := ⟨w.heap.size + 1, o, none⟩) (by (first | omega | (simp; omega) | simp))); have kz10 : w.heap.size < w1.heap.size := (by have hh := hb1.size; (try simp at hh); omega); have kz11 : w.heap.size + 1 < w1.heap.size := (by have hh := hb1.size; (try simp at hh); omega))
    go_ret
    exact .inr ⟨rfl, hP, by (repeat (first | with_reducible exact Below.refl _ _ | with_reducible refine Below.drew ?_ | with_reducible refine below_drewN ?_ _ | (with_reducible refine bel_alloc ?_ ?_ _; (first | omega | (simp; omega) | simp)) | (with_reducible refine bel_set ?_ ?_ _; (first | omega | (simp; omega) | simp)) | (with_reducible refine bel_tr (by assumption) ?_ ?_; (first | omega | (simp; omega) | simp))))⟩

end Go.Proofs.YtjlmcppkafjniaaGreat
