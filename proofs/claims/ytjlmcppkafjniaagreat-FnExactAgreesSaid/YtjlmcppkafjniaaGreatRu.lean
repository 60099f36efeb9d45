/-
  Contracts of the functions on rules. No conditions beyond those stated.
-/
import Derived.Test.YtjlmcppkafjniaaGreatMk
namespace Go.Proofs.YtjlmcppkafjniaaGreat
open Go.RowKit

theorem toIntS_info : (Tryz.prog.info? 3).map (fun i => (i.zero, i.size, i.bytes)) = some (some (.int .i64 0), 1, 8) := by kernel_rfl
set_option maxRecDepth 100000 in
set_option maxHeartbeats 1000000 in
theorem toIntS_any (A : Option Addr) (n c : Nat) (es : List (Nat → Int)) (w : World) (hn : n ≤ 1048576) (h : Rd w 1 A n es) :
    Calls Tryz.prog 55 #[.slice A n c] w fun x w' => ∃ A' c', x = .returned (.slice A' n c') ∧ Own w.heap.size w' 1 A' n es ∧ Below w.heap.size w w' := by
  obtain ⟨i0, hi0, hz0, hz1, hz2⟩ := info_parts toIntS_info
  have hb0 : i0.bytes * n ≤ 281474976710656 := by rw [hz2]; omega
  have HL := Lib.hid h.1
  have hcases := h.2
  clear h
  go_enter Tryz.func55, Tryz.ntmps55
  go_wp2_with (at_make; refine wpList_make_full _ rfl _ _ 35 rfl w.heap.size 3 i0 _ 1 Tryz.underlying35 hi0 hz0 hz1 .i64 .i64 _ _ n rfl rfl rfl rfl hb0 (by unfold maxLen; omega) (by simp) ?_; intro w1 hown hgr)
  have hfill0 := Fill.start (g := w.heap.size) (es := es) (Below.refl w.heap.size w) (Nat.le_refl _) rfl hown hgr
  clear hown hgr hi0 hz0 hz1 hz2 hb0
  go_wp2
  go_loopw [4] (fun i wr => ∃ k : Nat, k ≤ n ∧ i = .int .i64 k ∧ Fill w.heap.size w.heap.size 1 n w wr k es) (fun i _ => n - (intOf i).toNat)
  case atStart => exact ⟨0, Nat.zero_le _, rfl, hfill0⟩
  case round =>
    obtain ⟨k, hk, rfl, hfill⟩ := hrel
    clear hfill0
    by_cases hlt : k < n
    · obtain ⟨b, off, rfl, hb, hc⟩ := hcases.resolve_left (by omega)
      have c0 : wr.cell? ⟨b, off + k, none⟩ = some (.int .i64 (fld es k 0)) := (hfill.below.cell (p := ⟨b, off + k, none⟩) hb).trans (by simpa using hc k hlt 0 (by omega))
      clear hcases hc
      have hset := hfill.set (vs := [.int .i64 (fld es k 0)]) (Nat.le_refl _) hlt rfl (by intro j hj; match j, hj with | 0, _ => rfl)
      rw [Nat.mul_one] at hset
      obtain ⟨r0, q0⟩ := Option.isSome_iff_exists.1 (hfill.room k (by omega))
      have z0 := hfill.fz k
      clear hfill
      go_wp2
      go_roundw
      case rel => exact ⟨k + 1, by omega, by go_num, hset⟩
      case measure => simp [intOf]; omega
    · have hkn : k = n := by omega
      subst hkn
      have hown := hfill.own (Nat.le_refl _) HL.out
      have hbel := hfill.below
      clear hfill hcases
      go_wp2
      go_ret
      exact ⟨_, _, rfl, hown, hbel⟩

set_option maxHeartbeats 400000 in
theorem szIntS_any (A : Option Addr) (n c : Nat) (l : Int) (w : World) (hn : n ≤ 9223372036854775807) (h0 : 0 ≤ l) (h1 : l ≤ 1048576) :
    Calls Tryz.prog 45 #[.slice A n c, .int .i64 l] w fun x w' => x = .returned (.int .i64 (if (n : Int) ≤ l then l - n else -1)) ∧ w = w' := by
  by_cases h : (n : Int) ≤ l
  · rw [if_pos h]
    go_enter Tryz.func45, Tryz.ntmps45
    go_wp2
    go_ret
    exact ⟨rfl, rfl⟩
  · rw [if_neg h]
    go_enter Tryz.func45, Tryz.ntmps45
    go_wp2
    go_ret
    exact ⟨rfl, rfl⟩

set_option maxHeartbeats 1000000 in
theorem eqIntS_same (A A2 : Option Addr) (n c c2 : Nat) (es : List (Nat → Int)) (w : World) (hn : n ≤ 4194304) (h : Rd w 1 A n es) (h2 : Rd w 1 A2 n es) :
    Calls Tryz.prog 60 #[.slice A n c, .slice A2 n c2] w fun x w' => x = .returned (.bool true) ∧ Below w.heap.size w w' := by
  have hcases := h.2
  have hcases2 := h2.2
  clear h h2
  go_enter Tryz.func60, Tryz.ntmps60
  go_wp2
  go_loopw [5] (fun i wr => ∃ k : Nat, k ≤ n ∧ i = .int .i64 k ∧ Below w.heap.size w wr) (fun i _ => n - (intOf i).toNat)
  case atStart => exact ⟨0, Nat.zero_le _, rfl, Below.refl _ _⟩
  case round =>
    obtain ⟨k, hk, rfl, hbel⟩ := hrel
    by_cases hlt : k < n
    · obtain ⟨b, off, rfl, hb, hc⟩ := hcases.resolve_left (by omega)
      obtain ⟨b2, off2, rfl, hb2, hc2⟩ := hcases2.resolve_left (by omega)
      have c0 : wr.cell? ⟨b, off + k, none⟩ = some (.int .i64 (fld es k 0)) := (hbel.cell (p := ⟨b, off + k, none⟩) hb).trans (by simpa using hc k hlt 0 (by omega))
      have d0 : wr.cell? ⟨b2, off2 + k, none⟩ = some (.int .i64 (fld es k 0)) := (hbel.cell (p := ⟨b2, off2 + k, none⟩) hb2).trans (by simpa using hc2 k hlt 0 (by omega))
      clear hcases hc hcases2 hc2
      go_wp2
      go_region_held3 (fun w' => w'.cell? ⟨b, off + k, none⟩ = some (.int .i64 (fld es k 0)) ∧ w'.cell? ⟨b2, off2 + k, none⟩ = some (.int .i64 (fld es k 0))) (go_keep) (fail)
      go_wp2
      go_roundw
      case rel => exact ⟨k + 1, by omega, by go_num, by first | exact hbel.drew | exact hbel⟩
      case measure => simp [intOf]; omega
    · go_wp2
      go_ret
      exact ⟨rfl, hbel⟩

end Go.Proofs.YtjlmcppkafjniaaGreat

namespace Go.Proofs.YtjlmcppkafjniaaGreat
open Go.RowKit

/-- The numbers of the rules are right: Tiers, Room, Size, Period, Window, Rest, Tries, Crew. -/
def RInts (r : Nat → Int) : Prop := (1 ≤ r 1 ∧ r 1 ≤ 5) ∧ (1 ≤ r 2 ∧ r 2 ≤ 10) ∧ (1 ≤ r 3 ∧ r 3 ≤ 6) ∧ (1 ≤ r 4 ∧ r 4 ≤ 12) ∧ (1 ≤ r 5 ∧ r 5 ≤ 8) ∧ (0 ≤ r 6 ∧ r 6 ≤ 8) ∧ (1 ≤ r 7 ∧ r 7 ≤ 4) ∧ (1 ≤ r 8 ∧ r 8 ≤ 3)
def ROk (n : Nat) (es : List (Nat → Int)) (r : Nat → Int) : Prop := ((1 : Int) ≤ n ∧ (n : Int) ≤ 4) ∧ RInts r ∧ ∀ i, i < n → 1 ≤ fld es i 0 ∧ fld es i 0 ≤ 60
theorem ROk.bd {n : Nat} {es : List (Nat → Int)} {r : Nat → Int} (h : ROk n es r) : ((1 : Int) ≤ n ∧ (n : Int) ≤ 4) ∧ RInts r := ⟨h.1, h.2.1⟩

set_option maxHeartbeats 1000000 in
theorem toRules_any (A : Option Addr) (n c : Nat) (es : List (Nat → Int)) (r : Nat → Int) (w : World) (hn : n ≤ 1048576) (h : Rd w 1 A n es) :
    Calls Tryz.prog 17 #[.agg #[.slice A n c, .int .i64 (r 1), .int .i64 (r 2), .int .i64 (r 3), .int .i64 (r 4), .int .i64 (r 5), .int .i64 (r 6), .int .i64 (r 7), .int .i64 (r 8)]] w fun x w' => ∃ A2 c2, x = .returned (.agg #[.slice A2 n c2, .int .i64 (r 1), .int .i64 (r 2), .int .i64 (r 3), .int .i64 (r 4), .int .i64 (r 5), .int .i64 (r 6), .int .i64 (r 7), .int .i64 (r 8)]) ∧ Own w.heap.size w' 1 A2 n es ∧ Below w.heap.size w w' := by
  have H := Lib.hid h
  clear h
  go_enter Tryz.func17, Tryz.ntmps17
  go_wp2_with fail
  refine (toIntS_any A n c es _ hn (H.out.below (by (repeat (first | with_reducible exact Below.refl _ _ | with_reducible refine Below.drew ?_ | with_reducible refine below_drewN ?_ _ | (with_reducible refine bel_alloc ?_ ?_ _; (first | omega | (simp; omega) | simp)) | (with_reducible refine bel_set ?_ ?_ _; (first | omega | (simp; omega) | simp)) | (with_reducible refine bel_tr (by assumption) ?_ ?_; (first | omega | (simp; omega) | simp))))))).mono ?_
  rintro x w1 ⟨A2, c2, rfl, o1, hb1⟩
  have bc1 := bcell hb1; obtain ⟨hc1, hf1⟩ := bc1; have ks1 := hb1.size; (try simp at ks1); have kc10 : ∀ o, w1.cell? ⟨w.heap.size, o, none⟩ = _ := (fun o => hb1.cell (p := ⟨w.heap.size, o, none⟩) (by (first | omega | (simp; omega) | simp))); have kf10 : ∀ o, w1.frozen? ⟨w.heap.size, o, none⟩ = _ := (fun o => hb1.frozen (p := ⟨w.heap.size, o, none⟩) (by (first | omega | (simp; omega) | simp))); have kc11 : ∀ o, w1.cell? ⟨w.heap.size + 1, o, none⟩ = _ := (fun o => hb1.cell (p := ⟨w.heap.size + 1, o, none⟩) (by (first | omega | (simp; omega) | simp))); have kf11 : ∀ o, w1.frozen? ⟨w.heap.size + 1, o, none⟩ = _ := (fun o => hb1.frozen (p := ⟨w.heap.size + 1, o, none⟩) (by (first | omega | (simp; omega) | simp))); have kc12 : ∀ o, w1.cell? ⟨w.heap.size + 1 + 1, o, none⟩ = _ := (fun o => hb1.cell (p := ⟨w.heap.size + 1 + 1, o, none⟩) (by (first | omega | (simp; omega) | simp))); have kf12 : ∀ o, w1.frozen? ⟨w.heap.size + 1 + 1, o, none⟩ = _ := (fun o => hb1.frozen (p := ⟨w.heap.size + 1 + 1, o, none⟩) (by (first | omega | (simp; omega) | simp))); have kz10 : w.heap.size < w1.heap.size := (by have hh := hb1.size; (try simp at hh); omega); have kz11 : w.heap.size + 1 < w1.heap.size := (by have hh := hb1.size; (try simp at hh); omega); have kz12 : w.heap.size + 1 + 1 < w1.heap.size := (by have hh := hb1.size; (try simp at hh); omega)
  have O := Lib.hid o1
  clear o1
  go_wp2
  refine bodyPost_ret (v := .agg #[.slice A2 n c2, .int .i64 (r 1), .int .i64 (r 2), .int .i64 (r 3), .int .i64 (r 4), .int .i64 (r 5), .int .i64 (r 6), .int .i64 (r 7), .int .i64 (r 8)]) (by simp only [results, Tryz.results17]; go_simp) rfl ⟨A2, c2, rfl, ?_, ?_⟩
  · refine Own.mono (B := w.heap.size + 3) ?_ (by omega)
    have o1 := O.out
    simp only [World.size_alloc] at o1
    (repeat (first | with_reducible assumption | (with_reducible refine Own.set_ ?_ ?_ _; (first | omega | (simp; omega) | simp)) | with_reducible refine Own.alloc_ ?_ _ | with_reducible refine Own.drew_ ?_))
  · (repeat (first | with_reducible exact Below.refl _ _ | with_reducible refine Below.drew ?_ | with_reducible refine below_drewN ?_ _ | (with_reducible refine bel_alloc ?_ ?_ _; (first | omega | (simp; omega) | simp)) | (with_reducible refine bel_set ?_ ?_ _; (first | omega | (simp; omega) | simp)) | (with_reducible refine bel_tr (by assumption) ?_ ?_; (first | omega | (simp; omega) | simp))))

set_option maxHeartbeats 400000 in
theorem szRules_any (A : Option Addr) (n c : Nat) (r : Nat → Int) (l : Int) (w : World) (hn : n ≤ 9223372036854775807) (h0 : 0 ≤ l) (h1 : l ≤ 1048576) :
    Calls Tryz.prog 13 #[.agg #[.slice A n c, .int .i64 (r 1), .int .i64 (r 2), .int .i64 (r 3), .int .i64 (r 4), .int .i64 (r 5), .int .i64 (r 6), .int .i64 (r 7), .int .i64 (r 8)], .int .i64 l] w fun x w' => x = .returned (.int .i64 (if (n : Int) ≤ l then l - n else -1)) ∧ Below w.heap.size w w' := by
  by_cases h : (n : Int) ≤ l
  · have HS := Lib.hid (szIntS_any A n c l)
    rw [if_pos h]
    have hx : 0 ≤ l - n := by omega
    go_enter Tryz.func13, Tryz.ntmps13
    go_wp2_with fail
    refine (HS.out _ hn h0 h1).mono ?_
    rw [if_pos h]
    rintro x w1 ⟨rfl, rfl⟩
    go_wp2
    go_ret
    refine ⟨rfl, ?_⟩
    (repeat (first | with_reducible exact Below.refl _ _ | with_reducible refine Below.drew ?_ | with_reducible refine below_drewN ?_ _ | (with_reducible refine bel_alloc ?_ ?_ _; (first | omega | (simp; omega) | simp)) | (with_reducible refine bel_set ?_ ?_ _; (first | omega | (simp; omega) | simp)) | (with_reducible refine bel_tr (by assumption) ?_ ?_; (first | omega | (simp; omega) | simp))))
  · have HS := Lib.hid (szIntS_any A n c l)
    rw [if_neg h]
    go_enter Tryz.func13, Tryz.ntmps13
    go_wp2_with fail
    refine (HS.out _ hn h0 h1).mono ?_
    rw [if_neg (by omega)]
    rintro x w1 ⟨rfl, rfl⟩
    go_wp2
    go_ret
    refine ⟨rfl, ?_⟩
    (repeat (first | with_reducible exact Below.refl _ _ | with_reducible refine Below.drew ?_ | with_reducible refine below_drewN ?_ _ | (with_reducible refine bel_alloc ?_ ?_ _; (first | omega | (simp; omega) | simp)) | (with_reducible refine bel_set ?_ ?_ _; (first | omega | (simp; omega) | simp)) | (with_reducible refine bel_tr (by assumption) ?_ ?_; (first | omega | (simp; omega) | simp))))

set_option maxHeartbeats 1000000 in
theorem eqRules_same (A A2 : Option Addr) (n c c2 : Nat) (es : List (Nat → Int)) (r : Nat → Int) (w : World) (hn : n ≤ 4194304) (h : Rd w 1 A n es) (h2 : Rd w 1 A2 n es) :
    Calls Tryz.prog 20 #[.agg #[.slice A n c, .int .i64 (r 1), .int .i64 (r 2), .int .i64 (r 3), .int .i64 (r 4), .int .i64 (r 5), .int .i64 (r 6), .int .i64 (r 7), .int .i64 (r 8)], .agg #[.slice A2 n c2, .int .i64 (r 1), .int .i64 (r 2), .int .i64 (r 3), .int .i64 (r 4), .int .i64 (r 5), .int .i64 (r 6), .int .i64 (r 7), .int .i64 (r 8)]] w fun x w' => x = .returned (.bool true) ∧ Below w.heap.size w w' := by
  have H := Lib.hid h
  have H2 := Lib.hid h2
  clear h h2
  go_enter Tryz.func20, Tryz.ntmps20
  go_wp2_with fail
  refine (eqIntS_same A A2 n c c2 es _ hn (H.out.below (by (repeat (first | with_reducible exact Below.refl _ _ | with_reducible refine Below.drew ?_ | with_reducible refine below_drewN ?_ _ | (with_reducible refine bel_alloc ?_ ?_ _; (first | omega | (simp; omega) | simp)) | (with_reducible refine bel_set ?_ ?_ _; (first | omega | (simp; omega) | simp)) | (with_reducible refine bel_tr (by assumption) ?_ ?_; (first | omega | (simp; omega) | simp)))))) (H2.out.below (by (repeat (first | with_reducible exact Below.refl _ _ | with_reducible refine Below.drew ?_ | with_reducible refine below_drewN ?_ _ | (with_reducible refine bel_alloc ?_ ?_ _; (first | omega | (simp; omega) | simp)) | (with_reducible refine bel_set ?_ ?_ _; (first | omega | (simp; omega) | simp)) | (with_reducible refine bel_tr (by assumption) ?_ ?_; (first | omega | (simp; omega) | simp))))))).mono ?_
  rintro x w1 ⟨rfl, hb1⟩
  have bc1 := bcell hb1; obtain ⟨hc1, hf1⟩ := bc1; have ks1 := hb1.size; (try simp at ks1); have kc10 : ∀ o, w1.cell? ⟨w.heap.size, o, none⟩ = _ := (fun o => hb1.cell (p := ⟨w.heap.size, o, none⟩) (by (first | omega | (simp; omega) | simp))); have kf10 : ∀ o, w1.frozen? ⟨w.heap.size, o, none⟩ = _ := (fun o => hb1.frozen (p := ⟨w.heap.size, o, none⟩) (by (first | omega | (simp; omega) | simp))); have kc11 : ∀ o, w1.cell? ⟨w.heap.size + 1, o, none⟩ = _ := (fun o => hb1.cell (p := ⟨w.heap.size + 1, o, none⟩) (by (first | omega | (simp; omega) | simp))); have kf11 : ∀ o, w1.frozen? ⟨w.heap.size + 1, o, none⟩ = _ := (fun o => hb1.frozen (p := ⟨w.heap.size + 1, o, none⟩) (by (first | omega | (simp; omega) | simp))); have kz10 : w.heap.size < w1.heap.size := (by have hh := hb1.size; (try simp at hh); omega); have kz11 : w.heap.size + 1 < w1.heap.size := (by have hh := hb1.size; (try simp at hh); omega)
  go_wp2
  go_ret
  refine ⟨rfl, ?_⟩
  (repeat (first | with_reducible exact Below.refl _ _ | with_reducible refine Below.drew ?_ | with_reducible refine below_drewN ?_ _ | (with_reducible refine bel_alloc ?_ ?_ _; (first | omega | (simp; omega) | simp)) | (with_reducible refine bel_set ?_ ?_ _; (first | omega | (simp; omega) | simp)) | (with_reducible refine bel_tr (by assumption) ?_ ?_; (first | omega | (simp; omega) | simp))))

set_option maxHeartbeats 2000000 in
theorem spec_RulesOk (A : Option Addr) (n c : Nat) (es : List (Nat → Int)) (r : Nat → Int) (w : World) (hn : n ≤ 4194304) (h : Rd w 1 A n es) :
    Calls Tryz.prog 146 #[.agg #[.slice A n c, .int .i64 (r 1), .int .i64 (r 2), .int .i64 (r 3), .int .i64 (r 4), .int .i64 (r 5), .int .i64 (r 6), .int .i64 (r 7), .int .i64 (r 8)]] w (TFB (ROk n es r) w) := by
  have hcases := h.2
  clear h
  go_enter Tryz.func146, Tryz.ntmps146
  go_wp2_with (go_at_call 44; refine (l1In_any _ _ _ _).mono ?_; rintro e w2 (⟨rfl, ⟨h1, h2⟩, rfl⟩ | ⟨rfl, h1, rfl⟩))
  all_goals try (go_ret; exact .inr ⟨rfl, (fun hh => by (obtain ⟨k1, k2⟩ := hh.bd; unfold RInts at k2; omega)), (Below.refl _ _).alloc (Nat.le_refl _) _⟩)
  go_loop [3] (fun i => ∃ k : Nat, k ≤ n ∧ i = .int .i64 k ∧ Hid (∀ i, i < k → 1 ≤ fld es i 0 ∧ fld es i 0 ≤ 60)) (fun i => n - (intOf i).toNat)
  case atStart => exact ⟨0, Nat.zero_le _, rfl, fun i hi => absurd hi (by omega)⟩
  case round =>
    obtain ⟨k, hk, rfl, hall⟩ := hrel
    by_cases hlt : k < n
    · obtain ⟨b, off, rfl, hb, hc⟩ := hcases.resolve_left (by omega)
      have c0 : w.cell? ⟨b, off + k, none⟩ = some (.int .i64 (fld es k 0)) := by simpa using hc k hlt 0 (by omega)
      clear hcases hc
      by_cases ht : 1 ≤ fld es k 0 ∧ fld es k 0 ≤ 60
      · have hall' : Hid (∀ i, i < k + 1 → 1 ≤ fld es i 0 ∧ fld es i 0 ≤ 60) := fun i hi => by
          rcases Nat.lt_or_ge i k with h | h
          · exact hall.out i h
          · obtain rfl : i = k := by omega
            exact ht
        clear hall
        go_wp2_with (go_at_call 44; refine (sy (l1In_any _ _ _ _) ht).mono ?_; rintro e w2 ⟨rfl, rfl⟩)
        go_round
        case rel => exact ⟨k + 1, by omega, by go_num, hall'⟩
        case measure => simp [intOf]; omega
      · go_wp2_with (go_at_call 44; refine (sn (l1In_any _ _ _ _) ht).mono ?_; rintro e w2 ⟨rfl, rfl⟩)
        go_ret
        exact .inr ⟨rfl, (fun hh => ht (hh.2.2 k hlt)), (Below.refl _ _).alloc (Nat.le_refl _) _⟩
    · have hkn : k = n := by omega
      subst hkn
      clear hcases
      go_wp2_with (go_at_call 44; refine (l1In_any _ _ _ _).mono ?_; rintro e w2 (⟨rfl, ⟨h1, h2⟩, rfl⟩ | ⟨rfl, h1, rfl⟩))
      all_goals go_ret
      all_goals first
        | exact .inr ⟨rfl, (fun hh => by (obtain ⟨k1, k2⟩ := hh.bd; unfold RInts at k2; omega)), (Below.refl _ _).alloc (Nat.le_refl _) _⟩
        | exact .inl ⟨rfl, ⟨by omega, by unfold RInts; omega, hall.out⟩, (Below.refl _ _).alloc (Nat.le_refl _) _⟩

set_option maxHeartbeats 2000000 in
theorem impl_RulesOk (A : Option Addr) (n c : Nat) (es : List (Nat → Int)) (r : Nat → Int) (w : World) (hn : n ≤ 4194304) (h : Rd w 1 A n es) :
    Calls Tryz.prog 120 #[.agg #[.slice A n c, .int .i64 (r 1), .int .i64 (r 2), .int .i64 (r 3), .int .i64 (r 4), .int .i64 (r 5), .int .i64 (r 6), .int .i64 (r 7), .int .i64 (r 8)]] w (TFB (ROk n es r) w) := by
  have hcases := h.2
  clear h
  go_enter Tryz.func120, Tryz.ntmps120
  go_wp2_with (go_at_call 76; refine (within_any _ _ _ _).mono ?_; rintro e w2 (⟨rfl, ⟨h1, h2⟩, rfl⟩ | ⟨rfl, h1, rfl⟩))
  all_goals try (go_ret; exact .inr ⟨rfl, (fun hh => by (obtain ⟨k1, k2⟩ := hh.bd; unfold RInts at k2; omega)), (Below.refl _ _).alloc (Nat.le_refl _) _⟩)
  go_loop [4, 13] (fun j i => ∃ k : Nat, k ≤ n ∧ i = .int .i64 k ∧ Hid (∀ i, i < k → 1 ≤ fld es i 0 ∧ fld es i 0 ≤ 60)) (fun _ i => n - (intOf i).toNat)
  case atStart => exact ⟨0, Nat.zero_le _, rfl, fun i hi => absurd hi (by omega)⟩
  case round =>
    obtain ⟨k, hk, rfl, hall⟩ := hrel
    by_cases hlt : k < n
    · obtain ⟨b, off, rfl, hb, hc⟩ := hcases.resolve_left (by omega)
      have c0 : w.cell? ⟨b, off + k, none⟩ = some (.int .i64 (fld es k 0)) := by simpa using hc k hlt 0 (by omega)
      clear hcases hc
      by_cases ht : 1 ≤ fld es k 0 ∧ fld es k 0 ≤ 60
      · have hall' : Hid (∀ i, i < k + 1 → 1 ≤ fld es i 0 ∧ fld es i 0 ≤ 60) := fun i hi => by
          rcases Nat.lt_or_ge i k with h | h
          · exact hall.out i h
          · obtain rfl : i = k := by omega
            exact ht
        clear hall
        go_wp2_with (go_at_call 76; refine (sy (within_any _ _ _ _) ht).mono ?_; rintro e w2 ⟨rfl, rfl⟩)
        go_round
        case rel => exact ⟨k + 1, by omega, by go_num, hall'⟩
        case measure => simp [intOf]; omega
      · go_wp2_with (go_at_call 76; refine (sn (within_any _ _ _ _) ht).mono ?_; rintro e w2 ⟨rfl, rfl⟩)
        go_ret
        exact .inr ⟨rfl, (fun hh => ht (hh.2.2 k hlt)), (Below.refl _ _).alloc (Nat.le_refl _) _⟩
    · have hkn : k = n := by omega
      subst hkn
      clear hcases
      go_wp2_with (go_at_call 76; refine (within_any _ _ _ _).mono ?_; rintro e w2 (⟨rfl, ⟨h1, h2⟩, rfl⟩ | ⟨rfl, h1, rfl⟩))
      all_goals go_ret
      all_goals first
        | exact .inr ⟨rfl, (fun hh => by (obtain ⟨k1, k2⟩ := hh.bd; unfold RInts at k2; omega)), (Below.refl _ _).alloc (Nat.le_refl _) _⟩
        | exact .inl ⟨rfl, ⟨by omega, by unfold RInts; omega, hall.out⟩, (Below.refl _ _).alloc (Nat.le_refl _) _⟩

end Go.Proofs.YtjlmcppkafjniaaGreat
