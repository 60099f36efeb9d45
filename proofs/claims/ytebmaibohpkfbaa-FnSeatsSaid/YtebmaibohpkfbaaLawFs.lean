/-
  Walk of the law FnSeats: it returns true and leaves old memory alone.
-/
import Derived.Test.YtebmaibohpkfbaaLawsM
import Derived.Test.YtebmaibohpkfbaaLawsB
import Derived.Test.YtebmaibohpkfbaaBy
namespace Go.Proofs.Ytebmaibohpkfbaa
open Go.RowKit

theorem at0_int (A : Option Addr) (n c : Nat) (i : Int) (w : World) (hn : n ≤ 1048576) (h0 : 0 ≤ i) (h1 : i ≤ 1048576) (h : RdB w A n) :
    Calls Try.prog 7 #[.slice A n c, .int .i64 i] w fun e w' => ∃ x : Int, e = .returned (.int .i64 x) ∧ (0 ≤ x ∧ x ≤ 255) ∧ w = w' := by
  obtain ⟨k, rfl⟩ : ∃ k : Nat, i = k := ⟨i.toNat, by omega⟩
  exact at0_any A n c k w hn (by omega) h

set_option maxRecDepth 100000 in
set_option maxHeartbeats 8000000 in
theorem lawFnSeats (A : Option Addr) (n c : Nat) (w : World) (hn0 : n ≤ 9223372036854775807) (hB : RdB w A n) :
    Calls Try.prog 3 #[.slice A n c] w fun y w' => y = .returned (.bool true) ∧ Below w.heap.size w w' := by
  by_cases hn : n ≤ 1048576
  case neg =>
    have hbig : decide (1048576 < n) = true := by simp; omega
    go_enter Try.func3, Try.ntmps3
    go_wp2_with fail
    refine (big_any A n c _).mono ?_
    rintro y _ ⟨rfl, rfl⟩
    go_wp2
    go_ret
    exact ⟨rfl, Below.refl _ _⟩
  have HB := Lib.hid hB
  clear hB
  go_enter Try.func3, Try.ntmps3
  go_wp2_with fail
  refine (big_any A n c _).mono ?_
  rintro y _ ⟨rfl, rfl⟩
  have hbig : decide (1048576 < n) = false := by simpa using hn
  go_wp2_with fail
  refine (at0_int A n c 0 _ hn (by omega) (by omega) HB.out).mono ?_
  rintro y _ ⟨x, rfl, ⟨hx0, hx1⟩, rfl⟩
  obtain ⟨T, hT⟩ : ∃ T : Int, T = 1 + x % 60 := ⟨_, rfl⟩
  have hT0 : LOk T 0 0 T 0 := by unfold LOk; omega
  go_wp2_with fail
  try rw [← hT]
  refine (impl_New_y T _ hT0).mono ?_
  rintro y w1 ⟨rfl, b1⟩
  have s1 := b1.size
  have HT := Lib.hid hT0
  clear hT hT0
  go_wp2
  go_loopw [5] (fun i wr => ∃ k : Nat, k ≤ 12 ∧ i = .int .i64 k ∧ ∃ t f h s d : Int, LOk t f h s d ∧ Below w.heap.size w wr ∧ w1.heap.size < wr.heap.size ∧ wr.cell? ⟨w1.heap.size, 0, none⟩ = some (.int .i64 t) ∧ wr.cell? ⟨w1.heap.size, 1, none⟩ = some (.int .i64 f) ∧ wr.cell? ⟨w1.heap.size, 2, none⟩ = some (.int .i64 h) ∧ wr.cell? ⟨w1.heap.size, 3, none⟩ = some (.int .i64 s) ∧ wr.cell? ⟨w1.heap.size, 4, none⟩ = some (.int .i64 d) ∧ (∀ o, wr.frozen? ⟨w1.heap.size, o, none⟩ = false)) (fun i _ => 12 - (intOf i).toNat)
  case atStart => exact ⟨0, by omega, rfl, T, 0, 0, T, 0, HT.out, by (repeat (first | with_reducible exact Below.refl _ _ | with_reducible refine Below.drew ?_ | with_reducible refine below_drewN ?_ _ | (with_reducible refine bel_alloc ?_ ?_ _; (first | omega | (simp; omega) | simp)) | (with_reducible refine bel_set ?_ ?_ _; (first | omega | (simp; omega) | simp)) | (with_reducible refine bel_tr (by assumption) ?_ ?_; (first | omega | (simp; omega) | simp)))), by (first | omega | (simp; omega) | simp), by (first | (go_keep; done) | (go_simp; done)), by (first | (go_keep; done) | (go_simp; done)), by (first | (go_keep; done) | (go_simp; done)), by (first | (go_keep; done) | (go_simp; done)), by (first | (go_keep; done) | (go_simp; done)), fun o => by simp⟩
  case round =>
    obtain ⟨k, hk, rfl, t, f, h, s, d, hL, hbel, hlt, c0, c1, c2, c3, c4, hfz⟩ := hrel
    by_cases hk12 : k < 12
    case neg =>
      go_wp2
      go_ret
      exact ⟨rfl, hbel⟩
    have hki : (k : Int) < 12 := by omega
    go_wp2_with fail
    refine (at0_int A n c _ _ hn (by omega) (by omega) (HB.out.below hbel)).mono ?_
    rintro y _ ⟨x1, rfl, ⟨hx10, hx11⟩, rfl⟩
    go_wp2_with fail
    refine (at0_int A n c _ _ hn (by omega) (by omega) (HB.out.below (by (repeat (first | with_reducible exact Below.refl _ _ | with_reducible refine Below.drew ?_ | with_reducible refine below_drewN ?_ _ | (with_reducible refine bel_alloc ?_ ?_ _; (first | omega | (simp; omega) | simp)) | (with_reducible refine bel_set ?_ ?_ _; (first | omega | (simp; omega) | simp)) | (with_reducible refine bel_tr (by assumption) ?_ ?_; (first | omega | (simp; omega) | simp))))))).mono ?_
    rintro y _ ⟨x2, rfl, ⟨hx20, hx21⟩, rfl⟩
    have hnn : 0 ≤ x1 % 9 ∧ x1 % 9 ≤ 8 := by omega
    obtain ⟨hnn0, hnn1⟩ := hnn
    have hv6 : x2 % 6 = 0 ∨ x2 % 6 = 1 ∨ x2 % 6 = 2 ∨ x2 % 6 = 3 ∨ x2 % 6 = 4 ∨ x2 % 6 = 5 := by omega
    generalize x1 % 9 = nn at *
    rcases hv6 with hv | hv | hv | hv | hv | hv
    · by_cases hA : LOk t f h s d ∧ (0 ≤ nn ∧ nn ≤ 60) ∧ LOk (t) (f + nn) (h) (s - nn) (d)
      · have hL1 := hA.2.2
        go_wp2_with fail
        refine (my (impl_Free _ _ _ _ _ _ _) hA).mono ?_
        rintro y w4 ⟨rfl, b4⟩
        have s4 := b4.size
        (try simp at s4)
        have kc4 : ∀ o, w4.cell? ⟨w1.heap.size, o, none⟩ = _ := fun o => b4.cell (p := ⟨w1.heap.size, o, none⟩) (by (first | omega | (simp; omega) | simp))
        have kf4 : ∀ o, w4.frozen? ⟨w1.heap.size, o, none⟩ = _ := fun o => b4.frozen (p := ⟨w1.heap.size, o, none⟩) (by (first | omega | (simp; omega) | simp))
        have kw4 : ∀ o, w4.cell? ⟨wr.heap.size, o, none⟩ = _ := fun o => b4.cell (p := ⟨wr.heap.size, o, none⟩) (by (first | omega | (simp; omega) | simp))
        clear hA hL
        simp only [List.map_cons, List.map_nil]
        go_wp2_with (first | (go_at_call 13; go_must (refine (ty (okS_any _ _ _ _ _ _) hL1).mono ?_); rintro y w5 ⟨rfl, b5⟩; have s5 := b5.size; (try simp at s5); have kc5 : ∀ o, w5.cell? ⟨w1.heap.size, o, none⟩ = _ := fun o => b5.cell (p := ⟨w1.heap.size, o, none⟩) (by (first | omega | (simp; omega) | simp)); have kf5 : ∀ o, w5.frozen? ⟨w1.heap.size, o, none⟩ = _ := fun o => b5.frozen (p := ⟨w1.heap.size, o, none⟩) (by (first | omega | (simp; omega) | simp)); have kw5 : ∀ o, w5.cell? ⟨wr.heap.size, o, none⟩ = _ := fun o => b5.cell (p := ⟨wr.heap.size, o, none⟩) (by (first | omega | (simp; omega) | simp))) | (go_at_call 14; go_must (refine (ty (okI_any _ _ _ _ _ _) hL1).mono ?_); rintro y w6 ⟨rfl, b6⟩; have s6 := b6.size; (try simp at s6); have kc6 : ∀ o, w6.cell? ⟨w1.heap.size, o, none⟩ = _ := fun o => b6.cell (p := ⟨w1.heap.size, o, none⟩) (by (first | omega | (simp; omega) | simp)); have kf6 : ∀ o, w6.frozen? ⟨w1.heap.size, o, none⟩ = _ := fun o => b6.frozen (p := ⟨w1.heap.size, o, none⟩) (by (first | omega | (simp; omega) | simp)); have kw6 : ∀ o, w6.cell? ⟨wr.heap.size, o, none⟩ = _ := fun o => b6.cell (p := ⟨wr.heap.size, o, none⟩) (by (first | omega | (simp; omega) | simp))))
        all_goals (try (exfalso; rename_i hq; apply hq; unfold LOk at hL1; unfold wrap64; omega))
        go_roundw
        case rel => exact ⟨k + 1, by omega, by go_num, t, f + nn, h, s - nn, d, hL1, by (repeat (first | with_reducible exact Below.refl _ _ | with_reducible refine Below.drew ?_ | with_reducible refine below_drewN ?_ _ | (with_reducible refine bel_alloc ?_ ?_ _; (first | omega | (simp; omega) | simp)) | (with_reducible refine bel_set ?_ ?_ _; (first | omega | (simp; omega) | simp)) | (with_reducible refine bel_tr (by assumption) ?_ ?_; (first | omega | (simp; omega) | simp)))), by (first | omega | (simp; omega) | simp), by (first | (go_keep; done) | (go_simp; done)), by (first | (go_keep; done) | (go_simp; done)), by (first | (go_keep; done) | (go_simp; done)), by (first | (go_keep; done) | (go_simp; done)), by (first | (go_keep; done) | (go_simp; done)), fun o => by first | (simp [*]; done) | (go_simp; done)⟩
        case measure => simp [intOf]; omega
      · have hL1 := hL
        go_wp2_with fail
        refine (mn (impl_Free _ _ _ _ _ _ _) hA).mono ?_
        rintro y w4 ⟨rfl, b4⟩
        have s4 := b4.size
        (try simp at s4)
        have kc4 : ∀ o, w4.cell? ⟨w1.heap.size, o, none⟩ = _ := fun o => b4.cell (p := ⟨w1.heap.size, o, none⟩) (by (first | omega | (simp; omega) | simp))
        have kf4 : ∀ o, w4.frozen? ⟨w1.heap.size, o, none⟩ = _ := fun o => b4.frozen (p := ⟨w1.heap.size, o, none⟩) (by (first | omega | (simp; omega) | simp))
        have kw4 : ∀ o, w4.cell? ⟨wr.heap.size, o, none⟩ = _ := fun o => b4.cell (p := ⟨wr.heap.size, o, none⟩) (by (first | omega | (simp; omega) | simp))
        clear hA hL
        simp only [List.map_cons, List.map_nil]
        go_wp2_with (first | (go_at_call 13; go_must (refine (ty (okS_any _ _ _ _ _ _) hL1).mono ?_); rintro y w5 ⟨rfl, b5⟩; have s5 := b5.size; (try simp at s5); have kc5 : ∀ o, w5.cell? ⟨w1.heap.size, o, none⟩ = _ := fun o => b5.cell (p := ⟨w1.heap.size, o, none⟩) (by (first | omega | (simp; omega) | simp)); have kf5 : ∀ o, w5.frozen? ⟨w1.heap.size, o, none⟩ = _ := fun o => b5.frozen (p := ⟨w1.heap.size, o, none⟩) (by (first | omega | (simp; omega) | simp)); have kw5 : ∀ o, w5.cell? ⟨wr.heap.size, o, none⟩ = _ := fun o => b5.cell (p := ⟨wr.heap.size, o, none⟩) (by (first | omega | (simp; omega) | simp))) | (go_at_call 14; go_must (refine (ty (okI_any _ _ _ _ _ _) hL1).mono ?_); rintro y w6 ⟨rfl, b6⟩; have s6 := b6.size; (try simp at s6); have kc6 : ∀ o, w6.cell? ⟨w1.heap.size, o, none⟩ = _ := fun o => b6.cell (p := ⟨w1.heap.size, o, none⟩) (by (first | omega | (simp; omega) | simp)); have kf6 : ∀ o, w6.frozen? ⟨w1.heap.size, o, none⟩ = _ := fun o => b6.frozen (p := ⟨w1.heap.size, o, none⟩) (by (first | omega | (simp; omega) | simp)); have kw6 : ∀ o, w6.cell? ⟨wr.heap.size, o, none⟩ = _ := fun o => b6.cell (p := ⟨wr.heap.size, o, none⟩) (by (first | omega | (simp; omega) | simp))))
        all_goals (try (exfalso; rename_i hq; apply hq; unfold LOk at hL1; unfold wrap64; omega))
        go_roundw
        case rel => exact ⟨k + 1, by omega, by go_num, t, f, h, s, d, hL1, by (repeat (first | with_reducible exact Below.refl _ _ | with_reducible refine Below.drew ?_ | with_reducible refine below_drewN ?_ _ | (with_reducible refine bel_alloc ?_ ?_ _; (first | omega | (simp; omega) | simp)) | (with_reducible refine bel_set ?_ ?_ _; (first | omega | (simp; omega) | simp)) | (with_reducible refine bel_tr (by assumption) ?_ ?_; (first | omega | (simp; omega) | simp)))), by (first | omega | (simp; omega) | simp), by (first | (go_keep; done) | (go_simp; done)), by (first | (go_keep; done) | (go_simp; done)), by (first | (go_keep; done) | (go_simp; done)), by (first | (go_keep; done) | (go_simp; done)), by (first | (go_keep; done) | (go_simp; done)), fun o => by first | (simp [*]; done) | (go_simp; done)⟩
        case measure => simp [intOf]; omega
    · by_cases hA : LOk t f h s d ∧ (0 ≤ nn ∧ nn ≤ 60) ∧ LOk (t) (f + nn) (h) (s - nn) (d)
      · have hL1 := hA.2.2
        go_wp2_with fail
        refine (my (impl_Free _ _ _ _ _ _ _) hA).mono ?_
        rintro y w4 ⟨rfl, b4⟩
        have s4 := b4.size
        (try simp at s4)
        have kc4 : ∀ o, w4.cell? ⟨w1.heap.size, o, none⟩ = _ := fun o => b4.cell (p := ⟨w1.heap.size, o, none⟩) (by (first | omega | (simp; omega) | simp))
        have kf4 : ∀ o, w4.frozen? ⟨w1.heap.size, o, none⟩ = _ := fun o => b4.frozen (p := ⟨w1.heap.size, o, none⟩) (by (first | omega | (simp; omega) | simp))
        have kw4 : ∀ o, w4.cell? ⟨wr.heap.size, o, none⟩ = _ := fun o => b4.cell (p := ⟨wr.heap.size, o, none⟩) (by (first | omega | (simp; omega) | simp))
        clear hA hL
        simp only [List.map_cons, List.map_nil]
        go_wp2_with (first | (go_at_call 13; go_must (refine (ty (okS_any _ _ _ _ _ _) hL1).mono ?_); rintro y w5 ⟨rfl, b5⟩; have s5 := b5.size; (try simp at s5); have kc5 : ∀ o, w5.cell? ⟨w1.heap.size, o, none⟩ = _ := fun o => b5.cell (p := ⟨w1.heap.size, o, none⟩) (by (first | omega | (simp; omega) | simp)); have kf5 : ∀ o, w5.frozen? ⟨w1.heap.size, o, none⟩ = _ := fun o => b5.frozen (p := ⟨w1.heap.size, o, none⟩) (by (first | omega | (simp; omega) | simp)); have kw5 : ∀ o, w5.cell? ⟨wr.heap.size, o, none⟩ = _ := fun o => b5.cell (p := ⟨wr.heap.size, o, none⟩) (by (first | omega | (simp; omega) | simp))) | (go_at_call 14; go_must (refine (ty (okI_any _ _ _ _ _ _) hL1).mono ?_); rintro y w6 ⟨rfl, b6⟩; have s6 := b6.size; (try simp at s6); have kc6 : ∀ o, w6.cell? ⟨w1.heap.size, o, none⟩ = _ := fun o => b6.cell (p := ⟨w1.heap.size, o, none⟩) (by (first | omega | (simp; omega) | simp)); have kf6 : ∀ o, w6.frozen? ⟨w1.heap.size, o, none⟩ = _ := fun o => b6.frozen (p := ⟨w1.heap.size, o, none⟩) (by (first | omega | (simp; omega) | simp)); have kw6 : ∀ o, w6.cell? ⟨wr.heap.size, o, none⟩ = _ := fun o => b6.cell (p := ⟨wr.heap.size, o, none⟩) (by (first | omega | (simp; omega) | simp))))
        all_goals (try (exfalso; rename_i hq; apply hq; unfold LOk at hL1; unfold wrap64; omega))
        go_roundw
        case rel => exact ⟨k + 1, by omega, by go_num, t, f + nn, h, s - nn, d, hL1, by (repeat (first | with_reducible exact Below.refl _ _ | with_reducible refine Below.drew ?_ | with_reducible refine below_drewN ?_ _ | (with_reducible refine bel_alloc ?_ ?_ _; (first | omega | (simp; omega) | simp)) | (with_reducible refine bel_set ?_ ?_ _; (first | omega | (simp; omega) | simp)) | (with_reducible refine bel_tr (by assumption) ?_ ?_; (first | omega | (simp; omega) | simp)))), by (first | omega | (simp; omega) | simp), by (first | (go_keep; done) | (go_simp; done)), by (first | (go_keep; done) | (go_simp; done)), by (first | (go_keep; done) | (go_simp; done)), by (first | (go_keep; done) | (go_simp; done)), by (first | (go_keep; done) | (go_simp; done)), fun o => by first | (simp [*]; done) | (go_simp; done)⟩
        case measure => simp [intOf]; omega
      · have hL1 := hL
        go_wp2_with fail
        refine (mn (impl_Free _ _ _ _ _ _ _) hA).mono ?_
        rintro y w4 ⟨rfl, b4⟩
        have s4 := b4.size
        (try simp at s4)
        have kc4 : ∀ o, w4.cell? ⟨w1.heap.size, o, none⟩ = _ := fun o => b4.cell (p := ⟨w1.heap.size, o, none⟩) (by (first | omega | (simp; omega) | simp))
        have kf4 : ∀ o, w4.frozen? ⟨w1.heap.size, o, none⟩ = _ := fun o => b4.frozen (p := ⟨w1.heap.size, o, none⟩) (by (first | omega | (simp; omega) | simp))
        have kw4 : ∀ o, w4.cell? ⟨wr.heap.size, o, none⟩ = _ := fun o => b4.cell (p := ⟨wr.heap.size, o, none⟩) (by (first | omega | (simp; omega) | simp))
        clear hA hL
        simp only [List.map_cons, List.map_nil]
        go_wp2_with (first | (go_at_call 13; go_must (refine (ty (okS_any _ _ _ _ _ _) hL1).mono ?_); rintro y w5 ⟨rfl, b5⟩; have s5 := b5.size; (try simp at s5); have kc5 : ∀ o, w5.cell? ⟨w1.heap.size, o, none⟩ = _ := fun o => b5.cell (p := ⟨w1.heap.size, o, none⟩) (by (first | omega | (simp; omega) | simp)); have kf5 : ∀ o, w5.frozen? ⟨w1.heap.size, o, none⟩ = _ := fun o => b5.frozen (p := ⟨w1.heap.size, o, none⟩) (by (first | omega | (simp; omega) | simp)); have kw5 : ∀ o, w5.cell? ⟨wr.heap.size, o, none⟩ = _ := fun o => b5.cell (p := ⟨wr.heap.size, o, none⟩) (by (first | omega | (simp; omega) | simp))) | (go_at_call 14; go_must (refine (ty (okI_any _ _ _ _ _ _) hL1).mono ?_); rintro y w6 ⟨rfl, b6⟩; have s6 := b6.size; (try simp at s6); have kc6 : ∀ o, w6.cell? ⟨w1.heap.size, o, none⟩ = _ := fun o => b6.cell (p := ⟨w1.heap.size, o, none⟩) (by (first | omega | (simp; omega) | simp)); have kf6 : ∀ o, w6.frozen? ⟨w1.heap.size, o, none⟩ = _ := fun o => b6.frozen (p := ⟨w1.heap.size, o, none⟩) (by (first | omega | (simp; omega) | simp)); have kw6 : ∀ o, w6.cell? ⟨wr.heap.size, o, none⟩ = _ := fun o => b6.cell (p := ⟨wr.heap.size, o, none⟩) (by (first | omega | (simp; omega) | simp))))
        all_goals (try (exfalso; rename_i hq; apply hq; unfold LOk at hL1; unfold wrap64; omega))
        go_roundw
        case rel => exact ⟨k + 1, by omega, by go_num, t, f, h, s, d, hL1, by (repeat (first | with_reducible exact Below.refl _ _ | with_reducible refine Below.drew ?_ | with_reducible refine below_drewN ?_ _ | (with_reducible refine bel_alloc ?_ ?_ _; (first | omega | (simp; omega) | simp)) | (with_reducible refine bel_set ?_ ?_ _; (first | omega | (simp; omega) | simp)) | (with_reducible refine bel_tr (by assumption) ?_ ?_; (first | omega | (simp; omega) | simp)))), by (first | omega | (simp; omega) | simp), by (first | (go_keep; done) | (go_simp; done)), by (first | (go_keep; done) | (go_simp; done)), by (first | (go_keep; done) | (go_simp; done)), by (first | (go_keep; done) | (go_simp; done)), by (first | (go_keep; done) | (go_simp; done)), fun o => by first | (simp [*]; done) | (go_simp; done)⟩
        case measure => simp [intOf]; omega
    · by_cases hA : LOk t f h s d ∧ (0 ≤ nn ∧ nn ≤ 60) ∧ LOk (t) (f - nn) (h + nn) (s) (d)
      · have hL1 := hA.2.2
        go_wp2_with fail
        refine (my (impl_Hold _ _ _ _ _ _ _) hA).mono ?_
        rintro y w4 ⟨rfl, b4⟩
        have s4 := b4.size
        (try simp at s4)
        have kc4 : ∀ o, w4.cell? ⟨w1.heap.size, o, none⟩ = _ := fun o => b4.cell (p := ⟨w1.heap.size, o, none⟩) (by (first | omega | (simp; omega) | simp))
        have kf4 : ∀ o, w4.frozen? ⟨w1.heap.size, o, none⟩ = _ := fun o => b4.frozen (p := ⟨w1.heap.size, o, none⟩) (by (first | omega | (simp; omega) | simp))
        have kw4 : ∀ o, w4.cell? ⟨wr.heap.size, o, none⟩ = _ := fun o => b4.cell (p := ⟨wr.heap.size, o, none⟩) (by (first | omega | (simp; omega) | simp))
        clear hA hL
        simp only [List.map_cons, List.map_nil]
        go_wp2_with (first | (go_at_call 13; go_must (refine (ty (okS_any _ _ _ _ _ _) hL1).mono ?_); rintro y w5 ⟨rfl, b5⟩; have s5 := b5.size; (try simp at s5); have kc5 : ∀ o, w5.cell? ⟨w1.heap.size, o, none⟩ = _ := fun o => b5.cell (p := ⟨w1.heap.size, o, none⟩) (by (first | omega | (simp; omega) | simp)); have kf5 : ∀ o, w5.frozen? ⟨w1.heap.size, o, none⟩ = _ := fun o => b5.frozen (p := ⟨w1.heap.size, o, none⟩) (by (first | omega | (simp; omega) | simp)); have kw5 : ∀ o, w5.cell? ⟨wr.heap.size, o, none⟩ = _ := fun o => b5.cell (p := ⟨wr.heap.size, o, none⟩) (by (first | omega | (simp; omega) | simp))) | (go_at_call 14; go_must (refine (ty (okI_any _ _ _ _ _ _) hL1).mono ?_); rintro y w6 ⟨rfl, b6⟩; have s6 := b6.size; (try simp at s6); have kc6 : ∀ o, w6.cell? ⟨w1.heap.size, o, none⟩ = _ := fun o => b6.cell (p := ⟨w1.heap.size, o, none⟩) (by (first | omega | (simp; omega) | simp)); have kf6 : ∀ o, w6.frozen? ⟨w1.heap.size, o, none⟩ = _ := fun o => b6.frozen (p := ⟨w1.heap.size, o, none⟩) (by (first | omega | (simp; omega) | simp)); have kw6 : ∀ o, w6.cell? ⟨wr.heap.size, o, none⟩ = _ := fun o => b6.cell (p := ⟨wr.heap.size, o, none⟩) (by (first | omega | (simp; omega) | simp))))
        all_goals (try (exfalso; rename_i hq; apply hq; unfold LOk at hL1; unfold wrap64; omega))
        go_roundw
        case rel => exact ⟨k + 1, by omega, by go_num, t, f - nn, h + nn, s, d, hL1, by (repeat (first | with_reducible exact Below.refl _ _ | with_reducible refine Below.drew ?_ | with_reducible refine below_drewN ?_ _ | (with_reducible refine bel_alloc ?_ ?_ _; (first | omega | (simp; omega) | simp)) | (with_reducible refine bel_set ?_ ?_ _; (first | omega | (simp; omega) | simp)) | (with_reducible refine bel_tr (by assumption) ?_ ?_; (first | omega | (simp; omega) | simp)))), by (first | omega | (simp; omega) | simp), by (first | (go_keep; done) | (go_simp; done)), by (first | (go_keep; done) | (go_simp; done)), by (first | (go_keep; done) | (go_simp; done)), by (first | (go_keep; done) | (go_simp; done)), by (first | (go_keep; done) | (go_simp; done)), fun o => by first | (simp [*]; done) | (go_simp; done)⟩
        case measure => simp [intOf]; omega
      · have hL1 := hL
        go_wp2_with fail
        refine (mn (impl_Hold _ _ _ _ _ _ _) hA).mono ?_
        rintro y w4 ⟨rfl, b4⟩
        have s4 := b4.size
        (try simp at s4)
        have kc4 : ∀ o, w4.cell? ⟨w1.heap.size, o, none⟩ = _ := fun o => b4.cell (p := ⟨w1.heap.size, o, none⟩) (by (first | omega | (simp; omega) | simp))
        have kf4 : ∀ o, w4.frozen? ⟨w1.heap.size, o, none⟩ = _ := fun o => b4.frozen (p := ⟨w1.heap.size, o, none⟩) (by (first | omega | (simp; omega) | simp))
        have kw4 : ∀ o, w4.cell? ⟨wr.heap.size, o, none⟩ = _ := fun o => b4.cell (p := ⟨wr.heap.size, o, none⟩) (by (first | omega | (simp; omega) | simp))
        clear hA hL
        simp only [List.map_cons, List.map_nil]
        go_wp2_with (first | (go_at_call 13; go_must (refine (ty (okS_any _ _ _ _ _ _) hL1).mono ?_); rintro y w5 ⟨rfl, b5⟩; have s5 := b5.size; (try simp at s5); have kc5 : ∀ o, w5.cell? ⟨w1.heap.size, o, none⟩ = _ := fun o => b5.cell (p := ⟨w1.heap.size, o, none⟩) (by (first | omega | (simp; omega) | simp)); have kf5 : ∀ o, w5.frozen? ⟨w1.heap.size, o, none⟩ = _ := fun o => b5.frozen (p := ⟨w1.heap.size, o, none⟩) (by (first | omega | (simp; omega) | simp)); have kw5 : ∀ o, w5.cell? ⟨wr.heap.size, o, none⟩ = _ := fun o => b5.cell (p := ⟨wr.heap.size, o, none⟩) (by (first | omega | (simp; omega) | simp))) | (go_at_call 14; go_must (refine (ty (okI_any _ _ _ _ _ _) hL1).mono ?_); rintro y w6 ⟨rfl, b6⟩; have s6 := b6.size; (try simp at s6); have kc6 : ∀ o, w6.cell? ⟨w1.heap.size, o, none⟩ = _ := fun o => b6.cell (p := ⟨w1.heap.size, o, none⟩) (by (first | omega | (simp; omega) | simp)); have kf6 : ∀ o, w6.frozen? ⟨w1.heap.size, o, none⟩ = _ := fun o => b6.frozen (p := ⟨w1.heap.size, o, none⟩) (by (first | omega | (simp; omega) | simp)); have kw6 : ∀ o, w6.cell? ⟨wr.heap.size, o, none⟩ = _ := fun o => b6.cell (p := ⟨wr.heap.size, o, none⟩) (by (first | omega | (simp; omega) | simp))))
        all_goals (try (exfalso; rename_i hq; apply hq; unfold LOk at hL1; unfold wrap64; omega))
        go_roundw
        case rel => exact ⟨k + 1, by omega, by go_num, t, f, h, s, d, hL1, by (repeat (first | with_reducible exact Below.refl _ _ | with_reducible refine Below.drew ?_ | with_reducible refine below_drewN ?_ _ | (with_reducible refine bel_alloc ?_ ?_ _; (first | omega | (simp; omega) | simp)) | (with_reducible refine bel_set ?_ ?_ _; (first | omega | (simp; omega) | simp)) | (with_reducible refine bel_tr (by assumption) ?_ ?_; (first | omega | (simp; omega) | simp)))), by (first | omega | (simp; omega) | simp), by (first | (go_keep; done) | (go_simp; done)), by (first | (go_keep; done) | (go_simp; done)), by (first | (go_keep; done) | (go_simp; done)), by (first | (go_keep; done) | (go_simp; done)), by (first | (go_keep; done) | (go_simp; done)), fun o => by first | (simp [*]; done) | (go_simp; done)⟩
        case measure => simp [intOf]; omega
    · by_cases hA : LOk t f h s d ∧ (0 ≤ nn ∧ nn ≤ 60) ∧ LOk (t) (f + nn) (h - nn) (s) (d)
      · have hL1 := hA.2.2
        go_wp2_with fail
        refine (my (impl_Drop _ _ _ _ _ _ _) hA).mono ?_
        rintro y w4 ⟨rfl, b4⟩
        have s4 := b4.size
        (try simp at s4)
        have kc4 : ∀ o, w4.cell? ⟨w1.heap.size, o, none⟩ = _ := fun o => b4.cell (p := ⟨w1.heap.size, o, none⟩) (by (first | omega | (simp; omega) | simp))
        have kf4 : ∀ o, w4.frozen? ⟨w1.heap.size, o, none⟩ = _ := fun o => b4.frozen (p := ⟨w1.heap.size, o, none⟩) (by (first | omega | (simp; omega) | simp))
        have kw4 : ∀ o, w4.cell? ⟨wr.heap.size, o, none⟩ = _ := fun o => b4.cell (p := ⟨wr.heap.size, o, none⟩) (by (first | omega | (simp; omega) | simp))
        clear hA hL
        simp only [List.map_cons, List.map_nil]
        go_wp2_with (first | (go_at_call 13; go_must (refine (ty (okS_any _ _ _ _ _ _) hL1).mono ?_); rintro y w5 ⟨rfl, b5⟩; have s5 := b5.size; (try simp at s5); have kc5 : ∀ o, w5.cell? ⟨w1.heap.size, o, none⟩ = _ := fun o => b5.cell (p := ⟨w1.heap.size, o, none⟩) (by (first | omega | (simp; omega) | simp)); have kf5 : ∀ o, w5.frozen? ⟨w1.heap.size, o, none⟩ = _ := fun o => b5.frozen (p := ⟨w1.heap.size, o, none⟩) (by (first | omega | (simp; omega) | simp)); have kw5 : ∀ o, w5.cell? ⟨wr.heap.size, o, none⟩ = _ := fun o => b5.cell (p := ⟨wr.heap.size, o, none⟩) (by (first | omega | (simp; omega) | simp))) | (go_at_call 14; go_must (refine (ty (okI_any _ _ _ _ _ _) hL1).mono ?_); rintro y w6 ⟨rfl, b6⟩; have s6 := b6.size; (try simp at s6); have kc6 : ∀ o, w6.cell? ⟨w1.heap.size, o, none⟩ = _ := fun o => b6.cell (p := ⟨w1.heap.size, o, none⟩) (by (first | omega | (simp; omega) | simp)); have kf6 : ∀ o, w6.frozen? ⟨w1.heap.size, o, none⟩ = _ := fun o => b6.frozen (p := ⟨w1.heap.size, o, none⟩) (by (first | omega | (simp; omega) | simp)); have kw6 : ∀ o, w6.cell? ⟨wr.heap.size, o, none⟩ = _ := fun o => b6.cell (p := ⟨wr.heap.size, o, none⟩) (by (first | omega | (simp; omega) | simp))))
        all_goals (try (exfalso; rename_i hq; apply hq; unfold LOk at hL1; unfold wrap64; omega))
        go_roundw
        case rel => exact ⟨k + 1, by omega, by go_num, t, f + nn, h - nn, s, d, hL1, by (repeat (first | with_reducible exact Below.refl _ _ | with_reducible refine Below.drew ?_ | with_reducible refine below_drewN ?_ _ | (with_reducible refine bel_alloc ?_ ?_ _; (first | omega | (simp; omega) | simp)) | (with_reducible refine bel_set ?_ ?_ _; (first | omega | (simp; omega) | simp)) | (with_reducible refine bel_tr (by assumption) ?_ ?_; (first | omega | (simp; omega) | simp)))), by (first | omega | (simp; omega) | simp), by (first | (go_keep; done) | (go_simp; done)), by (first | (go_keep; done) | (go_simp; done)), by (first | (go_keep; done) | (go_simp; done)), by (first | (go_keep; done) | (go_simp; done)), by (first | (go_keep; done) | (go_simp; done)), fun o => by first | (simp [*]; done) | (go_simp; done)⟩
        case measure => simp [intOf]; omega
      · have hL1 := hL
        go_wp2_with fail
        refine (mn (impl_Drop _ _ _ _ _ _ _) hA).mono ?_
        rintro y w4 ⟨rfl, b4⟩
        have s4 := b4.size
        (try simp at s4)
        have kc4 : ∀ o, w4.cell? ⟨w1.heap.size, o, none⟩ = _ := fun o => b4.cell (p := ⟨w1.heap.size, o, none⟩) (by (first | omega | (simp; omega) | simp))
        have kf4 : ∀ o, w4.frozen? ⟨w1.heap.size, o, none⟩ = _ := fun o => b4.frozen (p := ⟨w1.heap.size, o, none⟩) (by (first | omega | (simp; omega) | simp))
        have kw4 : ∀ o, w4.cell? ⟨wr.heap.size, o, none⟩ = _ := fun o => b4.cell (p := ⟨wr.heap.size, o, none⟩) (by (first | omega | (simp; omega) | simp))
        clear hA hL
        simp only [List.map_cons, List.map_nil]
        go_wp2_with (first | (go_at_call 13; go_must (refine (ty (okS_any _ _ _ _ _ _) hL1).mono ?_); rintro y w5 ⟨rfl, b5⟩; have s5 := b5.size; (try simp at s5); have kc5 : ∀ o, w5.cell? ⟨w1.heap.size, o, none⟩ = _ := fun o => b5.cell (p := ⟨w1.heap.size, o, none⟩) (by (first | omega | (simp; omega) | simp)); have kf5 : ∀ o, w5.frozen? ⟨w1.heap.size, o, none⟩ = _ := fun o => b5.frozen (p := ⟨w1.heap.size, o, none⟩) (by (first | omega | (simp; omega) | simp)); have kw5 : ∀ o, w5.cell? ⟨wr.heap.size, o, none⟩ = _ := fun o => b5.cell (p := ⟨wr.heap.size, o, none⟩) (by (first | omega | (simp; omega) | simp))) | (go_at_call 14; go_must (refine (ty (okI_any _ _ _ _ _ _) hL1).mono ?_); rintro y w6 ⟨rfl, b6⟩; have s6 := b6.size; (try simp at s6); have kc6 : ∀ o, w6.cell? ⟨w1.heap.size, o, none⟩ = _ := fun o => b6.cell (p := ⟨w1.heap.size, o, none⟩) (by (first | omega | (simp; omega) | simp)); have kf6 : ∀ o, w6.frozen? ⟨w1.heap.size, o, none⟩ = _ := fun o => b6.frozen (p := ⟨w1.heap.size, o, none⟩) (by (first | omega | (simp; omega) | simp)); have kw6 : ∀ o, w6.cell? ⟨wr.heap.size, o, none⟩ = _ := fun o => b6.cell (p := ⟨wr.heap.size, o, none⟩) (by (first | omega | (simp; omega) | simp))))
        all_goals (try (exfalso; rename_i hq; apply hq; unfold LOk at hL1; unfold wrap64; omega))
        go_roundw
        case rel => exact ⟨k + 1, by omega, by go_num, t, f, h, s, d, hL1, by (repeat (first | with_reducible exact Below.refl _ _ | with_reducible refine Below.drew ?_ | with_reducible refine below_drewN ?_ _ | (with_reducible refine bel_alloc ?_ ?_ _; (first | omega | (simp; omega) | simp)) | (with_reducible refine bel_set ?_ ?_ _; (first | omega | (simp; omega) | simp)) | (with_reducible refine bel_tr (by assumption) ?_ ?_; (first | omega | (simp; omega) | simp)))), by (first | omega | (simp; omega) | simp), by (first | (go_keep; done) | (go_simp; done)), by (first | (go_keep; done) | (go_simp; done)), by (first | (go_keep; done) | (go_simp; done)), by (first | (go_keep; done) | (go_simp; done)), by (first | (go_keep; done) | (go_simp; done)), fun o => by first | (simp [*]; done) | (go_simp; done)⟩
        case measure => simp [intOf]; omega
    · by_cases hA : LOk t f h s d ∧ (0 ≤ nn ∧ nn ≤ 60) ∧ LOk (t) (f) (h - nn) (s + nn) (d)
      · have hL1 := hA.2.2
        go_wp2_with fail
        refine (my (impl_Sell _ _ _ _ _ _ _) hA).mono ?_
        rintro y w4 ⟨rfl, b4⟩
        have s4 := b4.size
        (try simp at s4)
        have kc4 : ∀ o, w4.cell? ⟨w1.heap.size, o, none⟩ = _ := fun o => b4.cell (p := ⟨w1.heap.size, o, none⟩) (by (first | omega | (simp; omega) | simp))
        have kf4 : ∀ o, w4.frozen? ⟨w1.heap.size, o, none⟩ = _ := fun o => b4.frozen (p := ⟨w1.heap.size, o, none⟩) (by (first | omega | (simp; omega) | simp))
        have kw4 : ∀ o, w4.cell? ⟨wr.heap.size, o, none⟩ = _ := fun o => b4.cell (p := ⟨wr.heap.size, o, none⟩) (by (first | omega | (simp; omega) | simp))
        clear hA hL
        simp only [List.map_cons, List.map_nil]
        go_wp2_with (first | (go_at_call 13; go_must (refine (ty (okS_any _ _ _ _ _ _) hL1).mono ?_); rintro y w5 ⟨rfl, b5⟩; have s5 := b5.size; (try simp at s5); have kc5 : ∀ o, w5.cell? ⟨w1.heap.size, o, none⟩ = _ := fun o => b5.cell (p := ⟨w1.heap.size, o, none⟩) (by (first | omega | (simp; omega) | simp)); have kf5 : ∀ o, w5.frozen? ⟨w1.heap.size, o, none⟩ = _ := fun o => b5.frozen (p := ⟨w1.heap.size, o, none⟩) (by (first | omega | (simp; omega) | simp)); have kw5 : ∀ o, w5.cell? ⟨wr.heap.size, o, none⟩ = _ := fun o => b5.cell (p := ⟨wr.heap.size, o, none⟩) (by (first | omega | (simp; omega) | simp))) | (go_at_call 14; go_must (refine (ty (okI_any _ _ _ _ _ _) hL1).mono ?_); rintro y w6 ⟨rfl, b6⟩; have s6 := b6.size; (try simp at s6); have kc6 : ∀ o, w6.cell? ⟨w1.heap.size, o, none⟩ = _ := fun o => b6.cell (p := ⟨w1.heap.size, o, none⟩) (by (first | omega | (simp; omega) | simp)); have kf6 : ∀ o, w6.frozen? ⟨w1.heap.size, o, none⟩ = _ := fun o => b6.frozen (p := ⟨w1.heap.size, o, none⟩) (by (first | omega | (simp; omega) | simp)); have kw6 : ∀ o, w6.cell? ⟨wr.heap.size, o, none⟩ = _ := fun o => b6.cell (p := ⟨wr.heap.size, o, none⟩) (by (first | omega | (simp; omega) | simp))))
        all_goals (try (exfalso; rename_i hq; apply hq; unfold LOk at hL1; unfold wrap64; omega))
        go_roundw
        case rel => exact ⟨k + 1, by omega, by go_num, t, f, h - nn, s + nn, d, hL1, by (repeat (first | with_reducible exact Below.refl _ _ | with_reducible refine Below.drew ?_ | with_reducible refine below_drewN ?_ _ | (with_reducible refine bel_alloc ?_ ?_ _; (first | omega | (simp; omega) | simp)) | (with_reducible refine bel_set ?_ ?_ _; (first | omega | (simp; omega) | simp)) | (with_reducible refine bel_tr (by assumption) ?_ ?_; (first | omega | (simp; omega) | simp)))), by (first | omega | (simp; omega) | simp), by (first | (go_keep; done) | (go_simp; done)), by (first | (go_keep; done) | (go_simp; done)), by (first | (go_keep; done) | (go_simp; done)), by (first | (go_keep; done) | (go_simp; done)), by (first | (go_keep; done) | (go_simp; done)), fun o => by first | (simp [*]; done) | (go_simp; done)⟩
        case measure => simp [intOf]; omega
      · have hL1 := hL
        go_wp2_with fail
        refine (mn (impl_Sell _ _ _ _ _ _ _) hA).mono ?_
        rintro y w4 ⟨rfl, b4⟩
        have s4 := b4.size
        (try simp at s4)
        have kc4 : ∀ o, w4.cell? ⟨w1.heap.size, o, none⟩ = _ := fun o => b4.cell (p := ⟨w1.heap.size, o, none⟩) (by (first | omega | (simp; omega) | simp))
        have kf4 : ∀ o, w4.frozen? ⟨w1.heap.size, o, none⟩ = _ := fun o => b4.frozen (p := ⟨w1.heap.size, o, none⟩) (by (first | omega | (simp; omega) | simp))
        have kw4 : ∀ o, w4.cell? ⟨wr.heap.size, o, none⟩ = _ := fun o => b4.cell (p := ⟨wr.heap.size, o, none⟩) (by (first | omega | (simp; omega) | simp))
        clear hA hL
        simp only [List.map_cons, List.map_nil]
        go_wp2_with (first | (go_at_call 13; go_must (refine (ty (okS_any _ _ _ _ _ _) hL1).mono ?_); rintro y w5 ⟨rfl, b5⟩; have s5 := b5.size; (try simp at s5); have kc5 : ∀ o, w5.cell? ⟨w1.heap.size, o, none⟩ = _ := fun o => b5.cell (p := ⟨w1.heap.size, o, none⟩) (by (first | omega | (simp; omega) | simp)); have kf5 : ∀ o, w5.frozen? ⟨w1.heap.size, o, none⟩ = _ := fun o => b5.frozen (p := ⟨w1.heap.size, o, none⟩) (by (first | omega | (simp; omega) | simp)); have kw5 : ∀ o, w5.cell? ⟨wr.heap.size, o, none⟩ = _ := fun o => b5.cell (p := ⟨wr.heap.size, o, none⟩) (by (first | omega | (simp; omega) | simp))) | (go_at_call 14; go_must (refine (ty (okI_any _ _ _ _ _ _) hL1).mono ?_); rintro y w6 ⟨rfl, b6⟩; have s6 := b6.size; (try simp at s6); have kc6 : ∀ o, w6.cell? ⟨w1.heap.size, o, none⟩ = _ := fun o => b6.cell (p := ⟨w1.heap.size, o, none⟩) (by (first | omega | (simp; omega) | simp)); have kf6 : ∀ o, w6.frozen? ⟨w1.heap.size, o, none⟩ = _ := fun o => b6.frozen (p := ⟨w1.heap.size, o, none⟩) (by (first | omega | (simp; omega) | simp)); have kw6 : ∀ o, w6.cell? ⟨wr.heap.size, o, none⟩ = _ := fun o => b6.cell (p := ⟨wr.heap.size, o, none⟩) (by (first | omega | (simp; omega) | simp))))
        all_goals (try (exfalso; rename_i hq; apply hq; unfold LOk at hL1; unfold wrap64; omega))
        go_roundw
        case rel => exact ⟨k + 1, by omega, by go_num, t, f, h, s, d, hL1, by (repeat (first | with_reducible exact Below.refl _ _ | with_reducible refine Below.drew ?_ | with_reducible refine below_drewN ?_ _ | (with_reducible refine bel_alloc ?_ ?_ _; (first | omega | (simp; omega) | simp)) | (with_reducible refine bel_set ?_ ?_ _; (first | omega | (simp; omega) | simp)) | (with_reducible refine bel_tr (by assumption) ?_ ?_; (first | omega | (simp; omega) | simp)))), by (first | omega | (simp; omega) | simp), by (first | (go_keep; done) | (go_simp; done)), by (first | (go_keep; done) | (go_simp; done)), by (first | (go_keep; done) | (go_simp; done)), by (first | (go_keep; done) | (go_simp; done)), by (first | (go_keep; done) | (go_simp; done)), fun o => by first | (simp [*]; done) | (go_simp; done)⟩
        case measure => simp [intOf]; omega
    · by_cases hA : LOk t f h s d ∧ (0 ≤ nn ∧ nn ≤ 60) ∧ LOk (t) (f) (h) (s) (d + nn)
      · have hL1 := hA.2.2
        go_wp2_with fail
        refine (my (impl_Tie _ _ _ _ _ _ _) hA).mono ?_
        rintro y w4 ⟨rfl, b4⟩
        have s4 := b4.size
        (try simp at s4)
        have kc4 : ∀ o, w4.cell? ⟨w1.heap.size, o, none⟩ = _ := fun o => b4.cell (p := ⟨w1.heap.size, o, none⟩) (by (first | omega | (simp; omega) | simp))
        have kf4 : ∀ o, w4.frozen? ⟨w1.heap.size, o, none⟩ = _ := fun o => b4.frozen (p := ⟨w1.heap.size, o, none⟩) (by (first | omega | (simp; omega) | simp))
        have kw4 : ∀ o, w4.cell? ⟨wr.heap.size, o, none⟩ = _ := fun o => b4.cell (p := ⟨wr.heap.size, o, none⟩) (by (first | omega | (simp; omega) | simp))
        clear hA hL
        simp only [List.map_cons, List.map_nil]
        go_wp2_with (first | (go_at_call 13; go_must (refine (ty (okS_any _ _ _ _ _ _) hL1).mono ?_); rintro y w5 ⟨rfl, b5⟩; have s5 := b5.size; (try simp at s5); have kc5 : ∀ o, w5.cell? ⟨w1.heap.size, o, none⟩ = _ := fun o => b5.cell (p := ⟨w1.heap.size, o, none⟩) (by (first | omega | (simp; omega) | simp)); have kf5 : ∀ o, w5.frozen? ⟨w1.heap.size, o, none⟩ = _ := fun o => b5.frozen (p := ⟨w1.heap.size, o, none⟩) (by (first | omega | (simp; omega) | simp)); have kw5 : ∀ o, w5.cell? ⟨wr.heap.size, o, none⟩ = _ := fun o => b5.cell (p := ⟨wr.heap.size, o, none⟩) (by (first | omega | (simp; omega) | simp))) | (go_at_call 14; go_must (refine (ty (okI_any _ _ _ _ _ _) hL1).mono ?_); rintro y w6 ⟨rfl, b6⟩; have s6 := b6.size; (try simp at s6); have kc6 : ∀ o, w6.cell? ⟨w1.heap.size, o, none⟩ = _ := fun o => b6.cell (p := ⟨w1.heap.size, o, none⟩) (by (first | omega | (simp; omega) | simp)); have kf6 : ∀ o, w6.frozen? ⟨w1.heap.size, o, none⟩ = _ := fun o => b6.frozen (p := ⟨w1.heap.size, o, none⟩) (by (first | omega | (simp; omega) | simp)); have kw6 : ∀ o, w6.cell? ⟨wr.heap.size, o, none⟩ = _ := fun o => b6.cell (p := ⟨wr.heap.size, o, none⟩) (by (first | omega | (simp; omega) | simp))))
        all_goals (try (exfalso; rename_i hq; apply hq; unfold LOk at hL1; unfold wrap64; omega))
        go_roundw
        case rel => exact ⟨k + 1, by omega, by go_num, t, f, h, s, d + nn, hL1, by (repeat (first | with_reducible exact Below.refl _ _ | with_reducible refine Below.drew ?_ | with_reducible refine below_drewN ?_ _ | (with_reducible refine bel_alloc ?_ ?_ _; (first | omega | (simp; omega) | simp)) | (with_reducible refine bel_set ?_ ?_ _; (first | omega | (simp; omega) | simp)) | (with_reducible refine bel_tr (by assumption) ?_ ?_; (first | omega | (simp; omega) | simp)))), by (first | omega | (simp; omega) | simp), by (first | (go_keep; done) | (go_simp; done)), by (first | (go_keep; done) | (go_simp; done)), by (first | (go_keep; done) | (go_simp; done)), by (first | (go_keep; done) | (go_simp; done)), by (first | (go_keep; done) | (go_simp; done)), fun o => by first | (simp [*]; done) | (go_simp; done)⟩
        case measure => simp [intOf]; omega
      · have hL1 := hL
        go_wp2_with fail
        refine (mn (impl_Tie _ _ _ _ _ _ _) hA).mono ?_
        rintro y w4 ⟨rfl, b4⟩
        have s4 := b4.size
        (try simp at s4)
        have kc4 : ∀ o, w4.cell? ⟨w1.heap.size, o, none⟩ = _ := fun o => b4.cell (p := ⟨w1.heap.size, o, none⟩) (by (first | omega | (simp; omega) | simp))
        have kf4 : ∀ o, w4.frozen? ⟨w1.heap.size, o, none⟩ = _ := fun o => b4.frozen (p := ⟨w1.heap.size, o, none⟩) (by (first | omega | (simp; omega) | simp))
        have kw4 : ∀ o, w4.cell? ⟨wr.heap.size, o, none⟩ = _ := fun o => b4.cell (p := ⟨wr.heap.size, o, none⟩) (by (first | omega | (simp; omega) | simp))
        clear hA hL
        simp only [List.map_cons, List.map_nil]
        go_wp2_with (first | (go_at_call 13; go_must (refine (ty (okS_any _ _ _ _ _ _) hL1).mono ?_); rintro y w5 ⟨rfl, b5⟩; have s5 := b5.size; (try simp at s5); have kc5 : ∀ o, w5.cell? ⟨w1.heap.size, o, none⟩ = _ := fun o => b5.cell (p := ⟨w1.heap.size, o, none⟩) (by (first | omega | (simp; omega) | simp)); have kf5 : ∀ o, w5.frozen? ⟨w1.heap.size, o, none⟩ = _ := fun o => b5.frozen (p := ⟨w1.heap.size, o, none⟩) (by (first | omega | (simp; omega) | simp)); have kw5 : ∀ o, w5.cell? ⟨wr.heap.size, o, none⟩ = _ := fun o => b5.cell (p := ⟨wr.heap.size, o, none⟩) (by (first | omega | (simp; omega) | simp))) | (go_at_call 14; go_must (refine (ty (okI_any _ _ _ _ _ _) hL1).mono ?_); rintro y w6 ⟨rfl, b6⟩; have s6 := b6.size; (try simp at s6); have kc6 : ∀ o, w6.cell? ⟨w1.heap.size, o, none⟩ = _ := fun o => b6.cell (p := ⟨w1.heap.size, o, none⟩) (by (first | omega | (simp; omega) | simp)); have kf6 : ∀ o, w6.frozen? ⟨w1.heap.size, o, none⟩ = _ := fun o => b6.frozen (p := ⟨w1.heap.size, o, none⟩) (by (first | omega | (simp; omega) | simp)); have kw6 : ∀ o, w6.cell? ⟨wr.heap.size, o, none⟩ = _ := fun o => b6.cell (p := ⟨wr.heap.size, o, none⟩) (by (first | omega | (simp; omega) | simp))))
        all_goals (try (exfalso; rename_i hq; apply hq; unfold LOk at hL1; unfold wrap64; omega))
        go_roundw
        case rel => exact ⟨k + 1, by omega, by go_num, t, f, h, s, d, hL1, by (repeat (first | with_reducible exact Below.refl _ _ | with_reducible refine Below.drew ?_ | with_reducible refine below_drewN ?_ _ | (with_reducible refine bel_alloc ?_ ?_ _; (first | omega | (simp; omega) | simp)) | (with_reducible refine bel_set ?_ ?_ _; (first | omega | (simp; omega) | simp)) | (with_reducible refine bel_tr (by assumption) ?_ ?_; (first | omega | (simp; omega) | simp)))), by (first | omega | (simp; omega) | simp), by (first | (go_keep; done) | (go_simp; done)), by (first | (go_keep; done) | (go_simp; done)), by (first | (go_keep; done) | (go_simp; done)), by (first | (go_keep; done) | (go_simp; done)), by (first | (go_keep; done) | (go_simp; done)), fun o => by first | (simp [*]; done) | (go_simp; done)⟩
        case measure => simp [intOf]; omega
end Go.Proofs.Ytebmaibohpkfbaa
