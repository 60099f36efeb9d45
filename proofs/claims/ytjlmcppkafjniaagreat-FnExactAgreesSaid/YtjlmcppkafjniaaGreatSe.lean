/-
  Two rows of pins hold the same fields: the contracts of l9SamePins and of slices.Equal. No conditions beyond those stated.
-/
import Derived.Test.YtjlmcppkafjniaaGreatAt
import Derived.Test.YtjlmcppkafjniaaGreatRg
import Derived.Test.YtjlmcppkafjniaaGreatSl
namespace Go.Proofs.YtjlmcppkafjniaaGreat
open Go.RowKit

def SamL (es es2 : List (Nat → Int)) : Prop := es.length = es2.length ∧ ∀ i, i < es.length → fld es i 0 = fld es2 i 0 ∧ fld es i 1 = fld es2 i 1
theorem SamL.of_eq {es es2 : List (Nat → Int)} (h : es = es2) : SamL es es2 := by
  subst h
  exact ⟨rfl, fun _ _ => ⟨rfl, rfl⟩⟩

set_option maxRecDepth 100000 in
set_option maxHeartbeats 4000000 in
theorem samePins_any (A A2 : Option Addr) (n c n2 c2 : Nat) (es es2 : List (Nat → Int)) (w : World) (hn : n ≤ 4194304) (hn2 : n2 ≤ 4194304) (h : Rd w 2 A n es) (h2 : Rd w 2 A2 n2 es2) :
    Calls Tryz.prog 51 #[.slice A n c, .slice A2 n2 c2] w (TFB (SamL es es2) w) := by
  have H := Lib.hid h
  have H2 := Lib.hid h2
  clear h h2
  by_cases hnn : n = n2
  case neg =>
    have hni : ¬ (n : Int) = (n2 : Int) := by omega
    have hF : Hid (¬ SamL es es2) := Lib.hid fun h => hnn (by rw [← H.out.1, ← H2.out.1]; exact h.1)
    go_enter Tryz.func51, Tryz.ntmps51
    go_wp2
    go_ret
    exact .inr ⟨rfl, hF.out, by (repeat (first | with_reducible exact Below.refl _ _ | with_reducible refine Below.drew ?_ | with_reducible refine below_drewN ?_ _ | (with_reducible refine bel_alloc ?_ ?_ _; (first | omega | (simp; omega) | simp)) | (with_reducible refine bel_set ?_ ?_ _; (first | omega | (simp; omega) | simp)) | (with_reducible refine bel_tr (by assumption) ?_ ?_; (first | omega | (simp; omega) | simp))))⟩
  subst hnn
  go_enter Tryz.func51, Tryz.ntmps51
  go_wp2
  go_loopw [4, 5] (fun _ i wr => ∃ k : Nat, k ≤ n ∧ i = .int .i64 k ∧ Hid (∀ j, j < k → fld es j 0 = fld es2 j 0 ∧ fld es j 1 = fld es2 j 1) ∧ Below w.heap.size w wr) (fun _ i _ => n - (intOf i).toNat)
  case atStart => exact ⟨0, Nat.zero_le _, rfl, Lib.hid (fun i hi => absurd hi (by omega)), by (repeat (first | with_reducible exact Below.refl _ _ | with_reducible refine Below.drew ?_ | with_reducible refine below_drewN ?_ _ | (with_reducible refine bel_alloc ?_ ?_ _; (first | omega | (simp; omega) | simp)) | (with_reducible refine bel_set ?_ ?_ _; (first | omega | (simp; omega) | simp)) | (with_reducible refine bel_tr (by assumption) ?_ ?_; (first | omega | (simp; omega) | simp))))⟩
  case round =>
    obtain ⟨k, hk, rfl, HQ, hbel⟩ := hrel
    by_cases hlt : k < n
    case neg =>
      have hkn : k = n := by omega
      have hki : ¬ (k : Int) < (n : Int) := by omega
      have hT : Hid (SamL es es2) := Lib.hid ⟨by rw [H.out.1, H2.out.1], fun i hi => HQ.out i (by rw [H.out.1] at hi; omega)⟩
      go_wp2
      go_ret
      exact .inl ⟨rfl, hT.out, hbel⟩
    have hki : (k : Int) < (n : Int) := by omega
    have hk0 : (0 : Int) ≤ (k : Int) := by omega
    obtain ⟨b, off, rfl, hb, hc⟩ := (H.out.below hbel).2.resolve_left (by omega)
    obtain ⟨b2, off2, rfl, hb2, hc2⟩ := (H2.out.below hbel).2.resolve_left (by omega)
    have c0 : wr.cell? ⟨b, off + k * 2, none⟩ = some (.int .i64 (fld es k 0)) := hc k hlt 0 (by omega)
    have c1 : wr.cell? ⟨b, off + k * 2 + 1, none⟩ = some (.int .i64 (fld es k 1)) := hc k hlt 1 (by omega)
    have d0 : wr.cell? ⟨b2, off2 + k * 2, none⟩ = some (.int .i64 (fld es2 k 0)) := hc2 k hlt 0 (by omega)
    have d1 : wr.cell? ⟨b2, off2 + k * 2 + 1, none⟩ = some (.int .i64 (fld es2 k 1)) := hc2 k hlt 1 (by omega)
    clear hc hc2
    by_cases e0 : fld es k 0 = fld es2 k 0
    case neg =>
      have hF : Hid (¬ SamL es es2) := Lib.hid fun h => e0 (h.2 k (by rw [H.out.1]; omega)).1
      go_wp2
      go_region
      all_goals
        go_wp2
        go_ret
        exact .inr ⟨rfl, hF.out, by (repeat (first | with_reducible exact Below.refl _ _ | with_reducible refine Below.drew ?_ | with_reducible refine below_drewN ?_ _ | (with_reducible refine bel_alloc ?_ ?_ _; (first | omega | (simp; omega) | simp)) | (with_reducible refine bel_set ?_ ?_ _; (first | omega | (simp; omega) | simp)) | (with_reducible refine bel_tr (by assumption) ?_ ?_; (first | omega | (simp; omega) | simp))))⟩
    by_cases e1 : fld es k 1 = fld es2 k 1
    case neg =>
      have hF : Hid (¬ SamL es es2) := Lib.hid fun h => e1 (h.2 k (by rw [H.out.1]; omega)).2
      go_wp2
      go_region
      all_goals
        go_wp2
        go_ret
        exact .inr ⟨rfl, hF.out, by (repeat (first | with_reducible exact Below.refl _ _ | with_reducible refine Below.drew ?_ | with_reducible refine below_drewN ?_ _ | (with_reducible refine bel_alloc ?_ ?_ _; (first | omega | (simp; omega) | simp)) | (with_reducible refine bel_set ?_ ?_ _; (first | omega | (simp; omega) | simp)) | (with_reducible refine bel_tr (by assumption) ?_ ?_; (first | omega | (simp; omega) | simp))))⟩
    have HQ2 : Hid (∀ j, j < k + 1 → fld es j 0 = fld es2 j 0 ∧ fld es j 1 = fld es2 j 1) := fun j hj => by
      by_cases h1 : j < k
      · exact HQ.out j h1
      · obtain rfl : j = k := by omega
        exact ⟨e0, e1⟩
    go_wp2
    go_region
    all_goals
      go_wp2
      go_roundw
      case rel => exact ⟨k + 1, by omega, by go_num, HQ2, by (repeat (first | with_reducible exact Below.refl _ _ | with_reducible refine Below.drew ?_ | with_reducible refine below_drewN ?_ _ | (with_reducible refine bel_alloc ?_ ?_ _; (first | omega | (simp; omega) | simp)) | (with_reducible refine bel_set ?_ ?_ _; (first | omega | (simp; omega) | simp)) | (with_reducible refine bel_tr (by assumption) ?_ ?_; (first | omega | (simp; omega) | simp))))⟩
      case measure => simp [intOf]; omega

set_option maxRecDepth 100000 in
set_option maxHeartbeats 4000000 in
theorem equalPins_any (A A2 : Option Addr) (n c n2 c2 : Nat) (es es2 : List (Nat → Int)) (w : World) (hn : n ≤ 4194304) (hn2 : n2 ≤ 4194304) (h : Rd w 2 A n es) (h2 : Rd w 2 A2 n2 es2) :
    Calls Tryz.prog 39 #[.slice A n c, .slice A2 n2 c2] w (TFB (SamL es es2) w) := by
  have H := Lib.hid h
  have H2 := Lib.hid h2
  clear h h2
  by_cases hnn : n = n2
  case neg =>
    have hni : ¬ (n : Int) = (n2 : Int) := by omega
    have hF : Hid (¬ SamL es es2) := Lib.hid fun h => hnn (by rw [← H.out.1, ← H2.out.1]; exact h.1)
    go_enter Tryz.func39, Tryz.ntmps39
    go_wp2
    go_ret
    exact .inr ⟨rfl, hF.out, by (repeat (first | with_reducible exact Below.refl _ _ | with_reducible refine Below.drew ?_ | with_reducible refine below_drewN ?_ _ | (with_reducible refine bel_alloc ?_ ?_ _; (first | omega | (simp; omega) | simp)) | (with_reducible refine bel_set ?_ ?_ _; (first | omega | (simp; omega) | simp)) | (with_reducible refine bel_tr (by assumption) ?_ ?_; (first | omega | (simp; omega) | simp))))⟩
  subst hnn
  go_enter Tryz.func39, Tryz.ntmps39
  go_wp2
  go_loopw [4, 13] (fun _ i wr => ∃ k : Nat, k ≤ n ∧ i = .int .i64 k ∧ Hid (∀ j, j < k → fld es j 0 = fld es2 j 0 ∧ fld es j 1 = fld es2 j 1) ∧ Below w.heap.size w wr) (fun _ i _ => n - (intOf i).toNat)
  case atStart => exact ⟨0, Nat.zero_le _, rfl, Lib.hid (fun i hi => absurd hi (by omega)), by (repeat (first | with_reducible exact Below.refl _ _ | with_reducible refine Below.drew ?_ | with_reducible refine below_drewN ?_ _ | (with_reducible refine bel_alloc ?_ ?_ _; (first | omega | (simp; omega) | simp)) | (with_reducible refine bel_set ?_ ?_ _; (first | omega | (simp; omega) | simp)) | (with_reducible refine bel_tr (by assumption) ?_ ?_; (first | omega | (simp; omega) | simp))))⟩
  case round =>
    obtain ⟨k, hk, rfl, HQ, hbel⟩ := hrel
    by_cases hlt : k < n
    case neg =>
      have hkn : k = n := by omega
      have hki : ¬ (k : Int) < (n : Int) := by omega
      have hT : Hid (SamL es es2) := Lib.hid ⟨by rw [H.out.1, H2.out.1], fun i hi => HQ.out i (by rw [H.out.1] at hi; omega)⟩
      go_wp2
      go_ret
      exact .inl ⟨rfl, hT.out, hbel⟩
    have hki : (k : Int) < (n : Int) := by omega
    have hk0 : (0 : Int) ≤ (k : Int) := by omega
    obtain ⟨b, off, rfl, hb, hc⟩ := (H.out.below hbel).2.resolve_left (by omega)
    obtain ⟨b2, off2, rfl, hb2, hc2⟩ := (H2.out.below hbel).2.resolve_left (by omega)
    have c0 : wr.cell? ⟨b, off + k * 2, none⟩ = some (.int .i64 (fld es k 0)) := hc k hlt 0 (by omega)
    have c1 : wr.cell? ⟨b, off + k * 2 + 1, none⟩ = some (.int .i64 (fld es k 1)) := hc k hlt 1 (by omega)
    have d0 : wr.cell? ⟨b2, off2 + k * 2, none⟩ = some (.int .i64 (fld es2 k 0)) := hc2 k hlt 0 (by omega)
    have d1 : wr.cell? ⟨b2, off2 + k * 2 + 1, none⟩ = some (.int .i64 (fld es2 k 1)) := hc2 k hlt 1 (by omega)
    clear hc hc2
    by_cases e0 : fld es k 0 = fld es2 k 0
    case neg =>
      have hF : Hid (¬ SamL es es2) := Lib.hid fun h => e0 (h.2 k (by rw [H.out.1]; omega)).1
      go_wp2
      go_region
      all_goals
        go_wp2
        go_ret
        exact .inr ⟨rfl, hF.out, by (repeat (first | with_reducible exact Below.refl _ _ | with_reducible refine Below.drew ?_ | with_reducible refine below_drewN ?_ _ | (with_reducible refine bel_alloc ?_ ?_ _; (first | omega | (simp; omega) | simp)) | (with_reducible refine bel_set ?_ ?_ _; (first | omega | (simp; omega) | simp)) | (with_reducible refine bel_tr (by assumption) ?_ ?_; (first | omega | (simp; omega) | simp))))⟩
    by_cases e1 : fld es k 1 = fld es2 k 1
    case neg =>
      have hF : Hid (¬ SamL es es2) := Lib.hid fun h => e1 (h.2 k (by rw [H.out.1]; omega)).2
      go_wp2
      go_region
      all_goals
        go_wp2
        go_ret
        exact .inr ⟨rfl, hF.out, by (repeat (first | with_reducible exact Below.refl _ _ | with_reducible refine Below.drew ?_ | with_reducible refine below_drewN ?_ _ | (with_reducible refine bel_alloc ?_ ?_ _; (first | omega | (simp; omega) | simp)) | (with_reducible refine bel_set ?_ ?_ _; (first | omega | (simp; omega) | simp)) | (with_reducible refine bel_tr (by assumption) ?_ ?_; (first | omega | (simp; omega) | simp))))⟩
    have HQ2 : Hid (∀ j, j < k + 1 → fld es j 0 = fld es2 j 0 ∧ fld es j 1 = fld es2 j 1) := fun j hj => by
      by_cases h1 : j < k
      · exact HQ.out j h1
      · obtain rfl : j = k := by omega
        exact ⟨e0, e1⟩
    go_wp2
    go_region
    all_goals
      go_wp2
      go_roundw
      case rel => exact ⟨k + 1, by omega, by go_num, HQ2, by (repeat (first | with_reducible exact Below.refl _ _ | with_reducible refine Below.drew ?_ | with_reducible refine below_drewN ?_ _ | (with_reducible refine bel_alloc ?_ ?_ _; (first | omega | (simp; omega) | simp)) | (with_reducible refine bel_set ?_ ?_ _; (first | omega | (simp; omega) | simp)) | (with_reducible refine bel_tr (by assumption) ?_ ?_; (first | omega | (simp; omega) | simp))))⟩
      case measure => simp [intOf]; omega

end Go.Proofs.YtjlmcppkafjniaaGreat
