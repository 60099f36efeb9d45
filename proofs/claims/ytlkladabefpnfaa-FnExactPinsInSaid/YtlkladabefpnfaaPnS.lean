/-
  The contract of the reference's PinsIn. No conditions beyond those stated.
-/
import Derived.Test.YtlkladabefpnfaaPn
import Derived.Test.YtlkladabefpnfaaWp9
import Derived.Test.YtlkladabefpnfaaCo
namespace Go.Proofs.Ytlkladabefpnfaa
open Go.RowKit

theorem row_empty0 (w : World) (t : TypeId) (K : Nat) : (w.alloc (.cells #[] t)).ownsRow w.heap.size t K (.slice (some ⟨w.heap.size, 0, none⟩) 0 0) 0 (flat K []) :=
  ⟨by simp [flat], .inr ⟨w.heap.size, 0, #[], rfl, Nat.le_refl _, heap_alloc_new w _, Nat.le_refl _, Nat.zero_le _, by simp, by simp [flat]⟩⟩
def PnS (w : World) (es : List (Nat → Int)) (cab : Int) (n : Nat) (y : Ending) (w' : World) : Prop := ∃ v, y = .returned v ∧ w'.ownsRow w.heap.size 42 2 v (pinF es cab n).length (flat 2 (sortL (pinF es cab n) (pinF es cab n).length)) ∧ Below w.heap.size w w'

set_option maxRecDepth 100000 in
set_option maxHeartbeats 8000000 in
theorem sPinsIn_any (A : Option Addr) (n c : Nat) (cab : Int) (es : List (Nat → Int)) (w : World) (hn : n ≤ 4194303) (h : Rd w 10 A n es) :
    Calls Try.prog 6 #[.slice A n c, .int .i64 cab] w (PnS w es cab n) := by
  have H := Lib.hid h
  clear h
  go_enter Try.func6, Try.ntmps6
  go_wp2
  go_loopw [5, 6] (fun v i wr => ∃ k : Nat, k ≤ n ∧ i = .int .i64 k ∧ Hid (wr.ownsRow w.heap.size 42 2 v (pinF es cab k).length (flat 2 (sortL (pinF es cab k) (pinF es cab k).length))) ∧ Below w.heap.size w wr) (fun _ i _ => n - (intOf i).toNat)
  case atStart => exact ⟨0, Nat.zero_le _, rfl, Lib.hid (row_empty0 w _ 2), by (repeat (first | with_reducible exact Below.refl _ _ | with_reducible refine Below.drew ?_ | with_reducible refine below_drewN ?_ _ | (with_reducible refine bel_alloc ?_ ?_ _; (first | omega | (simp; omega) | simp)) | (with_reducible refine bel_set ?_ ?_ _; (first | omega | (simp; omega) | simp)) | (with_reducible refine bel_tr (by assumption) ?_ ?_; (first | omega | (simp; omega) | simp))))⟩
  case round =>
    obtain ⟨k, hk, rfl, HR, hbel⟩ := hrel
    have hsz := hbel.size
    have hml := pinF_len es cab k
    by_cases hlt : k < n
    · have hki : (k : Int) < (n : Int) := by omega
      have hk0 : (0 : Int) ≤ (k : Int) := by omega
      obtain ⟨b, off, rfl, hb, hc⟩ := H.out.2.resolve_left (by omega)
      have c7 : wr.cell? ⟨b, off + k * 10 + 7, none⟩ = some (.int .i64 (fld es k 7)) := (hbel.cell (p := ⟨b, off + k * 10 + 7, none⟩) hb).trans (hc k hlt 7 (by omega))
      have c1 : wr.cell? ⟨b, off + k * 10 + 1, none⟩ = some (.int .i64 (fld es k 1)) := (hbel.cell (p := ⟨b, off + k * 10 + 1, none⟩) hb).trans (hc k hlt 1 (by omega))
      have c8 : wr.cell? ⟨b, off + k * 10 + 8, none⟩ = some (.int .i64 (fld es k 8)) := (hbel.cell (p := ⟨b, off + k * 10 + 8, none⟩) hb).trans (hc k hlt 8 (by omega))
      have c0 : wr.cell? ⟨b, off + k * 10, none⟩ = some (.int .i64 (fld es k 0)) := (hbel.cell (p := ⟨b, off + k * 10, none⟩) hb).trans (hc k hlt 0 (by omega))
      clear hc
      rcases Bool.eq_false_or_eq_true (fld es k 7 == 2) with t0 | t0
      · rcases Bool.eq_false_or_eq_true (fld es k 1 == cab) with t1 | t1
        · have HY : Hid (pinF es cab (k + 1) = pinF es cab k ++ [pinAt es k]) := Lib.hid (pinF_y (by unfold pinT; simp [t0, t1]))
          go_wp2
          go_region_held3 (fun w' => w'.cell? ⟨b, off + k * 10 + 8, none⟩ = some (.int .i64 (fld es k 8)) ∧ w'.cell? ⟨b, off + k * 10, none⟩ = some (.int .i64 (fld es k 0))) ((first | (go_keep; done) | (go_simp; done))) ((go_at_call 22; refine (l9Put_any w.heap.size (pinF es cab k).length _ (sortL (pinF es cab k) (pinF es cab k).length) (pinAt es k) _ (by omega) (sortL_len _ _) (by exact HR.out)).mono ?_; rintro y w2 ⟨v2, rfl, r2, b2⟩; have R2 : Hid (w2.ownsRow w.heap.size 42 2 v2 ((pinF es cab k).length + 1) (flat 2 (insL (sortL (pinF es cab k) (pinF es cab k).length) (plcP (sortL (pinF es cab k) (pinF es cab k).length) (pinAt es k) (pinF es cab k).length) (pinAt es k)))) := Lib.hid (World.ownsRow.lower r2 (by (first | omega | (simp; omega) | simp))); clear r2; have kc8 : w2.cell? ⟨b, off + k * 10 + 8, none⟩ = _ := b2.cell (p := ⟨b, off + k * 10 + 8, none⟩) (by (first | omega | (simp; omega) | simp)); have kc0 : w2.cell? ⟨b, off + k * 10, none⟩ = _ := b2.cell (p := ⟨b, off + k * 10, none⟩) (by (first | omega | (simp; omega) | simp))))
          all_goals
            go_wp2
            go_roundw
            case rel => exact ⟨k + 1, by omega, by go_num, by rw [HY.out, List.length_append, List.length_singleton, sortL_put]; exact R2, by (repeat (first | with_reducible exact Below.refl _ _ | with_reducible refine Below.drew ?_ | with_reducible refine below_drewN ?_ _ | (with_reducible refine bel_alloc ?_ ?_ _; (first | omega | (simp; omega) | simp)) | (with_reducible refine bel_set ?_ ?_ _; (first | omega | (simp; omega) | simp)) | (with_reducible refine bel_tr (by assumption) ?_ ?_; (first | omega | (simp; omega) | simp))))⟩
            case measure => simp [intOf]; omega
        · have HN : Hid (pinF es cab (k + 1) = pinF es cab k) := Lib.hid (pinF_n (by unfold pinT; simp [t0, t1]))
          go_wp2
          go_roundw
          case rel => exact ⟨k + 1, by omega, by go_num, by rw [HN.out]; first | exact HR | exact Lib.hid (World.ownsRow.alloc HR.out _), by (repeat (first | with_reducible exact Below.refl _ _ | with_reducible refine Below.drew ?_ | with_reducible refine below_drewN ?_ _ | (with_reducible refine bel_alloc ?_ ?_ _; (first | omega | (simp; omega) | simp)) | (with_reducible refine bel_set ?_ ?_ _; (first | omega | (simp; omega) | simp)) | (with_reducible refine bel_tr (by assumption) ?_ ?_; (first | omega | (simp; omega) | simp))))⟩
          case measure => simp [intOf]; omega
      · have HN : Hid (pinF es cab (k + 1) = pinF es cab k) := Lib.hid (pinF_n (by unfold pinT; simp [t0]))
        go_wp2
        go_roundw
        case rel => exact ⟨k + 1, by omega, by go_num, by rw [HN.out]; first | exact HR | exact Lib.hid (World.ownsRow.alloc HR.out _), by (repeat (first | with_reducible exact Below.refl _ _ | with_reducible refine Below.drew ?_ | with_reducible refine below_drewN ?_ _ | (with_reducible refine bel_alloc ?_ ?_ _; (first | omega | (simp; omega) | simp)) | (with_reducible refine bel_set ?_ ?_ _; (first | omega | (simp; omega) | simp)) | (with_reducible refine bel_tr (by assumption) ?_ ?_; (first | omega | (simp; omega) | simp))))⟩
        case measure => simp [intOf]; omega
    · have hkn : k = n := by omega
      subst hkn
      have hki : ¬ (k : Int) < (k : Int) := by omega
      go_wp2
      go_ret
      exact ⟨_, rfl, HR.out, by (repeat (first | with_reducible exact Below.refl _ _ | with_reducible refine Below.drew ?_ | with_reducible refine below_drewN ?_ _ | (with_reducible refine bel_alloc ?_ ?_ _; (first | omega | (simp; omega) | simp)) | (with_reducible refine bel_set ?_ ?_ _; (first | omega | (simp; omega) | simp)) | (with_reducible refine bel_tr (by assumption) ?_ ?_; (first | omega | (simp; omega) | simp))))⟩
end Go.Proofs.Ytlkladabefpnfaa
