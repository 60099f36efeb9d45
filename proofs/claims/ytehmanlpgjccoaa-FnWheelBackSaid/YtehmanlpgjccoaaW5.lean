/-
  Contracts of the two functions that make an empty wheel. No conditions beyond those stated.
-/
import Derived.Test.YtehmanlpgjccoaaW2
namespace Go.Proofs.Ytehmanlpgjccoaa
open Go.RowKit

set_option maxRecDepth 100000 in
set_option maxHeartbeats 2000000 in
theorem sWheelNew_any (w : World) :
    Calls Try.prog 42 #[] w fun x w' => ∃ A c S, x = .returned (.agg #[.slice A 9 c]) ∧ Gat w.heap.size w' (.slice A 9 c) 9 S ∧ (∀ i, i < 9 → (S i).n = 0 ∧ (S i).es = []) ∧ Below w.heap.size w w' := by
  obtain ⟨j0, hj0, jz0, jz1, jz2⟩ := info_parts toPinSS_info
  go_enter Try.func42, Try.ntmps42
  go_wp2
  go_loopw [2] (fun i wr => ∃ k : Nat, k ≤ 9 ∧ i = .int .i64 k ∧ ∃ A c S, Hid (Gat (w.heap.size + 2) wr (.slice A k c) k S) ∧ Hid (∀ i, i < k → (S i).n = 0 ∧ (S i).es = []) ∧ Below w.heap.size w wr ∧ w.heap.size + 2 ≤ wr.heap.size ∧ wr.cell? ⟨w.heap.size + 1, 0, none⟩ = some (.slice A k c) ∧ wr.frozen? ⟨w.heap.size + 1, 0, none⟩ = false ∧ (∃ r, wr.cell? ⟨w.heap.size, 0, none⟩ = some r) ∧ wr.frozen? ⟨w.heap.size, 0, none⟩ = false) (fun i _ => 9 - (intOf i).toNat)
  case atStart => exact ⟨0, Nat.zero_le _, rfl, none, 0, (fun _ => ⟨none, 0, 0, []⟩), Lib.hid (Gat.start _ _ _), Lib.hid (fun i hi => absurd hi (by omega)), by (repeat (first | with_reducible exact Below.refl _ _ | with_reducible refine Below.drew ?_ | with_reducible refine below_drewN ?_ _ | (with_reducible refine bel_alloc ?_ ?_ _; (first | omega | (simp; omega) | simp)) | (with_reducible refine bel_set ?_ ?_ _; (first | omega | (simp; omega) | simp)) | (with_reducible refine bel_tr (by assumption) ?_ ?_; (first | omega | (simp; omega) | simp)))), by simp, by (first | (go_keep; done) | (go_simp; done)), by (first | (go_keep; done) | (go_simp; done)), ⟨.slice none 0 0, by (first | (go_keep; done) | (go_simp; done))⟩, by (first | (go_keep; done) | (go_simp; done))⟩
  case round =>
    obtain ⟨k, hk, rfl, A, c, S, HG, HE, hbel, hsz, q0, z0, ⟨r1, q1⟩, z1⟩ := hrel
    by_cases hlt : k < 9
    · have hki : (k : Int) < 9 := by omega
      go_wp2_with (at_builtin; go_must (refine wpList_append_own_at _ rfl _ _ 24 rfl (w.heap.size + 2) 34 j0 _ 1 24 Try.underlying24 hj0 jz0 jz1 jz2 rfl (by omega) _ k ((List.range k).map fun i => (S i).v) rfl (World.ownsRow.alloc (World.ownsRow.alloc HG.out.row _) _) ⟨wr.heap.size + 1, 0, none⟩ 1 1 [.slice (some ⟨wr.heap.size, 0, none⟩) 0 0] rfl rfl (one_cell (one_cell2 wr _ _ _)) (by simp [Value.oneCell']) (by unfold maxLen; omega) (by omega) (by (first | omega | (simp; omega) | simp)) ?_); intro v4 w4 hown4 hg4 hnil4 hat4; obtain ⟨A4, c4, hv4, _⟩ := slice_of_row hown4; subst hv4; have b4 : Below (w.heap.size + 2) wr w4 := Below.grown (show Below (w.heap.size + 2) wr _ from by (repeat (first | with_reducible exact Below.refl _ _ | with_reducible refine Below.drew ?_ | with_reducible refine below_drewN ?_ _ | (with_reducible refine bel_alloc ?_ ?_ _; (first | omega | (simp; omega) | simp)) | (with_reducible refine bel_set ?_ ?_ _; (first | omega | (simp; omega) | simp)) | (with_reducible refine bel_tr (by assumption) ?_ ?_; (first | omega | (simp; omega) | simp))))) hg4 (by (first | omega | (simp; omega) | simp)) (row_ge HG.out.row (Nat.le_refl _)); have s4 := b4.size; have x4 : w4.cell? ⟨w.heap.size + 1, 0, none⟩ = some (.slice A k c) := (b4.cell (p := ⟨w.heap.size + 1, 0, none⟩) (by (first | omega | (simp; omega) | simp))).trans q0; have y4 : w4.frozen? ⟨w.heap.size + 1, 0, none⟩ = false := (b4.frozen (p := ⟨w.heap.size + 1, 0, none⟩) (by (first | omega | (simp; omega) | simp))).trans z0)
      have HG4 := Lib.hid (HG.out.snoc (s := ⟨some ⟨wr.heap.size, 0, none⟩, 0, 0, []⟩) hsz (show Below wr.heap.size wr _ from by (repeat (first | with_reducible exact Below.refl _ _ | with_reducible refine Below.drew ?_ | with_reducible refine below_drewN ?_ _ | (with_reducible refine bel_alloc ?_ ?_ _; (first | omega | (simp; omega) | simp)) | (with_reducible refine bel_set ?_ ?_ _; (first | omega | (simp; omega) | simp)) | (with_reducible refine bel_tr (by assumption) ?_ ?_; (first | omega | (simp; omega) | simp))))) (World.ownsRow.alloc (rowE wr _ 2) _) rfl hown4 hg4 hat4)
      have HE4 : Hid (∀ i, i < k + 1 → (if i < k then S i else (⟨some ⟨wr.heap.size, 0, none⟩, 0, 0, []⟩ : Sp)).n = 0 ∧ (if i < k then S i else (⟨some ⟨wr.heap.size, 0, none⟩, 0, 0, []⟩ : Sp)).es = []) := Lib.hid fun i hi => by
        by_cases h1 : i < k
        · simp only [if_pos h1]; exact HE.out i h1
        · simp [h1]
      have p1 : w4.cell? ⟨w.heap.size, 0, none⟩ = some r1 := (b4.cell (p := ⟨w.heap.size, 0, none⟩) (by (first | omega | (simp; omega) | simp))).trans q1
      have p2 : w4.frozen? ⟨w.heap.size, 0, none⟩ = false := (b4.frozen (p := ⟨w.heap.size, 0, none⟩) (by (first | omega | (simp; omega) | simp))).trans z1
      clear hown4 hg4 hat4 hnil4 HG HE
      go_wp2
      go_roundw
      case rel => exact ⟨k + 1, by omega, by go_num, A4, c4, _, Lib.hid (HG4.out.set_ (by (first | omega | (simp; omega) | simp)) _), HE4, by (repeat (first | with_reducible exact Below.refl _ _ | with_reducible refine Below.drew ?_ | with_reducible refine below_drewN ?_ _ | (with_reducible refine bel_alloc ?_ ?_ _; (first | omega | (simp; omega) | simp)) | (with_reducible refine bel_set ?_ ?_ _; (first | omega | (simp; omega) | simp)) | (with_reducible refine bel_tr (by assumption) ?_ ?_; (first | omega | (simp; omega) | simp)))), by (first | omega | (simp; omega) | simp), by (first | (go_keep; done) | (go_simp; done)), by (first | (go_keep; done) | (go_simp; done)), ⟨r1, by (first | (go_keep; done) | (go_simp; done))⟩, by (first | (go_keep; done) | (go_simp; done))⟩
      case measure => simp [intOf]; omega
    · have hkn : k = 9 := by omega
      subst hkn
      go_wp2
      refine bodyPost_ret (v := .agg #[.slice A 9 c]) (by simp only [results, Try.results42]; first | (go_simp; done) | (go_simp; omega)) rfl ⟨A, c, S, rfl, (HG.out.set_ (by (first | omega | (simp; omega) | simp)) _).lower (by omega), HE.out, ?_⟩
      (repeat (first | with_reducible exact Below.refl _ _ | with_reducible refine Below.drew ?_ | with_reducible refine below_drewN ?_ _ | (with_reducible refine bel_alloc ?_ ?_ _; (first | omega | (simp; omega) | simp)) | (with_reducible refine bel_set ?_ ?_ _; (first | omega | (simp; omega) | simp)) | (with_reducible refine bel_tr (by assumption) ?_ ?_; (first | omega | (simp; omega) | simp))))
end Go.Proofs.Ytehmanlpgjccoaa
