/-
  The contract of the program's function that copies a wheel. No conditions beyond those stated.
-/
import Derived.Test.YtehmanlpgjccoaaW2
import Derived.Deep.DeepCutAuto
namespace Go.Proofs.Ytehmanlpgjccoaa
open Go.RowKit

set_option maxRecDepth 100000 in
set_option maxHeartbeats 4000000 in
theorem copyWheel_any (A : Option Addr) (N c : Nat) (S : Nat → Sp) (w : World) (hN : N ≤ 4194304) (hT : tot S N ≤ 4194304) (h : RdW w A N S) :
    Calls Try.prog 17 #[.agg #[.slice A N c]] w fun x w' => ∃ A' c' S', x = .returned (.agg #[.slice A' N c']) ∧ Gat w.heap.size w' (.slice A' N c') N S' ∧ Sam N S S' ∧ Below w.heap.size w w' := by
  obtain ⟨i0, hi0, hz0, hz1, hz2⟩ := info_parts copyPin_info
  obtain ⟨j0, hj0, jz0, jz1, jz2⟩ := info_parts toPinSS_info
  go_enter Try.func17, Try.ntmps17
  go_wp2
  go_loopw [9] (fun i wr => ∃ k : Nat, k ≤ N ∧ i = .int .i64 k ∧ ∃ v S', Hid (Gat (w.heap.size + 3) wr v k S') ∧ Hid (Sam k S S') ∧ Below w.heap.size w wr ∧ w.heap.size + 3 ≤ wr.heap.size ∧ wr.cell? ⟨w.heap.size + 1 + 1, 0, none⟩ = some v ∧ wr.frozen? ⟨w.heap.size + 1 + 1, 0, none⟩ = false ∧ (wr.cell? ⟨w.heap.size + 1, 0, none⟩).isSome = true ∧ wr.frozen? ⟨w.heap.size + 1, 0, none⟩ = false) (fun i _ => N - (intOf i).toNat)
  case atStart => exact ⟨0, Nat.zero_le _, rfl, .slice none 0 0, S, Lib.hid (Gat.start _ _ _), Lib.hid (Sam.refl _ _), by (repeat (first | with_reducible exact Below.refl _ _ | with_reducible refine Below.drew ?_ | with_reducible refine below_drewN ?_ _ | (with_reducible refine bel_alloc ?_ ?_ _; (first | omega | (simp; omega) | simp)) | (with_reducible refine bel_set ?_ ?_ _; (first | omega | (simp; omega) | simp)) | (with_reducible refine bel_tr (by assumption) ?_ ?_; (first | omega | (simp; omega) | simp)))), by simp, by (first | (go_keep; done) | (go_simp; done)), by (first | (go_keep; done) | (go_simp; done)), by (first | (go_keep; done) | (go_simp; done)), by (first | (go_keep; done) | (go_simp; done))⟩
  case round =>
    obtain ⟨k, hk, rfl, v, S', HG, HS, hbel, hsz, q0, z0, q1, z1⟩ := hrel
    by_cases hlt : k < N
    · have hr := h.below hbel
      obtain ⟨b, off, rfl⟩ := h.addr (by omega)
      have hb := hr.lt (by omega)
      have c0 := hr.cell hlt
      have HR := Lib.hid (hr.rd k hlt)
      have htk := tot_one (S := S) hlt
      clear h hr
      go_upto_region 5 with fail
      go_region_law (first
        | (refine step_append_rd _ (by rfl) _ (.tmp 15) 34 (by rfl) wr.heap.size 28 i0 _ 2 16 Try.underlying34 hi0 hz0 hz1 hz2 (by rfl) (by omega) (.slice none 0 0) 0 [] (by rfl) (World.ownsRow_nil _ _ _ _) (S k).A (S k).n (S k).c (S k).es (by rfl) (by exact HR.out) (by unfold maxLen; omega) (by omega) (by (first | omega | (simp; omega) | simp)) ?_; intro v2 w2 hown2 hg2 hat2; simp only [Nat.zero_add, List.nil_append] at hown2; obtain ⟨A2, c2, hv2, _⟩ := own_of_row HR.out.1 hown2; subst hv2; have b2 : Below wr.heap.size wr w2 := Below.grown (show Below wr.heap.size wr _ from by (repeat (first | with_reducible exact Below.refl _ _ | with_reducible refine Below.drew ?_ | with_reducible refine below_drewN ?_ _ | (with_reducible refine bel_alloc ?_ ?_ _; (first | omega | (simp; omega) | simp)) | (with_reducible refine bel_set ?_ ?_ _; (first | omega | (simp; omega) | simp)) | (with_reducible refine bel_tr (by assumption) ?_ ?_; (first | omega | (simp; omega) | simp))))) hg2 (by (first | omega | (simp; omega) | simp)) (by simp [Value.ownBlock]); have s2 := b2.size; have kc2 : ∀ o, w2.cell? ⟨w.heap.size + 1 + 1, o, none⟩ = _ := (fun o => b2.cell (p := ⟨w.heap.size + 1 + 1, o, none⟩) (by (first | omega | (simp; omega) | simp))); have kf2 : ∀ o, w2.frozen? ⟨w.heap.size + 1 + 1, o, none⟩ = _ := (fun o => b2.frozen (p := ⟨w.heap.size + 1 + 1, o, none⟩) (by (first | omega | (simp; omega) | simp))); have x2 : w2.cell? ⟨w.heap.size + 1 + 1, 0, none⟩ = some v := (kc2 0).trans q0; have kz2 : ¬ w.heap.size + 1 + 1 = w2.heap.size := (by omega); have kx2 : w.heap.size + 1 + 1 < w2.heap.size := (by omega); have x2a : ∀ ob, (w2.alloc ob).cell? ⟨w.heap.size + 1 + 1, 0, none⟩ = some v := fun ob => (World.cell?_of_block (w := w2) (w' := w2.alloc ob) (a := ⟨w.heap.size + 1 + 1, 0, none⟩) (Below.heap_alloc w2 ob (w.heap.size + 1 + 1) kx2)).trans x2)
        | (refine step_append_own _ (by rfl) (.tmp 14) (.tmp 17) 24 (by rfl) (w.heap.size + 3) 34 j0 _ 1 24 Try.underlying24 hj0 jz0 jz1 jz2 (by rfl) (by omega) v k ((List.range k).map fun i => (S' i).v) (by rfl) (World.ownsRow.alloc (row_below HG.out.row b2) _) ⟨_, 0, none⟩ 1 1 [.slice A2 (S k).n c2] (by rfl) (by rfl) (one_cell (by first | (go_keep; done) | (go_simp; done))) (row_one hown2) (by unfold maxLen; omega) (by omega) (by (first | omega | (simp; omega) | simp)) ?_; intro v4 w4 hown4 hg4 hat4; obtain ⟨A4, c4, hv4, _⟩ := slice_of_row hown4; subst hv4; have b4 : Below (w.heap.size + 3) wr w4 := Below.grown (show Below (w.heap.size + 3) wr _ from by (repeat (first | with_reducible exact Below.refl _ _ | with_reducible refine Below.drew ?_ | with_reducible refine below_drewN ?_ _ | (with_reducible refine bel_alloc ?_ ?_ _; (first | omega | (simp; omega) | simp)) | (with_reducible refine bel_set ?_ ?_ _; (first | omega | (simp; omega) | simp)) | (with_reducible refine bel_tr (by assumption) ?_ ?_; (first | omega | (simp; omega) | simp))))) hg4 (by (first | omega | (simp; omega) | simp)) (row_ge HG.out.row (Nat.le_refl _)); have s4 := b4.size; have x4 : w4.cell? ⟨w.heap.size + 1 + 1, 0, none⟩ = some v := (b4.cell (p := ⟨w.heap.size + 1 + 1, 0, none⟩) (by (first | omega | (simp; omega) | simp))).trans q0; have y4 : w4.frozen? ⟨w.heap.size + 1 + 1, 0, none⟩ = false := (b4.frozen (p := ⟨w.heap.size + 1 + 1, 0, none⟩) (by (first | omega | (simp; omega) | simp))).trans z0; skip))
      all_goals
        have HG4 := Lib.hid (HG.out.snoc (s := ⟨A2, (S k).n, c2, (S k).es⟩) hsz (show Below wr.heap.size wr _ from by (repeat (first | with_reducible exact Below.refl _ _ | with_reducible refine Below.drew ?_ | with_reducible refine below_drewN ?_ _ | (with_reducible refine bel_alloc ?_ ?_ _; (first | omega | (simp; omega) | simp)) | (with_reducible refine bel_set ?_ ?_ _; (first | omega | (simp; omega) | simp)) | (with_reducible refine bel_tr (by assumption) ?_ ?_; (first | omega | (simp; omega) | simp))))) (World.ownsRow.alloc hown2 _) HR.out.1 hown4 hg4 hat4)
        have HS4 : Hid (Sam (k + 1) S (fun i => if i < k then S' i else ⟨A2, (S k).n, c2, (S k).es⟩)) := Lib.hid fun i hi => by
          by_cases h1 : i < k
          · simp only [if_pos h1]; exact HS.out i h1
          · obtain rfl : i = k := by omega
            simp
        have p1 : (w4.cell? ⟨w.heap.size + 1, 0, none⟩).isSome = true := by rw [b4.cell (p := ⟨w.heap.size + 1, 0, none⟩) (by (first | omega | (simp; omega) | simp))]; exact q1
        have p2 : w4.frozen? ⟨w.heap.size + 1, 0, none⟩ = false := (b4.frozen (p := ⟨w.heap.size + 1, 0, none⟩) (by (first | omega | (simp; omega) | simp))).trans z1
        clear hown2 hg2 hat2 hown4 hg4 hat4 HG HS HR
        go_wp2
        go_roundw
        case rel => exact ⟨k + 1, by omega, by go_num, .slice A4 (k + 1) c4, _, Lib.hid (HG4.out.set_ (by (first | omega | (simp; omega) | simp)) _), HS4, by (repeat (first | with_reducible exact Below.refl _ _ | with_reducible refine Below.drew ?_ | with_reducible refine below_drewN ?_ _ | (with_reducible refine bel_alloc ?_ ?_ _; (first | omega | (simp; omega) | simp)) | (with_reducible refine bel_set ?_ ?_ _; (first | omega | (simp; omega) | simp)) | (with_reducible refine bel_tr (by assumption) ?_ ?_; (first | omega | (simp; omega) | simp)))), by (first | omega | (simp; omega) | simp), by (first | (go_keep; done) | (go_simp; done)), by (first | (go_keep; done) | (go_simp; done)), by (first | (go_keep; done) | (go_simp; done)), by (first | (go_keep; done) | (go_simp; done))⟩
        case measure => simp [intOf]; omega
    · have hkn : k = N := by omega
      subst hkn
      obtain ⟨A4, c4, hv4, _⟩ := slice_of_row HG.out.row
      subst hv4
      obtain ⟨r1, q1⟩ := Option.isSome_iff_exists.1 q1
      clear h
      go_wp2
      refine bodyPost_ret (v := .agg #[.slice A4 k c4]) (by simp only [results, Try.results17]; first | (go_simp; done) | (go_simp; omega)) rfl ⟨A4, c4, S', rfl, (HG.out.set_ (by (first | omega | (simp; omega) | simp)) _).lower (by omega), HS.out, ?_⟩
      (repeat (first | with_reducible exact Below.refl _ _ | with_reducible refine Below.drew ?_ | with_reducible refine below_drewN ?_ _ | (with_reducible refine bel_alloc ?_ ?_ _; (first | omega | (simp; omega) | simp)) | (with_reducible refine bel_set ?_ ?_ _; (first | omega | (simp; omega) | simp)) | (with_reducible refine bel_tr (by assumption) ?_ ?_; (first | omega | (simp; omega) | simp))))
end Go.Proofs.Ytehmanlpgjccoaa
