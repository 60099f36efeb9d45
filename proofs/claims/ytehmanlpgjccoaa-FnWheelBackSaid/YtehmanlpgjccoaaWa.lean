/-
  All pins of a wheel, spoke by spoke: the contract of the reference's l9All; what a good wheel is.
-/
import Derived.Test.YtehmanlpgjccoaaWp
namespace Go.Proofs.Ytehmanlpgjccoaa
open Go.RowKit

/-- The pins of the first k spokes, one behind the other. -/
def allS (S : Nat → Sp) : Nat → List (Nat → Int)
  | 0 => []
  | k + 1 => allS S k ++ (S k).es
theorem allS_len {S : Nat → Sp} : ∀ {N : Nat}, (∀ i, i < N → (S i).es.length = (S i).n) → (allS S N).length = tot S N
  | 0, _ => rfl
  | N + 1, h => by
    simp only [allS, tot, List.length_append]
    rw [allS_len fun i hi => h i (by omega), h N (by omega)]
theorem fld_append_left {es es2 : List (Nat → Int)} {i : Nat} (h : i < es.length) : fld (es ++ es2) i = fld es i := by
  funext j
  unfold fld
  rw [List.getD_eq_getElem?_getD, List.getD_eq_getElem?_getD, List.getElem?_append_left h]
theorem fld_append_right {es es2 : List (Nat → Int)} {i : Nat} : fld (es ++ es2) (es.length + i) = fld es2 i := by
  funext j
  unfold fld
  rw [List.getD_eq_getElem?_getD, List.getD_eq_getElem?_getD, List.getElem?_append_right (by omega), Nat.add_sub_cancel_left]
theorem allS_get {S : Nat → Sp} : ∀ {N k i : Nat}, (∀ i, i < N → (S i).es.length = (S i).n) → k < N → i < (S k).n → fld (allS S N) (tot S k + i) = fld (S k).es i
  | 0, k, i, _, hk, _ => absurd hk (by omega)
  | N + 1, k, i, h, hk, hi => by
    have hl : (allS S N).length = tot S N := allS_len fun i hi => h i (by omega)
    simp only [allS]
    by_cases hkn : k < N
    · have := tot_one (S := S) hkn
      rw [fld_append_left (by omega)]
      exact allS_get (fun i hi => h i (by omega)) hkn hi
    · obtain rfl : k = N := by omega
      rw [← hl]
      exact fld_append_right
theorem tot_find {S : Nat → Sp} : ∀ {N j : Nat}, j < tot S N → ∃ k i, k < N ∧ i < (S k).n ∧ j = tot S k + i
  | 0, j, h => absurd h (by simp [tot])
  | N + 1, j, h => by
    by_cases hj : j < tot S N
    · obtain ⟨k, i, h1, h2, h3⟩ := tot_find hj
      exact ⟨k, i, by omega, h2, h3⟩
    · simp only [tot] at h
      exact ⟨N, j - tot S N, by omega, by omega, by omega⟩
theorem RdW.lens {w : World} {A : Option Addr} {N : Nat} {S : Nat → Sp} (h : RdW w A N S) : ∀ i, i < N → (S i).es.length = (S i).n := fun i hi => (h.rd i hi).1
theorem allS_sam {N : Nat} {S S' : Nat → Sp} (h : Sam N S S') : ∀ {k : Nat}, k ≤ N → allS S k = allS S' k
  | 0, _ => rfl
  | k + 1, hk => by
    simp only [allS]
    rw [allS_sam h (k := k) (by omega), (h k (by omega)).2]

/-- Pin i of spoke k stands where it belongs, behind the one ahead of it. -/
def stepW (S : Nat → Sp) (k i : Nat) : Prop := fld (S k).es i 0 % 9 = k ∧ (0 < i → ltP (fld (S k).es (i - 1)) (fld (S k).es i))
def stepL (L : List (Nat → Int)) (i : Nat) : Prop := pinR (fld L i) ∧ ∀ j, j < i → fld L j 1 ≠ fld L i 1
def WOK (N : Nat) (S : Nat → Sp) : Prop := N = 9 ∧ tot S N ≤ 10 ∧ (∀ i, i < tot S N → stepL (allS S N) i) ∧ ∀ k, k < N → ∀ i, i < (S k).n → stepW S k i
theorem WOK.sam {N : Nat} {S S' : Nat → Sp} (h : Sam N S S') (hw : WOK N S) : WOK N S' := by
  obtain ⟨h1, h2, h3, h4⟩ := hw
  have ht := h.tot (Nat.le_refl N)
  have ha := allS_sam h (Nat.le_refl N)
  refine ⟨h1, by omega, by rw [← ht, ← ha]; exact h3, fun k hk i hi => ?_⟩
  have h5 := h4 k hk i (by rw [(h k hk).1]; exact hi)
  unfold stepW at h5 ⊢
  rw [(h k hk).2] at h5
  exact h5

set_option maxRecDepth 100000 in
set_option maxHeartbeats 2000000 in
theorem l9All_any (A : Option Addr) (N c : Nat) (S : Nat → Sp) (w : World) (hN : N ≤ 4194304) (hT : tot S N ≤ 4194304) (h : RdW w A N S) :
    Calls Try.prog 30 #[.agg #[.slice A N c]] w fun x w' => ∃ v, x = .returned v ∧ w'.ownsRow w.heap.size 28 2 v (tot S N) (flat 2 (allS S N)) ∧ Below w.heap.size w w' := by
  obtain ⟨i0, hi0, hz0, hz1, hz2⟩ := info_parts copyPin_info
  have r0 : Hid (((w.alloc (.cells #[.slice A N c] 26)).alloc (.cells #[] 28)).ownsRow w.heap.size 28 2 (.slice (some ⟨w.heap.size + 1, 0, none⟩) 0 0) 0 (flat 2 [])) := Lib.hid (by
    have h := rowE (w.alloc (.cells #[.slice A N c] 26)) 28 2
    have e : (w.alloc (.cells #[.slice A N c] 26)).heap.size = w.heap.size + 1 := by simp
    rw [e] at h
    exact h.lower (by omega))
  go_enter Try.func30, Try.ntmps30
  go_wp2
  go_loopw [3, 4] (fun v i wr => ∃ k : Nat, k ≤ N ∧ i = .int .i64 k ∧ Hid (wr.ownsRow w.heap.size 28 2 v (tot S k) (flat 2 (allS S k))) ∧ Below w.heap.size w wr ∧ w.heap.size + 1 ≤ wr.heap.size ∧ wr.cell? ⟨w.heap.size, 0, none⟩ = some (.slice A N c) ∧ ∀ a, v.ownBlock = some a → w.heap.size + 1 ≤ a) (fun _ i _ => N - (intOf i).toNat)
  case atStart => exact ⟨0, Nat.zero_le _, rfl, r0, by (repeat (first | with_reducible exact Below.refl _ _ | with_reducible refine Below.drew ?_ | with_reducible refine below_drewN ?_ _ | (with_reducible refine bel_alloc ?_ ?_ _; (first | omega | (simp; omega) | simp)) | (with_reducible refine bel_set ?_ ?_ _; (first | omega | (simp; omega) | simp)) | (with_reducible refine bel_tr (by assumption) ?_ ?_; (first | omega | (simp; omega) | simp)))), by (first | omega | (simp; omega) | simp), by (first | (go_keep; done) | (go_simp; done)), by simp [Value.ownBlock]⟩
  case round =>
    obtain ⟨k, hk, rfl, HR, hbel, hsz, q0, hob⟩ := hrel
    clear r0
    by_cases hlt : k < N
    · have hr := h.below hbel
      obtain ⟨b, off, rfl⟩ := h.addr (by omega)
      have hb := hr.lt (by omega)
      have c0 := hr.cell hlt
      have HX := Lib.hid (hr.rd k hlt)
      have htk := tot_one (S := S) hlt
      clear h hr
      go_wp2_with (at_builtin; go_must (refine wpList_append_rd _ rfl _ _ 34 rfl w.heap.size 28 i0 _ 2 16 Try.underlying34 hi0 hz0 hz1 hz2 rfl (by omega) _ (tot S k) (allS S k) rfl HR.out (S k).A (S k).n (S k).c (S k).es rfl HX.out (by unfold maxLen; omega) (by omega) (by omega) ?_); intro v2 w2 hown2 hg2 hat2; have b2 : Below (w.heap.size + 1) wr w2 := (Below.refl _ wr).grown hg2 (by omega) hob; have s2 := b2.size; have x2 : w2.cell? ⟨w.heap.size, 0, none⟩ = some (.slice (some ⟨b, off, none⟩) N c) := (b2.cell (p := ⟨w.heap.size, 0, none⟩) (by (first | omega | (simp; omega) | simp))).trans q0)
      have H2 := Lib.hid hown2
      have hob2 : ∀ a, v2.ownBlock = some a → w.heap.size + 1 ≤ a := fun a ha => by
        rcases hat2 with h4 | h4
        · exact hob a (h4.symm.trans ha)
        · rw [h4] at ha
          injection ha with ha
          omega
      clear hown2 hg2 hat2 HR HX hob
      go_wp2
      go_roundw
      case rel => exact ⟨k + 1, by omega, by go_num, H2, by (repeat (first | with_reducible exact Below.refl _ _ | with_reducible refine Below.drew ?_ | with_reducible refine below_drewN ?_ _ | (with_reducible refine bel_alloc ?_ ?_ _; (first | omega | (simp; omega) | simp)) | (with_reducible refine bel_set ?_ ?_ _; (first | omega | (simp; omega) | simp)) | (with_reducible refine bel_tr (by assumption) ?_ ?_; (first | omega | (simp; omega) | simp)))), by omega, x2, hob2⟩
      case measure => simp [intOf]; omega
    · have hkn : k = N := by omega
      subst hkn
      go_wp2
      go_ret
      exact ⟨_, rfl, HR.out, hbel⟩
end Go.Proofs.Ytehmanlpgjccoaa
