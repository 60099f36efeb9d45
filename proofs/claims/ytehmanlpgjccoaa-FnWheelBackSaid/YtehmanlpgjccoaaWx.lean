/-
  A gathered wheel with one spoke put in another's place; the contract of slices.Index at pins. No conditions beyond those stated.
-/
import Derived.Test.YtehmanlpgjccoaaWa
import Derived.Test.YtehmanlpgjccoaaBw
import Derived.Test.YtehmanlpgjccoaaAt
namespace Go.Proofs.Ytehmanlpgjccoaa
open Go.RowKit

theorem Own.set_ne {B K n : Nat} {w : World} {A : Option Addr} {es : List (Nat → Int)} {p : Addr} (h : Own B w K A n es) (hne : ∀ a, n ≠ 0 → A = some a → a.block ≠ p.block) (v : Value) : Own B (w.setCell p v) K A n es := by
  refine ⟨h.1, ?_⟩
  rcases Nat.eq_zero_or_pos n with h0 | h0
  · exact .inl h0
  · obtain ⟨b, off, h1, h2, h3, h4, h5⟩ := h.2.resolve_left (by omega)
    have hb : b ≠ p.block := hne _ (by omega) h1
    have hh := Below.heap_setCell w p v b hb
    exact .inr ⟨b, off, h1, by simpa [World.setCell] using h2, h3, fun o => (World.frozen?_of_block (w := w) (w' := w.setCell p v) (a := ⟨b, o, none⟩) hh).trans (h4 o), fun i hi j hj => (World.cell?_of_block (w := w) (w' := w.setCell p v) (a := ⟨b, _, none⟩) hh).trans (h5 i hi j hj)⟩
theorem Sp.ownBlock_of {s : Sp} {a : Addr} (h : s.A = some a) : s.v.ownBlock = some a.block := by
  unfold Sp.v
  rw [h]
  rfl
theorem Sp.addr_of {s : Sp} {k : Nat} (h : s.v.ownBlock = some k) : ∃ a, s.A = some a ∧ a.block = k := by
  unfold Sp.v at h
  rcases hA : s.A with _ | a
  · rw [hA] at h; simp [Value.ownBlock] at h
  · rw [hA] at h
    exact ⟨a, rfl, by simpa [Value.ownBlock] using h⟩
def updS (S : Nat → Sp) (k : Nat) (s : Sp) (i : Nat) : Sp := if i = k then s else S i
theorem Gat.put {B N k c : Nat} {w w' : World} {A : Option Addr} {S : Nat → Sp} {s : Sp} (h : Gat B w (.slice A N c) N S) (hk : k < N) (hg : w.grownBy w' (S k).v.ownBlock) (ho : Own B w' 2 s.A s.n s.es)
    (hc : s.n ≤ s.c ∧ s.c ≤ 9223372036854775807) (hloc : ∀ a, s.n ≠ 0 → s.A = some a → (S k).v.ownBlock = some a.block ∨ w.heap.size ≤ a.block) :
    ∃ b, A = some ⟨b, 0, none⟩ ∧ b < w.heap.size ∧ B ≤ b ∧ (∃ u, w'.cell? ⟨b, k, none⟩ = some u) ∧ w'.frozen? ⟨b, k, none⟩ = false ∧ OwnW B w'.heap.size (w'.setCell ⟨b, k, none⟩ s.v) A N (updS S k s) := by
  have hN : 0 < N := by omega
  rcases h.row.2 with ⟨_, h0⟩ | ⟨b, cap, cur, hv, hgB, hh, hnc, hcm, hsz, htk⟩
  · omega
  injection hv with hv1 _ hv3
  have hbw : b < w.heap.size := (Array.getElem?_eq_some_iff.1 hh).1
  have hrow : ∀ i a, i < N → (S i).v.ownBlock = some a → a ≠ b := fun i a hi ha e => h.nr i a hi ha (by rw [hv1, e]; rfl)
  have hbk : some b ≠ (S k).v.ownBlock := fun e => hrow k b hk e.symm rfl
  have hh' : w'.heap[b]? = some (.cells cur 34 (0, 0)) := (hg.block b hbw hbk).trans hh
  have hcell : ∀ i, i < N → w'.cell? ⟨b, i, none⟩ = some (S i).v := fun i hi => by
    have h3 : ((List.range N).map fun i => (S i).v)[i]? = some (S i).v := by
      rw [List.getElem?_map, List.getElem?_range hi]
      rfl
    rw [← htk, List.getElem?_take, if_pos (by omega)] at h3
    rw [cell_of_heap hh']
    simpa using h3
  have hfz : ∀ o, w'.frozen? ⟨b, o, none⟩ = false := fun o => frozen_of_heap hh'
  have hoth : ∀ i, i < N → i ≠ k → Own B w' 2 (S i).A (S i).n (S i).es := fun i hi hik => by
    obtain ⟨h1, h2⟩ := h.own i hi
    obtain ⟨A', c', he, ho'⟩ := own_of_row h2 (row_grown h1 hg fun a ha e => h.apart i k a a hi hk hik ha e.symm rfl)
    have e1 : (S i).A = A' := by injection he
    rw [e1]
    exact ho'
  have hne : ∀ i, i < N → ∀ a, (updS S k s i).n ≠ 0 → (updS S k s i).A = some a → a.block ≠ b := fun i hi a h0 ha => by
    unfold updS at h0 ha
    by_cases hik : i = k
    · rw [if_pos hik] at h0 ha
      rcases hloc a h0 ha with h1 | h1
      · exact hrow k _ hk h1
      · omega
    · rw [if_neg hik] at h0 ha
      exact hrow i _ hi (Sp.ownBlock_of ha)
  refine ⟨b, hv1, hbw, hgB, ⟨_, hcell k hk⟩, hfz k, ?_⟩
  have hspk : Spk B (w'.setCell ⟨b, k, none⟩ s.v) N (updS S k s) := by
    refine ⟨fun i hi => ?_, fun i hi => ?_, fun i j hi hj hij h1 h2 a a2 ha ha2 => ?_⟩
    · refine Own.set_ne ?_ (hne i hi) _
      unfold updS
      by_cases hik : i = k
      · rw [if_pos hik]; exact ho
      · rw [if_neg hik]; exact hoth i hi hik
    · unfold updS
      by_cases hik : i = k
      · rw [if_pos hik]; exact hc
      · rw [if_neg hik]
        obtain ⟨h1, h2⟩ := h.own i hi
        obtain ⟨A', c', he, h3, h4⟩ := slice_of_row h1
        injection he with _ _ e3
        rw [e3]
        exact ⟨h3, h4⟩
    · unfold updS at h1 h2 ha ha2
      by_cases hik : i = k <;> by_cases hjk : j = k
      · omega
      · rw [if_pos hik] at h1 ha
        rw [if_neg hjk] at h2 ha2
        rcases hloc a h1 ha with h5 | h5
        · exact h.apart k j a.block a2.block hk hj (by omega) h5 (Sp.ownBlock_of ha2)
        · have := row_lt (h.own j hj).1 _ (Sp.ownBlock_of ha2)
          omega
      · rw [if_neg hik] at h1 ha
        rw [if_pos hjk] at h2 ha2
        rcases hloc a2 h2 ha2 with h5 | h5
        · exact h.apart i k a.block a2.block hi hk hik (Sp.ownBlock_of ha) h5
        · have := row_lt (h.own i hi).1 _ (Sp.ownBlock_of ha)
          omega
      · rw [if_neg hik] at h1 ha
        rw [if_neg hjk] at h2 ha2
        exact h.apart i j a.block a2.block hi hj hij (Sp.ownBlock_of ha) (Sp.ownBlock_of ha2)
  have hfin := hspk.ownW (A := A) (.inr ⟨b, 0, hv1, by simp [World.setCell]; have := hg.size; omega, hgB, fun o => (World.frozen?_setCell _ _ _ _).trans (hfz o), fun i hi => ?_⟩) fun i hi h0 a a2 ha ha2 => ?_
  · have e : (w'.setCell ⟨b, k, none⟩ s.v).heap.size = w'.heap.size := by simp [World.setCell]
    rw [e] at hfin
    exact hfin
  · rw [Nat.zero_add]
    unfold updS
    by_cases hik : i = k
    · rw [if_pos hik, hik]
      exact World.cell?_setCell_same' _ _ _ (by rw [hcell k hk]; rfl)
    · rw [if_neg hik]
      exact (World.cell?_setCell_other (w := w') (a := ⟨b, k, none⟩) (b := ⟨b, i, none⟩) (v := s.v) (by simp <;> omega)).trans (hcell i hi)
  · rw [hv1] at ha
    injection ha with ha
    subst ha
    exact fun e => hne i hi a2 h0 ha2 e.symm

/-- Element i is the pin p. -/
def isP (es : List (Nat → Int)) (p : Nat → Int) (i : Nat) : Bool := decide (fld es i 0 = p 0 ∧ fld es i 1 = p 1)

set_option maxRecDepth 100000 in
set_option maxHeartbeats 2000000 in
theorem indexPin_any (A : Option Addr) (n c : Nat) (es : List (Nat → Int)) (p : Nat → Int) (w : World) (hn : n ≤ 4194304) (h : Rd w 2 A n es) :
    Calls Try.prog 25 #[.slice A n c, .agg #[.int .i64 (p 0), .int .i64 (p 1)]] w (IntP (FirstAt (isP es p) n) w) := by
  have hcases := h.2
  clear h
  go_enter Try.func25, Try.ntmps25
  go_wp2
  go_loopw [4, 8] (fun _ i wr => ∃ k : Nat, k ≤ n ∧ i = .int .i64 k ∧ Hid (∀ j, j < k → isP es p j = false) ∧ Below w.heap.size w wr ∧ wr.cell? ⟨w.heap.size, 0, none⟩ = some (.int .i64 (p 0)) ∧ wr.cell? ⟨w.heap.size, 1, none⟩ = some (.int .i64 (p 1))) (fun _ i _ => n - (intOf i).toNat)
  case atStart => exact ⟨0, Nat.zero_le _, rfl, Lib.hid (fun i hi => absurd hi (by omega)), by (repeat (first | with_reducible exact Below.refl _ _ | with_reducible refine Below.drew ?_ | with_reducible refine below_drewN ?_ _ | (with_reducible refine bel_alloc ?_ ?_ _; (first | omega | (simp; omega) | simp)) | (with_reducible refine bel_set ?_ ?_ _; (first | omega | (simp; omega) | simp)) | (with_reducible refine bel_tr (by assumption) ?_ ?_; (first | omega | (simp; omega) | simp)))), by (first | (go_keep; done) | (go_simp; done)), by (first | (go_keep; done) | (go_simp; done))⟩
  case round =>
    obtain ⟨k, hk, rfl, HQ, hbel, q0, q1⟩ := hrel
    by_cases hlt : k < n
    · obtain ⟨b, off, rfl, hb, hc⟩ := hcases.resolve_left (by omega)
      have c0 : wr.cell? ⟨b, off + k * 2, none⟩ = some (.int .i64 (fld es k 0)) := (hbel.cell (p := ⟨b, off + k * 2, none⟩) hb).trans (hc k hlt 0 (by omega))
      have c1 : wr.cell? ⟨b, off + k * 2 + 1, none⟩ = some (.int .i64 (fld es k 1)) := (hbel.cell (p := ⟨b, off + k * 2 + 1, none⟩) hb).trans (hc k hlt 1 (by omega))
      clear hcases hc
      by_cases e0 : p 0 = fld es k 0
      case neg =>
        have HQ2 : Hid (∀ j, j < k + 1 → isP es p j = false) := fun j hj => by
          by_cases h1 : j < k
          · exact HQ.out j h1
          · obtain rfl : j = k := by omega
            simp only [isP, decide_eq_false_iff_not]
            intro h2
            first | exact e0 h2.1.symm | exact e1 h2.2.symm
        go_wp2
        go_region
        all_goals
          go_wp2
          go_roundw
          case rel => exact ⟨k + 1, by omega, by go_num, HQ2, by (repeat (first | with_reducible exact Below.refl _ _ | with_reducible refine Below.drew ?_ | with_reducible refine below_drewN ?_ _ | (with_reducible refine bel_alloc ?_ ?_ _; (first | omega | (simp; omega) | simp)) | (with_reducible refine bel_set ?_ ?_ _; (first | omega | (simp; omega) | simp)) | (with_reducible refine bel_tr (by assumption) ?_ ?_; (first | omega | (simp; omega) | simp)))), by (first | (go_keep; done) | (go_simp; done)), by (first | (go_keep; done) | (go_simp; done))⟩
          case measure => simp [intOf]; omega
      by_cases e1 : p 1 = fld es k 1
      case neg =>
        have HQ2 : Hid (∀ j, j < k + 1 → isP es p j = false) := fun j hj => by
          by_cases h1 : j < k
          · exact HQ.out j h1
          · obtain rfl : j = k := by omega
            simp only [isP, decide_eq_false_iff_not]
            intro h2
            first | exact e0 h2.1.symm | exact e1 h2.2.symm
        go_wp2
        go_region
        all_goals
          go_wp2
          go_roundw
          case rel => exact ⟨k + 1, by omega, by go_num, HQ2, by (repeat (first | with_reducible exact Below.refl _ _ | with_reducible refine Below.drew ?_ | with_reducible refine below_drewN ?_ _ | (with_reducible refine bel_alloc ?_ ?_ _; (first | omega | (simp; omega) | simp)) | (with_reducible refine bel_set ?_ ?_ _; (first | omega | (simp; omega) | simp)) | (with_reducible refine bel_tr (by assumption) ?_ ?_; (first | omega | (simp; omega) | simp)))), by (first | (go_keep; done) | (go_simp; done)), by (first | (go_keep; done) | (go_simp; done))⟩
          case measure => simp [intOf]; omega
      have HF : Hid (FirstAt (isP es p) n (k : Int)) := .inl ⟨k, hlt, rfl, by simp [isP, e0, e1], HQ.out⟩
      go_wp2
      go_region
      all_goals
        go_wp2
        go_ret
        exact ⟨k, HF.out, rfl, by (repeat (first | with_reducible exact Below.refl _ _ | with_reducible refine Below.drew ?_ | with_reducible refine below_drewN ?_ _ | (with_reducible refine bel_alloc ?_ ?_ _; (first | omega | (simp; omega) | simp)) | (with_reducible refine bel_set ?_ ?_ _; (first | omega | (simp; omega) | simp)) | (with_reducible refine bel_tr (by assumption) ?_ ?_; (first | omega | (simp; omega) | simp))))⟩
    · have hkn : k = n := by omega
      subst hkn
      go_wp2
      go_ret
      exact ⟨-1, .inr ⟨rfl, HQ.out⟩, rfl, hbel⟩
end Go.Proofs.Ytehmanlpgjccoaa
