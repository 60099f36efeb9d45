/-
  What WheelOf comes to, and the contract of the program's WheelOf. No conditions beyond those stated.
-/
import Derived.Test.YtjlmcppkafjniaaGreatWx
import Derived.Test.YtjlmcppkafjniaaGreatSo
import Derived.Test.YtjlmcppkafjniaaGreatWa
import Derived.Deep.DeepCutAuto
namespace Go.Proofs.YtjlmcppkafjniaaGreat
open Go.RowKit

def CutR (N : Nat) (S : Nat → Sp) (p : Nat → Int) (E : Nat → List (Nat → Int)) (b : Bool) : Prop :=
  (∃ k i : Nat, b = true ∧ WOK N S ∧ 1 ≤ p 0 ∧ k = (p 0 % 9).toNat ∧ k < N ∧ i < (S k).n ∧ isP (S k).es p i = true ∧ (∀ j, j < i → isP (S k).es p j = false) ∧ ∀ m, m < N → E m = if m = k then cutL (S k).es i else (S m).es)
  ∨ (b = false ∧ ¬ (WOK N S ∧ 1 ≤ p 0 ∧ ∃ i, i < (S (p 0 % 9).toNat).n ∧ isP (S (p 0 % 9).toNat).es p i = true) ∧ ∀ m, m < N → E m = (S m).es)
theorem cutR_ex (N : Nat) (S : Nat → Sp) (p : Nat → Int) : ∃ E b, CutR N S p E b := by
  by_cases h : WOK N S ∧ 1 ≤ p 0 ∧ ∃ i, i < (S (p 0 % 9).toNat).n ∧ isP (S (p 0 % 9).toNat).es p i = true
  · obtain ⟨h1, h2, i0, h3, h4⟩ := h
    rcases hx : ixOf (isP (S (p 0 % 9).toNat).es p) (S (p 0 % 9).toNat).n with _ | i
    · have := ixOf_none hx i0 h3
      rw [this] at h4
      cases h4
    · obtain ⟨h5, h6, h7⟩ := ixOf_some hx
      have h9 := h1.1
      exact ⟨_, true, .inl ⟨(p 0 % 9).toNat, i, rfl, h1, h2, rfl, by omega, h5, h6, h7, fun m _ => rfl⟩⟩
  · exact ⟨_, false, .inr ⟨rfl, h, fun m _ => rfl⟩⟩
theorem CutR.no {N : Nat} {S : Nat → Sp} {p : Nat → Int} {E : Nat → List (Nat → Int)} {b : Bool} (h : CutR N S p E b) (hn : ¬ (WOK N S ∧ 1 ≤ p 0 ∧ ∃ i, i < (S (p 0 % 9).toNat).n ∧ isP (S (p 0 % 9).toNat).es p i = true)) : b = false ∧ ∀ m, m < N → E m = (S m).es := by
  rcases h with ⟨k, i, _, h1, h2, rfl, _, h3, h4, _⟩ | ⟨h1, _, h2⟩
  · exact absurd ⟨h1, h2, i, h3, h4⟩ hn
  · exact ⟨h1, h2⟩
theorem CutR.yes {N i : Nat} {S : Nat → Sp} {p : Nat → Int} {E : Nat → List (Nat → Int)} {b : Bool} (h : CutR N S p E b) (hw : WOK N S) (hp : 1 ≤ p 0) (hi : i < (S (p 0 % 9).toNat).n) (hy : isP (S (p 0 % 9).toNat).es p i = true) (hb : ∀ j, j < i → isP (S (p 0 % 9).toNat).es p j = false) :
    b = true ∧ ∀ m, m < N → E m = if m = (p 0 % 9).toNat then cutL (S (p 0 % 9).toNat).es i else (S m).es := by
  rcases h with ⟨k, i2, h0, h1, h2, rfl, _, h3, h4, h5, h6⟩ | ⟨_, h1, _⟩
  · have e : i2 = i := by
      rcases Nat.lt_trichotomy i2 i with h | h | h
      · rw [hb i2 h] at h4; cases h4
      · exact h
      · rw [h5 i h] at hy; cases hy
    subst e
    exact ⟨h0, h6⟩
  · exact absurd ⟨hw, hp, i, hi, hy⟩ h1
theorem CutR.sam {N : Nat} {S S' : Nat → Sp} {p : Nat → Int} {E : Nat → List (Nat → Int)} {b : Bool} (hs : Sam N S S') (h : CutR N S p E b) : CutR N S' p E b := by
  rcases h with ⟨k, i, h0, h1, h2, h3, hk, h4, h5, h6, h7⟩ | ⟨h0, h1, h2⟩
  · refine .inl ⟨k, i, h0, h1.sam hs, h2, h3, hk, by rw [← (hs k hk).1]; exact h4, by rw [← (hs k hk).2]; exact h5, by rw [← (hs k hk).2]; exact h6, fun m hm => ?_⟩
    rw [h7 m hm, (hs k hk).2, (hs m hm).2]
  · refine .inr ⟨h0, fun ⟨g1, g2, i, g3, g4⟩ => h1 ⟨g1.sam hs.symm, g2, i, ?_⟩, fun m hm => by rw [h2 m hm, (hs m hm).2]⟩
    have hN := g1.1
    have hk : (p 0 % 9).toNat < N := by omega
    rw [(hs _ hk).1, (hs _ hk).2]
    exact ⟨g3, g4⟩
/-- How many pins a list of spokes holds. -/
def totE (E : Nat → List (Nat → Int)) : Nat → Nat
  | 0 => 0
  | k + 1 => totE E k + (E k).length
theorem tot_eqE {S : Nat → Sp} {E : Nat → List (Nat → Int)} : ∀ {N : Nat}, (∀ i, i < N → (S i).es.length = (S i).n) → (∀ i, i < N → (S i).es = E i) → tot S N = totE E N
  | 0, _, _ => rfl
  | N + 1, h, he => by
    simp only [tot, totE]
    rw [tot_eqE (N := N) (fun i hi => h i (by omega)) (fun i hi => he i (by omega)), ← h N (by omega), he N (by omega)]
theorem totE_le {E : Nat → List (Nat → Int)} {S : Nat → Sp} : ∀ {N : Nat}, (∀ i, i < N → (E i).length ≤ (S i).n) → totE E N ≤ tot S N
  | 0, _ => Nat.le_refl _
  | N + 1, h => by
    simp only [tot, totE]
    have := totE_le (N := N) (fun i hi => h i (by omega))
    have := h N (by omega)
    omega
theorem CutR.tot {N : Nat} {S : Nat → Sp} {p : Nat → Int} {E : Nat → List (Nat → Int)} {b : Bool} (hl : ∀ i, i < N → (S i).es.length = (S i).n) (h : CutR N S p E b) : totE E N ≤ tot S N + 1 := by
  refine Nat.le_succ_of_le (totE_le fun m hm => ?_)
  rcases h with ⟨k, i, h0, h1, h2, h3, hk, h4, h5, h6, h7⟩ | ⟨h0, h1, h2⟩
  · rw [h7 m hm]
    by_cases hmk : m = k
    · subst hmk
      rw [if_pos rfl, cutL_len (hl m hm) h4]
      omega
    · rw [if_neg hmk, hl m hm]
      exact Nat.le_refl _
  · rw [h2 m hm, hl m hm]
    exact Nat.le_refl _
/-- In a good wheel all pins are good: so a pin that is not good is not there. -/
theorem not_in {N i : Nat} {S : Nat → Sp} {p : Nat → Int} (hl : ∀ i, i < N → (S i).es.length = (S i).n) (hw : WOK N S) (hp : ¬ pinR p) (hk : (p 0 % 9).toNat < N) (hi : i < (S (p 0 % 9).toNat).n) (hy : isP (S (p 0 % 9).toNat).es p i = true) : False := by
  have htk := tot_one (S := S) hk
  have h1 := (hw.2.2.1 (tot S (p 0 % 9).toNat + i) (by omega)).1
  rw [allS_get hl hk hi] at h1
  simp only [isP, decide_eq_true_eq] at hy
  unfold pinR at h1 hp
  rw [hy.1, hy.2] at h1
  exact hp h1
theorem sam_es {w w' : World} {A A' : Option Addr} {N : Nat} {S S' : Nat → Sp} (h : RdW w A N S) (h' : RdW w' A' N S') (he : ∀ i, i < N → (S i).es = (S' i).es) : Sam N S S' := fun i hi => ⟨by rw [← h.lens i hi, ← h'.lens i hi, he i hi], he i hi⟩
end Go.Proofs.YtjlmcppkafjniaaGreat

namespace Go.Proofs.YtjlmcppkafjniaaGreat
open Go.RowKit

/-- The wheel with the pin put in where it belongs. -/
def insW (S : Nat → Sp) (p : Nat → Int) : Nat → Sp := updS S (p 0 % 9).toNat ⟨none, (S (p 0 % 9).toNat).n + 1, 0, insL (S (p 0 % 9).toNat).es (plcP (S (p 0 % 9).toNat).es p (S (p 0 % 9).toNat).n) p⟩
def PutR (N : Nat) (S : Nat → Sp) (p : Nat → Int) (E : Nat → List (Nat → Int)) (b : Bool) : Prop :=
  (b = true ∧ (WOK N S ∧ 1 ≤ p 0 ∧ WOK N (insW S p)) ∧ ∀ m, m < N → E m = (insW S p m).es) ∨ (b = false ∧ ¬ (WOK N S ∧ 1 ≤ p 0 ∧ WOK N (insW S p)) ∧ ∀ m, m < N → E m = (S m).es)
theorem putR_ex (N : Nat) (S : Nat → Sp) (p : Nat → Int) : ∃ E b, PutR N S p E b := by
  by_cases h : WOK N S ∧ 1 ≤ p 0 ∧ WOK N (insW S p)
  · exact ⟨_, true, .inl ⟨rfl, h, fun _ _ => rfl⟩⟩
  · exact ⟨_, false, .inr ⟨rfl, h, fun _ _ => rfl⟩⟩
theorem PutR.no {N : Nat} {S : Nat → Sp} {p : Nat → Int} {E : Nat → List (Nat → Int)} {b : Bool} (h : PutR N S p E b) (hn : ¬ (WOK N S ∧ 1 ≤ p 0 ∧ WOK N (insW S p))) : b = false ∧ ∀ m, m < N → E m = (S m).es := by
  rcases h with ⟨_, h1, _⟩ | ⟨h1, _, h2⟩
  · exact absurd h1 hn
  · exact ⟨h1, h2⟩
theorem PutR.yes {N : Nat} {S : Nat → Sp} {p : Nat → Int} {E : Nat → List (Nat → Int)} {b : Bool} (h : PutR N S p E b) (hw : WOK N S) (hp : 1 ≤ p 0) (h2 : WOK N (insW S p)) : b = true ∧ ∀ m, m < N → E m = (insW S p m).es := by
  rcases h with ⟨h1, _, h3⟩ | ⟨_, h1, _⟩
  · exact ⟨h1, h3⟩
  · exact absurd ⟨hw, hp, h2⟩ h1
theorem insW_sam {N : Nat} {S S' : Nat → Sp} {p : Nat → Int} (h : Sam N S S') : Sam N (insW S p) (insW S' p) := fun i hi => by
  unfold insW updS
  by_cases hk : i = (p 0 % 9).toNat
  · rw [if_pos hk, if_pos hk]
    subst hk
    exact ⟨by show (S _).n + 1 = (S' _).n + 1; rw [(h _ hi).1], by show insL _ _ _ = insL _ _ _; rw [(h _ hi).1, (h _ hi).2]⟩
  · rw [if_neg hk, if_neg hk]
    exact h i hi
theorem PutR.sam {N : Nat} {S S' : Nat → Sp} {p : Nat → Int} {E : Nat → List (Nat → Int)} {b : Bool} (hs : Sam N S S') (h : PutR N S p E b) : PutR N S' p E b := by
  rcases h with ⟨h0, ⟨h1, h2, h3⟩, h4⟩ | ⟨h0, h1, h2⟩
  · exact .inl ⟨h0, ⟨h1.sam hs, h2, h3.sam (insW_sam hs)⟩, fun m hm => by rw [h4 m hm, (insW_sam (p := p) hs m hm).2]⟩
  · exact .inr ⟨h0, fun ⟨g1, g2, g3⟩ => h1 ⟨g1.sam hs.symm, g2, g3.sam (insW_sam hs.symm)⟩, fun m hm => by rw [h2 m hm, (hs m hm).2]⟩
theorem insW_len {N : Nat} {S : Nat → Sp} {p : Nat → Int} (hl : ∀ i, i < N → (S i).es.length = (S i).n) : ∀ i, i < N → (insW S p i).es.length = (insW S p i).n := fun i hi => by
  unfold insW updS
  by_cases hk : i = (p 0 % 9).toNat
  · rw [if_pos hk]
    subst hk
    exact insL_len (hl _ hi) plcP_le
  · rw [if_neg hk]
    exact hl i hi
theorem insW_tot {S : Nat → Sp} {p : Nat → Int} : ∀ {N : Nat}, tot (insW S p) N = tot S N + (if (p 0 % 9).toNat < N then 1 else 0)
  | 0 => by simp [tot]
  | N + 1 => by
    simp only [tot]
    rw [insW_tot (N := N)]
    unfold insW updS
    by_cases hk : N = (p 0 % 9).toNat
    · rw [if_pos hk, ← hk, if_neg (by omega), if_pos (by omega)]
      show _ + ((S N).n + 1) = _
      omega
    · rw [if_neg hk]
      by_cases h2 : (p 0 % 9).toNat < N
      · rw [if_pos h2, if_pos (by omega)]
        omega
      · rw [if_neg h2, if_neg (by omega)]
        omega
theorem PutR.tot {N : Nat} {S : Nat → Sp} {p : Nat → Int} {E : Nat → List (Nat → Int)} {b : Bool} (hl : ∀ i, i < N → (S i).es.length = (S i).n) (h : PutR N S p E b) : totE E N ≤ tot S N + 1 := by
  rcases h with ⟨h0, _, h4⟩ | ⟨h0, h1, h2⟩
  · have h5 := totE_le (E := E) (S := insW S p) (N := N) fun i hi => by rw [h4 i hi, insW_len hl i hi]; exact Nat.le_refl _
    rw [insW_tot] at h5
    split at h5 <;> omega
  · have h5 := totE_le (E := E) (S := S) (N := N) fun i hi => by rw [h2 i hi, hl i hi]; exact Nat.le_refl _
    omega
theorem fld_ins {es : List (Nat → Int)} {p : Nat → Int} {k n : Nat} (hl : es.length = n) (hk : k ≤ n) : fld (insL es k p) k = p := by
  funext j
  unfold fld insL
  rw [List.getD_eq_getElem?_getD, List.getElem?_append_right (by rw [List.length_take]; omega), List.length_take, Nat.min_eq_left (by omega), Nat.sub_self]
  rfl
/-- A pin that is not good makes the wheel bad. -/
theorem ins_bad {N : Nat} {S : Nat → Sp} {p : Nat → Int} (hl : ∀ i, i < N → (S i).es.length = (S i).n) (hk : (p 0 % 9).toNat < N) (hp : ¬ pinR p) : ¬ WOK N (insW S p) := fun hw => by
  have hn : (insW S p (p 0 % 9).toNat).n = (S (p 0 % 9).toNat).n + 1 := by simp [insW, updS]
  have he : (insW S p (p 0 % 9).toNat).es = insL (S (p 0 % 9).toNat).es (plcP (S (p 0 % 9).toNat).es p (S (p 0 % 9).toNat).n) p := by simp [insW, updS]
  have htk := tot_one (S := insW S p) hk
  have hpl := plcP_le (es := (S (p 0 % 9).toNat).es) (p := p) (n := (S (p 0 % 9).toNat).n)
  have h1 := (hw.2.2.1 (tot (insW S p) (p 0 % 9).toNat + plcP (S (p 0 % 9).toNat).es p (S (p 0 % 9).toNat).n) (by omega)).1
  rw [allS_get (insW_len hl) hk (by omega), he, fld_ins (hl _ hk) hpl] at h1
  exact hp h1
/-- A wheel whose spoke has been changed so holds what it should. -/
theorem upd_sam {N n c : Nat} {S S1 : Nat → Sp} {p : Nat → Int} {A : Option Addr} (hs : Sam N S S1) (hk : (p 0 % 9).toNat < N) (hn : n = (S1 (p 0 % 9).toNat).n + 1) : Sam N (updS S1 (p 0 % 9).toNat ⟨A, n, c, insL (S1 (p 0 % 9).toNat).es (plcP (S1 (p 0 % 9).toNat).es p (S1 (p 0 % 9).toNat).n) p⟩) (insW S p) := fun i hi => by
  unfold insW updS
  by_cases h1 : i = (p 0 % 9).toNat
  · rw [if_pos h1, if_pos h1]
    exact ⟨by show n = (S _).n + 1; rw [(hs _ hk).1, hn], by show insL _ _ _ = insL _ _ _; rw [(hs _ hk).1, (hs _ hk).2]⟩
  · rw [if_neg h1, if_neg h1]
    exact ⟨(hs i hi).1.symm, (hs i hi).2.symm⟩
end Go.Proofs.YtjlmcppkafjniaaGreat

namespace Go.Proofs.YtjlmcppkafjniaaGreat
open Go.RowKit

set_option maxRecDepth 100000 in
set_option maxHeartbeats 4000000 in
theorem l9Copy_any (A : Option Addr) (N c : Nat) (S : Nat → Sp) (w : World) (hN : N ≤ 4194304) (hT : tot S N ≤ 4194304) (h : RdW w A N S) :
    Calls Tryz.prog 99 #[.agg #[.slice A N c]] w fun x w' => ∃ A' c' S', x = .returned (.agg #[.slice A' N c']) ∧ Gat w.heap.size w' (.slice A' N c') N S' ∧ Sam N S S' ∧ Below w.heap.size w w' := by
  obtain ⟨i0, hi0, hz0, hz1, hz2⟩ := info_parts copyPin_info
  obtain ⟨j0, hj0, jz0, jz1, jz2⟩ := info_parts toPinSS_info
  go_enter Tryz.func99, Tryz.ntmps99
  go_wp2
  go_loopw [4] (fun i wr => ∃ k : Nat, k ≤ N ∧ i = .int .i64 k ∧ ∃ v S', wr.cell? ⟨w.heap.size, 0, none⟩ = some (.slice A N c) ∧ Hid (Gat (w.heap.size + 3) wr v k S') ∧ Hid (Sam k S S') ∧ Below w.heap.size w wr ∧ w.heap.size + 3 ≤ wr.heap.size ∧ wr.cell? ⟨w.heap.size + 1 + 1, 0, none⟩ = some v ∧ wr.frozen? ⟨w.heap.size + 1 + 1, 0, none⟩ = false ∧ (wr.cell? ⟨w.heap.size + 1, 0, none⟩).isSome = true ∧ wr.frozen? ⟨w.heap.size + 1, 0, none⟩ = false) (fun i _ => N - (intOf i).toNat)
  case atStart => exact ⟨0, Nat.zero_le _, rfl, .slice none 0 0, S, by (first | (go_keep; done) | (go_simp; done)), Lib.hid (Gat.start _ _ _), Lib.hid (Sam.refl _ _), by (repeat (first | with_reducible exact Below.refl _ _ | with_reducible refine Below.drew ?_ | with_reducible refine below_drewN ?_ _ | (with_reducible refine bel_alloc ?_ ?_ _; (first | omega | (simp; omega) | simp)) | (with_reducible refine bel_set ?_ ?_ _; (first | omega | (simp; omega) | simp)) | (with_reducible refine bel_tr (by assumption) ?_ ?_; (first | omega | (simp; omega) | simp)))), by simp, by (first | (go_keep; done) | (go_simp; done)), by (first | (go_keep; done) | (go_simp; done)), by (first | (go_keep; done) | (go_simp; done)), by (first | (go_keep; done) | (go_simp; done))⟩
  case round =>
    obtain ⟨k, hk, rfl, v, S', e0, HG, HS, hbel, hsz, q0, z0, q1, z1⟩ := hrel
    by_cases hlt : k < N
    · have hr := h.below hbel
      obtain ⟨b, off, rfl⟩ := h.addr (by omega)
      have hb := hr.lt (by omega)
      have c0 := hr.cell hlt
      have HR := Lib.hid (hr.rd k hlt)
      have htk := tot_one (S := S) hlt
      clear h hr
      have c0a := cell_alloc c0
      have q0a := cell_alloc q0
      have e0a := cell_alloc e0
      go_upto_region 5 with fail
      go_region_law (first
        | (refine step_append_rd _ (by rfl) (.tmp 15) (.tmp 20) 85 (by rfl) wr.heap.size 87 i0 _ 2 16 Tryz.underlying85 hi0 hz0 hz1 hz2 (by rfl) (by omega) (.slice (some ⟨wr.heap.size, 0, none⟩) 0 0) 0 [] (by rfl) (World.ownsRow.drew (rowE wr _ 2)) (S k).A (S k).n (S k).c (S k).es (by rfl) (HR.out.below (by (repeat (first | with_reducible exact Below.refl _ _ | with_reducible refine Below.drew ?_ | with_reducible refine below_drewN ?_ _ | (with_reducible refine bel_alloc ?_ ?_ _; (first | omega | (simp; omega) | simp)) | (with_reducible refine bel_set ?_ ?_ _; (first | omega | (simp; omega) | simp)) | (with_reducible refine bel_tr (by assumption) ?_ ?_; (first | omega | (simp; omega) | simp)))))) (by unfold maxLen; omega) (by omega) (by (first | omega | (simp; omega) | simp)) ?_; intro v2 w2 hown2 hg2 hat2; simp only [Nat.zero_add, List.nil_append] at hown2; obtain ⟨A2, c2, hv2, _⟩ := own_of_row HR.out.1 hown2; subst hv2; have b2 : Below wr.heap.size wr w2 := Below.grown (show Below wr.heap.size wr _ from by (repeat (first | with_reducible exact Below.refl _ _ | with_reducible refine Below.drew ?_ | with_reducible refine below_drewN ?_ _ | (with_reducible refine bel_alloc ?_ ?_ _; (first | omega | (simp; omega) | simp)) | (with_reducible refine bel_set ?_ ?_ _; (first | omega | (simp; omega) | simp)) | (with_reducible refine bel_tr (by assumption) ?_ ?_; (first | omega | (simp; omega) | simp))))) hg2 (by (first | omega | (simp; omega) | simp)) (by simp [Value.ownBlock]); have s2 := b2.size; have kc2 : ∀ o, w2.cell? ⟨w.heap.size + 1 + 1, o, none⟩ = _ := (fun o => b2.cell (p := ⟨w.heap.size + 1 + 1, o, none⟩) (by (first | omega | (simp; omega) | simp))); have kf2 : ∀ o, w2.frozen? ⟨w.heap.size + 1 + 1, o, none⟩ = _ := (fun o => b2.frozen (p := ⟨w.heap.size + 1 + 1, o, none⟩) (by (first | omega | (simp; omega) | simp))); have x2 : w2.cell? ⟨w.heap.size + 1 + 1, 0, none⟩ = some v := (kc2 0).trans q0; have kz2 : ¬ w.heap.size + 1 + 1 = w2.heap.size := (by omega); have kx2 : w.heap.size + 1 + 1 < w2.heap.size := (by omega); have x2a : ∀ ob, (w2.alloc ob).cell? ⟨w.heap.size + 1 + 1, 0, none⟩ = some v := fun ob => (World.cell?_of_block (w := w2) (w' := w2.alloc ob) (a := ⟨w.heap.size + 1 + 1, 0, none⟩) (Below.heap_alloc w2 ob (w.heap.size + 1 + 1) kx2)).trans x2)
        | (refine step_append_own _ (by rfl) (.tmp 14) (.tmp 22) 28 (by rfl) (w.heap.size + 3) 85 j0 _ 1 24 Tryz.underlying28 hj0 jz0 jz1 jz2 (by rfl) (by omega) v k ((List.range k).map fun i => (S' i).v) (by rfl) (World.ownsRow.alloc (row_below HG.out.row b2) _) ⟨_, 0, none⟩ 1 1 [.slice A2 (S k).n c2] (by rfl) (by rfl) (one_cell (by first | (go_keep; done) | (go_simp; done))) (row_one hown2) (by unfold maxLen; omega) (by omega) (by (first | omega | (simp; omega) | simp)) ?_; intro v4 w4 hown4 hg4 hat4; obtain ⟨A4, c4, hv4, _⟩ := slice_of_row hown4; subst hv4; have b4 : Below (w.heap.size + 3) wr w4 := Below.grown (show Below (w.heap.size + 3) wr _ from by (repeat (first | with_reducible exact Below.refl _ _ | with_reducible refine Below.drew ?_ | with_reducible refine below_drewN ?_ _ | (with_reducible refine bel_alloc ?_ ?_ _; (first | omega | (simp; omega) | simp)) | (with_reducible refine bel_set ?_ ?_ _; (first | omega | (simp; omega) | simp)) | (with_reducible refine bel_tr (by assumption) ?_ ?_; (first | omega | (simp; omega) | simp))))) hg4 (by (first | omega | (simp; omega) | simp)) (row_ge HG.out.row (Nat.le_refl _)); have s4 := b4.size; have x4 : w4.cell? ⟨w.heap.size + 1 + 1, 0, none⟩ = some v := (b4.cell (p := ⟨w.heap.size + 1 + 1, 0, none⟩) (by (first | omega | (simp; omega) | simp))).trans q0; have y4 : w4.frozen? ⟨w.heap.size + 1 + 1, 0, none⟩ = false := (b4.frozen (p := ⟨w.heap.size + 1 + 1, 0, none⟩) (by (first | omega | (simp; omega) | simp))).trans z0; skip))
      all_goals
        have HG4 := Lib.hid (HG.out.snoc (s := ⟨A2, (S k).n, c2, (S k).es⟩) hsz (show Below wr.heap.size wr _ from by (repeat (first | with_reducible exact Below.refl _ _ | with_reducible refine Below.drew ?_ | with_reducible refine below_drewN ?_ _ | (with_reducible refine bel_alloc ?_ ?_ _; (first | omega | (simp; omega) | simp)) | (with_reducible refine bel_set ?_ ?_ _; (first | omega | (simp; omega) | simp)) | (with_reducible refine bel_tr (by assumption) ?_ ?_; (first | omega | (simp; omega) | simp))))) (World.ownsRow.alloc hown2 _) HR.out.1 hown4 hg4 hat4)
        have HS4 : Hid (Sam (k + 1) S (fun i => if i < k then S' i else ⟨A2, (S k).n, c2, (S k).es⟩)) := Lib.hid fun i hi => by
          by_cases h1 : i < k
          · simp only [if_pos h1]; exact HS.out i h1
          · obtain rfl : i = k := by omega
            simp
        have p0 : w4.cell? ⟨w.heap.size, 0, none⟩ = some (.slice _ N c) := (b4.cell (p := ⟨w.heap.size, 0, none⟩) (by (first | omega | (simp; omega) | simp))).trans e0
        have p1 : (w4.cell? ⟨w.heap.size + 1, 0, none⟩).isSome = true := by rw [b4.cell (p := ⟨w.heap.size + 1, 0, none⟩) (by (first | omega | (simp; omega) | simp))]; exact q1
        have p2 : w4.frozen? ⟨w.heap.size + 1, 0, none⟩ = false := (b4.frozen (p := ⟨w.heap.size + 1, 0, none⟩) (by (first | omega | (simp; omega) | simp))).trans z1
        clear hown2 hg2 hat2 hown4 hg4 hat4 HG HS HR
        go_wp2
        go_roundw
        case rel => exact ⟨k + 1, by omega, by go_num, .slice A4 (k + 1) c4, _, by (first | (go_keep; done) | (go_simp; done)), Lib.hid (HG4.out.set_ (by (first | omega | (simp; omega) | simp)) _), HS4, by (repeat (first | with_reducible exact Below.refl _ _ | with_reducible refine Below.drew ?_ | with_reducible refine below_drewN ?_ _ | (with_reducible refine bel_alloc ?_ ?_ _; (first | omega | (simp; omega) | simp)) | (with_reducible refine bel_set ?_ ?_ _; (first | omega | (simp; omega) | simp)) | (with_reducible refine bel_tr (by assumption) ?_ ?_; (first | omega | (simp; omega) | simp)))), by (first | omega | (simp; omega) | simp), by (first | (go_keep; done) | (go_simp; done)), by (first | (go_keep; done) | (go_simp; done)), by (first | (go_keep; done) | (go_simp; done)), by (first | (go_keep; done) | (go_simp; done))⟩
        case measure => simp [intOf]; omega
    · have hkn : k = N := by omega
      subst hkn
      obtain ⟨A4, c4, hv4, _⟩ := slice_of_row HG.out.row
      subst hv4
      obtain ⟨r1, q1⟩ := Option.isSome_iff_exists.1 q1
      clear h
      go_wp2
      refine bodyPost_ret (v := .agg #[.slice A4 k c4]) (by simp only [results, Tryz.results99]; first | (go_simp; done) | (go_simp; omega)) rfl ⟨A4, c4, S', rfl, (HG.out.set_ (by (first | omega | (simp; omega) | simp)) _).lower (by omega), HS.out, ?_⟩
      (repeat (first | with_reducible exact Below.refl _ _ | with_reducible refine Below.drew ?_ | with_reducible refine below_drewN ?_ _ | (with_reducible refine bel_alloc ?_ ?_ _; (first | omega | (simp; omega) | simp)) | (with_reducible refine bel_set ?_ ?_ _; (first | omega | (simp; omega) | simp)) | (with_reducible refine bel_tr (by assumption) ?_ ?_; (first | omega | (simp; omega) | simp))))

end Go.Proofs.YtjlmcppkafjniaaGreat

namespace Go.Proofs.YtjlmcppkafjniaaGreat
open Go.RowKit

set_option maxRecDepth 100000 in
set_option maxHeartbeats 1000000 in
theorem iWheelNew_any (w : World) :
    Calls Tryz.prog 25 #[] w fun x w' => ∃ A c S, x = .returned (.agg #[.slice A 9 c]) ∧ Gat w.heap.size w' (.slice A 9 c) 9 S ∧ (∀ i, i < 9 → (S i).n = 0 ∧ (S i).es = []) ∧ Below w.heap.size w w' := by
  obtain ⟨j0, hj0, jz0, jz1, jz2⟩ := info_parts toPinSS_info
  have hb0 : j0.bytes * 9 ≤ 281474976710656 := by rw [jz2]; omega
  go_enter Tryz.func25, Tryz.ntmps25
  go_wp2_with (at_make; refine wpList_make_full _ rfl _ _ 28 rfl (w.heap.size + 1) 85 j0 _ 1 Tryz.underlying28 hj0 jz0 jz1 .i64 .i64 _ _ 9 rfl rfl rfl rfl hb0 (by unfold maxLen; omega) (by simp) ?_; intro w1 hown hgr; have b1 : Below w.heap.size w w1 := Below.grown (show Below w.heap.size w _ from by (repeat (first | with_reducible exact Below.refl _ _ | with_reducible refine Below.drew ?_ | with_reducible refine below_drewN ?_ _ | (with_reducible refine bel_alloc ?_ ?_ _; (first | omega | (simp; omega) | simp)) | (with_reducible refine bel_set ?_ ?_ _; (first | omega | (simp; omega) | simp)) | (with_reducible refine bel_tr (by assumption) ?_ ?_; (first | omega | (simp; omega) | simp))))) hgr (by (first | omega | (simp; omega) | simp)) (by simp); have q0 : w1.cell? ⟨w.heap.size, 0, none⟩ = some (.slice none 0 0) := (World.cell?_of_block (hgr.block w.heap.size (by simp) (by simp))).trans (by go_simp); have z0 : w1.frozen? ⟨w.heap.size, 0, none⟩ = false := (World.frozen?_of_block (hgr.block w.heap.size (by simp) (by simp))).trans (by go_simp))
  have HG : Hid (Gat (w.heap.size + 1) w1 (.slice (some ⟨w.heap.size + 1, 0, none⟩) 9 9) 9 (fun _ => ⟨none, 0, 0, []⟩)) := Lib.hid
    ⟨by
      have e : (madeCells (Value.slice none 0 0).cells (9 * 1)).toList = (List.range 9).map (fun _ => (⟨none, 0, 0, []⟩ : Sp).v) := by simp [madeCells, Value.cells, Sp.v, Nat.mod_one]
      rw [← e]
      simpa using hown, fun i hi => ⟨World.ownsRow_nil w1 _ _ 2, rfl⟩, fun i j a b hi hj hij h1 => by simp [Sp.v, Value.ownBlock] at h1, fun i a hi h1 => by simp [Sp.v, Value.ownBlock] at h1⟩
  clear hown hgr
  go_wp2
  refine bodyPost_ret (v := .agg #[.slice (some ⟨w.heap.size + 1, 0, none⟩) 9 9]) (by simp only [results, Tryz.results25]; first | (go_simp; done) | (go_simp; omega)) rfl ⟨_, 9, (fun _ => ⟨none, 0, 0, []⟩), rfl, (HG.out.set_ (by (first | omega | (simp; omega) | simp)) _).lower (by omega), fun i hi => ⟨rfl, rfl⟩, ?_⟩
  (repeat (first | with_reducible exact Below.refl _ _ | with_reducible refine Below.drew ?_ | with_reducible refine below_drewN ?_ _ | (with_reducible refine bel_alloc ?_ ?_ _; (first | omega | (simp; omega) | simp)) | (with_reducible refine bel_set ?_ ?_ _; (first | omega | (simp; omega) | simp)) | (with_reducible refine bel_tr (by assumption) ?_ ?_; (first | omega | (simp; omega) | simp))))

set_option maxRecDepth 100000 in
set_option maxHeartbeats 2000000 in
theorem sWheelNew_any (w : World) :
    Calls Tryz.prog 68 #[] w fun x w' => ∃ A c S, x = .returned (.agg #[.slice A 9 c]) ∧ Gat w.heap.size w' (.slice A 9 c) 9 S ∧ (∀ i, i < 9 → (S i).n = 0 ∧ (S i).es = []) ∧ Below w.heap.size w w' := by
  obtain ⟨j0, hj0, jz0, jz1, jz2⟩ := info_parts toPinSS_info
  go_enter Tryz.func68, Tryz.ntmps68
  go_wp2
  go_loopw [2] (fun i wr => ∃ k : Nat, k ≤ 9 ∧ i = .int .i64 k ∧ ∃ A c S, Hid (Gat (w.heap.size + 2) wr (.slice A k c) k S) ∧ Hid (∀ i, i < k → (S i).n = 0 ∧ (S i).es = []) ∧ Below w.heap.size w wr ∧ w.heap.size + 2 ≤ wr.heap.size ∧ wr.cell? ⟨w.heap.size + 1, 0, none⟩ = some (.slice A k c) ∧ wr.frozen? ⟨w.heap.size + 1, 0, none⟩ = false ∧ (∃ r, wr.cell? ⟨w.heap.size, 0, none⟩ = some r) ∧ wr.frozen? ⟨w.heap.size, 0, none⟩ = false) (fun i _ => 9 - (intOf i).toNat)
  case atStart => exact ⟨0, Nat.zero_le _, rfl, none, 0, (fun _ => ⟨none, 0, 0, []⟩), Lib.hid (Gat.start _ _ _), Lib.hid (fun i hi => absurd hi (by omega)), by (repeat (first | with_reducible exact Below.refl _ _ | with_reducible refine Below.drew ?_ | with_reducible refine below_drewN ?_ _ | (with_reducible refine bel_alloc ?_ ?_ _; (first | omega | (simp; omega) | simp)) | (with_reducible refine bel_set ?_ ?_ _; (first | omega | (simp; omega) | simp)) | (with_reducible refine bel_tr (by assumption) ?_ ?_; (first | omega | (simp; omega) | simp)))), by simp, by (first | (go_keep; done) | (go_simp; done)), by (first | (go_keep; done) | (go_simp; done)), ⟨.slice none 0 0, by (first | (go_keep; done) | (go_simp; done))⟩, by (first | (go_keep; done) | (go_simp; done))⟩
  case round =>
    obtain ⟨k, hk, rfl, A, c, S, HG, HE, hbel, hsz, q0, z0, ⟨r1, q1⟩, z1⟩ := hrel
    by_cases hlt : k < 9
    · have hki : (k : Int) < 9 := by omega
      go_wp2_with (at_builtin; go_must (refine wpList_append_own_at _ rfl _ _ 28 rfl (w.heap.size + 2) 85 j0 _ 1 24 Tryz.underlying28 hj0 jz0 jz1 jz2 rfl (by omega) _ k ((List.range k).map fun i => (S i).v) rfl (World.ownsRow.alloc (World.ownsRow.alloc HG.out.row _) _) ⟨wr.heap.size + 1, 0, none⟩ 1 1 [.slice (some ⟨wr.heap.size, 0, none⟩) 0 0] rfl rfl (one_cell (one_cell2 wr _ _ _)) (by simp [Value.oneCell']) (by unfold maxLen; omega) (by omega) (by (first | omega | (simp; omega) | simp)) ?_); intro v4 w4 hown4 hg4 hnil4 hat4; obtain ⟨A4, c4, hv4, _⟩ := slice_of_row hown4; subst hv4; have b4 : Below (w.heap.size + 2) wr w4 := Below.grown (show Below (w.heap.size + 2) wr _ from by (repeat (first | with_reducible exact Below.refl _ _ | with_reducible refine Below.drew ?_ | with_reducible refine below_drewN ?_ _ | (with_reducible refine bel_alloc ?_ ?_ _; (first | omega | (simp; omega) | simp)) | (with_reducible refine bel_set ?_ ?_ _; (first | omega | (simp; omega) | simp)) | (with_reducible refine bel_tr (by assumption) ?_ ?_; (first | omega | (simp; omega) | simp))))) hg4 (by (first | omega | (simp; omega) | simp)) (row_ge HG.out.row (Nat.le_refl _)); have s4 := b4.size; have x4 : w4.cell? ⟨w.heap.size + 1, 0, none⟩ = some (.slice A k c) := (b4.cell (p := ⟨w.heap.size + 1, 0, none⟩) (by (first | omega | (simp; omega) | simp))).trans q0; have y4 : w4.frozen? ⟨w.heap.size + 1, 0, none⟩ = false := (b4.frozen (p := ⟨w.heap.size + 1, 0, none⟩) (by (first | omega | (simp; omega) | simp))).trans z0)
      have HG4 := Lib.hid (HG.out.snoc (s := ⟨some ⟨wr.heap.size, 0, none⟩, 0, 0, []⟩) hsz (show Below wr.heap.size wr _ from by (repeat (first | with_reducible exact Below.refl _ _ | with_reducible refine Below.drew ?_ | with_reducible refine below_drewN ?_ _ | (with_reducible refine bel_alloc ?_ ?_ _; (first | omega | (simp; omega) | simp)) | (with_reducible refine bel_set ?_ ?_ _; (first | omega | (simp; omega) | simp)) | (with_reducible refine bel_tr (by assumption) ?_ ?_; (first | omega | (simp; omega) | simp))))) (World.ownsRow.alloc (rowE wr _ 2) _) rfl hown4 hg4 hat4)
      have HE4 : Hid (∀ i, i < k + 1 → (if i < k then S i else (⟨some ⟨wr.heap.size, 0, none⟩, 0, 0, []⟩ : Sp)).n = 0 ∧ (if i < k then S i else (⟨some ⟨wr.heap.size, 0, none⟩, 0, 0, []⟩ : Sp)).es = []) := Lib.hid fun i hi => by
        by_cases h1 : i < k
        · simp only [if_pos h1]; exact HE.out i h1
        · simp [h1]
      have p1 : w4.cell? ⟨w.heap.size, 0, none⟩ = some r1 := (b4.cell (p := ⟨w.heap.size, 0, none⟩) (by (first | omega | (simp; omega) | simp))).trans q1
      have p2 : w4.frozen? ⟨w.heap.size, 0, none⟩ = false := (b4.frozen (p := ⟨w.heap.size, 0, none⟩) (by (first | omega | (simp; omega) | simp))).trans z1
      clear hown4 hg4 hat4 hnil4 HG HE
      go_wp2
      go_roundw
      case rel => exact ⟨k + 1, by omega, by go_num, A4, c4, _, Lib.hid (HG4.out.set_ (by (first | omega | (simp; omega) | simp)) _), HE4, by (repeat (first | with_reducible exact Below.refl _ _ | with_reducible refine Below.drew ?_ | with_reducible refine below_drewN ?_ _ | (with_reducible refine bel_alloc ?_ ?_ _; (first | omega | (simp; omega) | simp)) | (with_reducible refine bel_set ?_ ?_ _; (first | omega | (simp; omega) | simp)) | (with_reducible refine bel_tr (by assumption) ?_ ?_; (first | omega | (simp; omega) | simp)))), by (first | omega | (simp; omega) | simp), by (first | (go_keep; done) | (go_simp; done)), by (first | (go_keep; done) | (go_simp; done)), ⟨r1, by (first | (go_keep; done) | (go_simp; done))⟩, by (first | (go_keep; done) | (go_simp; done))⟩
      case measure => simp [intOf]; omega
    · have hkn : k = 9 := by omega
      subst hkn
      go_wp2
      refine bodyPost_ret (v := .agg #[.slice A 9 c]) (by simp only [results, Tryz.results68]; first | (go_simp; done) | (go_simp; omega)) rfl ⟨A, c, S, rfl, (HG.out.set_ (by (first | omega | (simp; omega) | simp)) _).lower (by omega), HE.out, ?_⟩
      (repeat (first | with_reducible exact Below.refl _ _ | with_reducible refine Below.drew ?_ | with_reducible refine below_drewN ?_ _ | (with_reducible refine bel_alloc ?_ ?_ _; (first | omega | (simp; omega) | simp)) | (with_reducible refine bel_set ?_ ?_ _; (first | omega | (simp; omega) | simp)) | (with_reducible refine bel_tr (by assumption) ?_ ?_; (first | omega | (simp; omega) | simp))))
end Go.Proofs.YtjlmcppkafjniaaGreat

namespace Go.Proofs.YtjlmcppkafjniaaGreat
open Go.RowKit
open Classical in
/-- One pin put into a wheel of these spokes: the new spokes, if it goes. -/
noncomputable def stepP (C : Nat → List (Nat → Int)) (p : Nat → Int) : Option (Nat → List (Nat → Int)) :=
  if WOK 9 (fun i => ⟨none, (C i).length, 0, C i⟩) ∧ 1 ≤ p 0 ∧ WOK 9 (insW (fun i => ⟨none, (C i).length, 0, C i⟩) p) then some (fun m => (insW (fun i => ⟨none, (C i).length, 0, C i⟩) p m).es) else none
/-- The first k pins put in. -/
noncomputable def foldP (es : List (Nat → Int)) : Nat → Option (Nat → List (Nat → Int))
  | 0 => some (fun _ => [])
  | k + 1 => (foldP es k).bind fun C => stepP C (fld es k)
theorem foldP_none {es : List (Nat → Int)} {k : Nat} (h : foldP es k = none) : ∀ m, k ≤ m → foldP es m = none
  | 0, hm => by
    obtain rfl : k = 0 := by omega
    exact h
  | m + 1, hm => by
    by_cases hk : k = m + 1
    · rw [← hk]; exact h
    · simp only [foldP]
      rw [foldP_none h m (by omega)]
      rfl
theorem stepP_putR {C : Nat → List (Nat → Int)} {p : Nat → Int} {S : Nat → Sp} (hl : ∀ i, i < 9 → (S i).es.length = (S i).n) (hC : ∀ i, i < 9 → (S i).es = C i) :
    (∃ C', stepP C p = some C' ∧ PutR 9 S p C' true) ∨ (stepP C p = none ∧ PutR 9 S p C false) := by
  have hs : Sam 9 (fun i => ⟨none, (C i).length, 0, C i⟩) S := fun i hi => ⟨by show (C i).length = _; rw [← hC i hi, hl i hi], (hC i hi).symm⟩
  by_cases h : WOK 9 (fun i => ⟨none, (C i).length, 0, C i⟩) ∧ 1 ≤ p 0 ∧ WOK 9 (insW (fun i => ⟨none, (C i).length, 0, C i⟩) p)
  · refine .inl ⟨_, if_pos h, PutR.sam hs (.inl ⟨rfl, h, fun m hm => rfl⟩)⟩
  · exact .inr ⟨if_neg h, PutR.sam hs (.inr ⟨rfl, h, fun m hm => rfl⟩)⟩
def WofR (es : List (Nat → Int)) (n N : Nat) (E : Nat → List (Nat → Int)) (b : Bool) : Prop :=
  (b = true ∧ N = 9 ∧ ∃ C, foldP es n = some C ∧ ∀ m, m < 9 → E m = C m) ∨ (b = false ∧ N = 0 ∧ foldP es n = none)
theorem wofR_ex (es : List (Nat → Int)) (n : Nat) : ∃ N E b, WofR es n N E b := by
  rcases h : foldP es n with _ | C
  · exact ⟨0, fun _ => [], false, .inr ⟨rfl, rfl, h⟩⟩
  · exact ⟨9, C, true, .inl ⟨rfl, rfl, C, h, fun _ _ => rfl⟩⟩
theorem WofR.no {es : List (Nat → Int)} {n N k : Nat} {E : Nat → List (Nat → Int)} {b : Bool} (h : WofR es n N E b) (hk : k ≤ n) (h0 : foldP es k = none) : b = false ∧ N = 0 := by
  have h1 := foldP_none h0 n hk
  rcases h with ⟨_, _, C, h2, _⟩ | ⟨h2, h3, _⟩
  · rw [h1] at h2; cases h2
  · exact ⟨h2, h3⟩
theorem WofR.yes {es : List (Nat → Int)} {n N : Nat} {C E : Nat → List (Nat → Int)} {b : Bool} (h : WofR es n N E b) (h0 : foldP es n = some C) : b = true ∧ N = 9 ∧ ∀ m, m < 9 → E m = C m := by
  rcases h with ⟨h1, h2, C', h3, h4⟩ | ⟨_, _, h3⟩
  · rw [h0] at h3
    injection h3 with h3
    subst h3
    exact ⟨h1, h2, h4⟩
  · rw [h0] at h3; cases h3
/-- Behind a put that went the wheel holds ten pins at most. -/
theorem put_ten {S S' : Nat → Sp} {p : Nat → Int} {E : Nat → List (Nat → Int)} (h : PutR 9 S p E true) (hl : ∀ i, i < 9 → (S i).es.length = (S i).n) (hl' : ∀ i, i < 9 → (S' i).es.length = (S' i).n) (he : ∀ i, i < 9 → (S' i).es = E i) : tot S' 9 ≤ 10 := by
  rcases h with ⟨_, ⟨_, _, h3⟩, h4⟩ | ⟨h0, _⟩
  · have hs : Sam 9 S' (insW S p) := fun i hi => ⟨by rw [← hl' i hi, ← insW_len (p := p) hl i hi, he i hi, h4 i hi], by rw [he i hi, h4 i hi]⟩
    rw [hs.tot (Nat.le_refl _)]
    exact h3.2.1
  · cases h0
theorem tot_zero {S : Nat → Sp} : ∀ {N : Nat}, (∀ i, i < N → (S i).n = 0) → tot S N = 0
  | 0, _ => rfl
  | N + 1, h => by simp only [tot]; rw [tot_zero (fun i hi => h i (by omega)), h N (by omega)]
theorem ownW_zero (lo hi : Nat) (w : World) (S : Nat → Sp) (h : hi ≤ w.heap.size) : OwnW lo hi w none 0 S :=
  ⟨⟨.inl rfl, fun i hi => absurd hi (by omega), fun i hi => absurd hi (by omega)⟩, h, .inl rfl, fun h0 => absurd rfl h0, fun i hi => absurd hi (by omega), fun i hi => absurd hi (by omega), fun i j hi => absurd hi (by omega), fun i hi => absurd hi (by omega)⟩
end Go.Proofs.YtjlmcppkafjniaaGreat
