/-
  The first element of which something holds; a list without it.
-/
import Derived.Test.YtjlmcppkafjniaaGreatSl
import Derived.Test.YtjlmcppkafjniaaGreatW2
import Derived.Test.YtjlmcppkafjniaaGreatMk
import Derived.BigQuiet
namespace Go.Proofs.YtjlmcppkafjniaaGreat
open Go.RowKit

def cmpI (a b : Int) : Int := if a < b then -1 else if b < a then 1 else 0
def cmpP (a b : Nat → Int) : Int := if cmpI (a 0) (b 0) = 0 then cmpI (a 1) (b 1) else cmpI (a 0) (b 0)
/-- The order of pins: by time, then by number. -/
def ltP (a b : Nat → Int) : Prop := a 0 < b 0 ∨ (a 0 = b 0 ∧ a 1 < b 1)
instance (a b : Nat → Int) : Decidable (ltP a b) := by unfold ltP; infer_instance
theorem cmpI_cases (a b : Int) : (a < b ∧ cmpI a b = -1) ∨ (a = b ∧ cmpI a b = 0) ∨ (b < a ∧ cmpI a b = 1) := by
  unfold cmpI
  split
  · exact .inl ⟨by assumption, rfl⟩
  · split
    · exact .inr (.inr ⟨by assumption, rfl⟩)
    · exact .inr (.inl ⟨by omega, rfl⟩)
theorem cmpP_neg {a b : Nat → Int} : cmpP a b < 0 ↔ ltP a b := by
  unfold cmpP ltP
  rcases cmpI_cases (a 0) (b 0) with ⟨h, e⟩ | ⟨h, e⟩ | ⟨h, e⟩ <;> rcases cmpI_cases (a 1) (b 1) with ⟨h2, e2⟩ | ⟨h2, e2⟩ | ⟨h2, e2⟩ <;> rw [e] <;> simp [e2] <;> omega
theorem cmpP_pos {a b : Nat → Int} : 0 < cmpP a b ↔ ltP b a := by
  unfold cmpP ltP
  rcases cmpI_cases (a 0) (b 0) with ⟨h, e⟩ | ⟨h, e⟩ | ⟨h, e⟩ <;> rcases cmpI_cases (a 1) (b 1) with ⟨h2, e2⟩ | ⟨h2, e2⟩ | ⟨h2, e2⟩ <;> rw [e] <;> simp [e2] <;> omega

/-- Elements j and j - 1 change places. -/
def swp (es : List (Nat → Int)) (j : Nat) : List (Nat → Int) := (es.set j (fld es (j - 1))).set (j - 1) (fld es j)
theorem swp_len (es : List (Nat → Int)) (j : Nat) : (swp es j).length = es.length := by simp [swp]
theorem fld_get {es : List (Nat → Int)} {i : Nat} (h : i < es.length) : fld es i = es[i] := by
  funext j
  simp [fld, List.getD_eq_getElem?_getD, List.getElem?_eq_getElem h]
theorem swp_perm {es : List (Nat → Int)} {j : Nat} (h0 : 0 < j) (h : j < es.length) : (swp es j).Perm es := by
  have h1 := @List.set_set_perm _ es j (j - 1) h (by omega)
  unfold swp
  rw [fld_get h, fld_get (show j - 1 < es.length by omega)]
  exact h1
theorem fld_set_same {es : List (Nat → Int)} {i : Nat} {x : Nat → Int} (h : i < es.length) : fld (es.set i x) i = x := by
  funext j
  simp [fld, List.getD_eq_getElem?_getD, h]
theorem fld_set_other {es : List (Nat → Int)} {i k : Nat} {x : Nat → Int} (h : k ≠ i) : fld (es.set i x) k = fld es k := by
  funext j
  simp [fld, List.getD_eq_getElem?_getD, Ne.symm h]
theorem swp_at {es : List (Nat → Int)} {j : Nat} (h0 : 0 < j) (h : j < es.length) : fld (swp es j) j = fld es (j - 1) := by
  unfold swp
  rw [fld_set_other (by omega), fld_set_same h]
theorem swp_pred {es : List (Nat → Int)} {j : Nat} (h : j < es.length) : fld (swp es j) (j - 1) = fld es j := by
  unfold swp
  rw [fld_set_same (by simp; omega)]
theorem swp_other {es : List (Nat → Int)} {j k : Nat} (h1 : k ≠ j) (h2 : k ≠ j - 1) : fld (swp es j) k = fld es k := by
  unfold swp
  rw [fld_set_other h2, fld_set_other h1]
theorem ltP_asymm {a b : Nat → Int} (h : ltP a b) : ¬ ltP b a := fun h2 => by unfold ltP at h h2; omega
theorem ltP_trans_not {a b c : Nat → Int} (h1 : ¬ ltP b a) (h2 : ¬ ltP c b) : ¬ ltP c a := fun h => by unfold ltP at h h1 h2; omega

/-- The first i elements stand in order. -/
def Srt (es : List (Nat → Int)) (i : Nat) : Prop := ∀ q, q + 1 < i → ¬ ltP (fld es (q + 1)) (fld es q)
/-- The first i + 1 elements stand in order but for element j, which may belong further ahead. -/
def Mid (es : List (Nat → Int)) (i j : Nat) : Prop := (∀ q, q + 1 < i + 1 → q + 1 ≠ j → ¬ ltP (fld es (q + 1)) (fld es q)) ∧ (0 < j → j < i → ¬ ltP (fld es (j + 1)) (fld es (j - 1)))
theorem Mid.start {es : List (Nat → Int)} {i : Nat} (h : Srt es i) : Mid es i i := ⟨fun q h1 h2 => h q (by omega), fun _ h => absurd h (by omega)⟩
theorem Mid.stop {es : List (Nat → Int)} {i j : Nat} (h : Mid es i j) (h2 : j = 0 ∨ ¬ ltP (fld es j) (fld es (j - 1))) : Srt es (i + 1) := fun q hq => by
  by_cases h3 : q + 1 = j
  · rcases h2 with h2 | h2
    · omega
    · rw [← h3] at h2
      exact h2
  · exact h.1 q hq h3
theorem Mid.step {es : List (Nat → Int)} {i j : Nat} (h : Mid es i j) (h0 : 0 < j) (hj : j ≤ i) (hi : i < es.length) (hl : ltP (fld es j) (fld es (j - 1))) : Mid (swp es j) i (j - 1) := by
  have hjl : j < es.length := by omega
  refine ⟨fun q hq hne => ?_, fun h1 h2 => ?_⟩
  · by_cases h3 : q + 1 = j
    · rw [h3, swp_at h0 hjl, show q = j - 1 by omega, swp_pred hjl]
      exact ltP_asymm hl
    · by_cases h4 : q = j
      · rw [h4, swp_at h0 hjl, swp_other (by omega) (by omega)]
        exact h.2 h0 (by omega)
      · rw [swp_other (k := q + 1) h3 hne, swp_other (k := q) h4 (by omega)]
        exact h.1 q hq h3
  · rw [show j - 1 + 1 = j by omega, swp_at h0 hjl, swp_other (k := j - 1 - 1) (by omega) (by omega)]
    have h5 := h.1 (j - 1 - 1) (by omega) (by omega)
    rw [show j - 1 - 1 + 1 = j - 1 by omega] at h5
    exact h5
theorem Srt.pair {es : List (Nat → Int)} (h : Srt es es.length) : ∀ a b, a < b → b < es.length → ¬ ltP (fld es b) (fld es a)
  | a, 0, hab, _ => absurd hab (by omega)
  | a, b + 1, hab, hb => by
    rcases Nat.lt_or_ge a b with h1 | h1
    · exact ltP_trans_not (Srt.pair h a b h1 (by omega)) (h b hb)
    · obtain rfl : a = b := by omega
      exact h a hb
/-- Two lists in order, of the same pins, no two of which have one number, are one. -/
theorem srt_uniq {e1 e2 : List (Nat → Int)} (h1 : Srt e1 e1.length) (h2 : Srt e2 e2.length) (hp : e1.Perm e2) (hn : (e1.map fun e => e 1).Nodup) : e1 = e2 := by
  have hne : ∀ a b : Nat → Int, a ∈ e1 → b ∈ e1 → a 1 = b 1 → a = b := fun a b ha hb hab => by
    obtain ⟨i, hi, rfl⟩ := List.mem_iff_getElem.1 ha
    obtain ⟨j, hj, rfl⟩ := List.mem_iff_getElem.1 hb
    unfold List.Nodup at hn
    rw [List.pairwise_iff_getElem] at hn
    rcases Nat.lt_trichotomy i j with h | h | h
    · have := hn i j (by simpa using hi) (by simpa using hj) h
      simp at this
      exact absurd hab this
    · subst h; rfl
    · have := hn j i (by simpa using hj) (by simpa using hi) h
      simp at this
      exact absurd hab.symm this
  have pw : ∀ e : List (Nat → Int), Srt e e.length → e.Pairwise (fun a b => ¬ ltP b a) := fun e h => by
    rw [List.pairwise_iff_getElem]
    intro i j hi hj hij
    have := Srt.pair h i j hij hj
    rw [fld_get hi, fld_get hj] at this
    exact this
  refine List.Perm.eq_of_pairwise (le := fun a b => ¬ ltP b a) (fun a b ha hb hab hba => ?_) (pw e1 h1) (pw e2 h2) hp
  exact hne a b ha (hp.mem_iff.2 hb) (by unfold ltP at hab hba; omega)
end Go.Proofs.YtjlmcppkafjniaaGreat

namespace Go.Proofs.YtjlmcppkafjniaaGreat
open Go.RowKit

def pinR (e : Nat → Int) : Prop := (1 ≤ e 0 ∧ e 0 ≤ 1000008) ∧ (1 ≤ e 1 ∧ e 1 ≤ 999)
set_option maxHeartbeats 1000000 in
theorem cmpInt_any (a b : Int) (w : World) :
    Calls Tryz.prog 104 #[.int .i64 a, .int .i64 b] w fun e w' => e = .returned (.int .i64 (cmpI a b)) ∧ w = w' := by
  rcases cmpI_cases a b with ⟨h, e⟩ | ⟨h, e⟩ | ⟨h, e⟩
  · rw [e]
    have h2 : ¬ b < a := by omega
    have h3 : ¬ a = b := by omega
    clear e
    go_enter Tryz.func104, Tryz.ntmps104
    go_wp2
    go_ret
    exact ⟨rfl, rfl⟩
  · rw [e]
    subst h
    have h2 : ¬ a < a := by omega
    clear e
    go_enter Tryz.func104, Tryz.ntmps104
    go_wp2
    go_ret
    exact ⟨rfl, rfl⟩
  · rw [e]
    have h2 : ¬ a < b := by omega
    have h3 : ¬ a = b := by omega
    clear e
    go_enter Tryz.func104, Tryz.ntmps104
    go_wp2
    go_ret
    exact ⟨rfl, rfl⟩

set_option maxHeartbeats 1000000 in
theorem comparePins_any (a b : Nat → Int) (w : World) :
    Calls Tryz.prog 81 #[.agg #[.int .i64 (a 0), .int .i64 (a 1)], .agg #[.int .i64 (b 0), .int .i64 (b 1)]] w fun e w' => e = .returned (.int .i64 (cmpP a b)) ∧ Below w.heap.size w w' := by
  by_cases h : cmpI (a 0) (b 0) = 0
  · rw [show cmpP a b = cmpI (a 1) (b 1) from if_pos h]
    go_enter Tryz.func81, Tryz.ntmps81
    go_wp2_with (go_at_call 104; refine (cmpInt_any _ _ _).mono ?_; rintro y w9 ⟨rfl, rfl⟩)
    go_ret
    exact ⟨rfl, by (repeat (first | with_reducible exact Below.refl _ _ | with_reducible refine Below.drew ?_ | with_reducible refine below_drewN ?_ _ | (with_reducible refine bel_alloc ?_ ?_ _; (first | omega | (simp; omega) | simp)) | (with_reducible refine bel_set ?_ ?_ _; (first | omega | (simp; omega) | simp)) | (with_reducible refine bel_tr (by assumption) ?_ ?_; (first | omega | (simp; omega) | simp))))⟩
  · rw [show cmpP a b = cmpI (a 0) (b 0) from if_neg h]
    go_enter Tryz.func81, Tryz.ntmps81
    go_wp2_with (go_at_call 104; refine (cmpInt_any _ _ _).mono ?_; rintro y w9 ⟨rfl, rfl⟩)
    go_ret
    exact ⟨rfl, by (repeat (first | with_reducible exact Below.refl _ _ | with_reducible refine Below.drew ?_ | with_reducible refine below_drewN ?_ _ | (with_reducible refine bel_alloc ?_ ?_ _; (first | omega | (simp; omega) | simp)) | (with_reducible refine bel_set ?_ ?_ _; (first | omega | (simp; omega) | simp)) | (with_reducible refine bel_tr (by assumption) ?_ ?_; (first | omega | (simp; omega) | simp))))⟩

set_option maxHeartbeats 1000000 in
theorem l9Less_any (a b : Nat → Int) (w : World) :
    Calls Tryz.prog 114 #[.agg #[.int .i64 (a 0), .int .i64 (a 1)], .agg #[.int .i64 (b 0), .int .i64 (b 1)]] w (TFB (ltP a b) w) := by
  by_cases h1 : a 0 < b 0
  · have HL : Hid (ltP a b) := .inl h1
    go_enter Tryz.func114, Tryz.ntmps114
    go_wp2
    go_ret
    exact .inl ⟨rfl, HL.out, by (repeat (first | with_reducible exact Below.refl _ _ | with_reducible refine Below.drew ?_ | with_reducible refine below_drewN ?_ _ | (with_reducible refine bel_alloc ?_ ?_ _; (first | omega | (simp; omega) | simp)) | (with_reducible refine bel_set ?_ ?_ _; (first | omega | (simp; omega) | simp)) | (with_reducible refine bel_tr (by assumption) ?_ ?_; (first | omega | (simp; omega) | simp))))⟩
  · by_cases h2 : a 0 = b 0
    · by_cases h3 : a 1 < b 1
      · have HL : Hid (ltP a b) := .inr ⟨h2, h3⟩
        go_enter Tryz.func114, Tryz.ntmps114
        go_wp2
        go_ret
        exact .inl ⟨by first | rfl | simp [h3], HL.out, by (repeat (first | with_reducible exact Below.refl _ _ | with_reducible refine Below.drew ?_ | with_reducible refine below_drewN ?_ _ | (with_reducible refine bel_alloc ?_ ?_ _; (first | omega | (simp; omega) | simp)) | (with_reducible refine bel_set ?_ ?_ _; (first | omega | (simp; omega) | simp)) | (with_reducible refine bel_tr (by assumption) ?_ ?_; (first | omega | (simp; omega) | simp))))⟩
      · have HL : Hid (¬ ltP a b) := fun h => by unfold ltP at h; omega
        go_enter Tryz.func114, Tryz.ntmps114
        go_wp2
        go_ret
        exact .inr ⟨by first | rfl | (simp; omega), HL.out, by (repeat (first | with_reducible exact Below.refl _ _ | with_reducible refine Below.drew ?_ | with_reducible refine below_drewN ?_ _ | (with_reducible refine bel_alloc ?_ ?_ _; (first | omega | (simp; omega) | simp)) | (with_reducible refine bel_set ?_ ?_ _; (first | omega | (simp; omega) | simp)) | (with_reducible refine bel_tr (by assumption) ?_ ?_; (first | omega | (simp; omega) | simp))))⟩
    · have HL : Hid (¬ ltP a b) := fun h => by unfold ltP at h; omega
      go_enter Tryz.func114, Tryz.ntmps114
      go_wp2
      go_ret
      exact .inr ⟨rfl, HL.out, by (repeat (first | with_reducible exact Below.refl _ _ | with_reducible refine Below.drew ?_ | with_reducible refine below_drewN ?_ _ | (with_reducible refine bel_alloc ?_ ?_ _; (first | omega | (simp; omega) | simp)) | (with_reducible refine bel_set ?_ ?_ _; (first | omega | (simp; omega) | simp)) | (with_reducible refine bel_tr (by assumption) ?_ ?_; (first | omega | (simp; omega) | simp))))⟩

set_option maxHeartbeats 1000000 in
theorem pinOk_any (e : Nat → Int) (w : World) :
    Calls Tryz.prog 80 #[.agg #[.int .i64 (e 0), .int .i64 (e 1)]] w (TFB (pinR e) w) := by
  unfold pinR
  go_enter Tryz.func80, Tryz.ntmps80
  by_cases h1 : 1 ≤ e 0 ∧ e 0 ≤ 1000008
  · by_cases h2 : 1 ≤ e 1 ∧ e 1 ≤ 999
    · go_wp2_with (go_at_call 76; first | (refine (sy (within_any _ _ _ _) (by assumption)).mono ?_; rintro y w9 ⟨rfl, rfl⟩))
      go_ret
      exact .inl ⟨rfl, ⟨h1, h2⟩, by (repeat (first | with_reducible exact Below.refl _ _ | with_reducible refine Below.drew ?_ | with_reducible refine below_drewN ?_ _ | (with_reducible refine bel_alloc ?_ ?_ _; (first | omega | (simp; omega) | simp)) | (with_reducible refine bel_set ?_ ?_ _; (first | omega | (simp; omega) | simp)) | (with_reducible refine bel_tr (by assumption) ?_ ?_; (first | omega | (simp; omega) | simp))))⟩
    · go_wp2_with (go_at_call 76; first | (refine (sy (within_any _ _ _ _) (by assumption)).mono ?_; rintro y w9 ⟨rfl, rfl⟩) | (refine (sn (within_any _ _ _ _) (by assumption)).mono ?_; rintro y w9 ⟨rfl, rfl⟩))
      go_ret
      exact .inr ⟨rfl, fun h => h2 h.2, by (repeat (first | with_reducible exact Below.refl _ _ | with_reducible refine Below.drew ?_ | with_reducible refine below_drewN ?_ _ | (with_reducible refine bel_alloc ?_ ?_ _; (first | omega | (simp; omega) | simp)) | (with_reducible refine bel_set ?_ ?_ _; (first | omega | (simp; omega) | simp)) | (with_reducible refine bel_tr (by assumption) ?_ ?_; (first | omega | (simp; omega) | simp))))⟩
  · go_wp2_with (go_at_call 76; first | (refine (sn (within_any _ _ _ _) (by assumption)).mono ?_; rintro y w9 ⟨rfl, rfl⟩))
    go_ret
    exact .inr ⟨rfl, fun h => h1 h.1, by (repeat (first | with_reducible exact Below.refl _ _ | with_reducible refine Below.drew ?_ | with_reducible refine below_drewN ?_ _ | (with_reducible refine bel_alloc ?_ ?_ _; (first | omega | (simp; omega) | simp)) | (with_reducible refine bel_set ?_ ?_ _; (first | omega | (simp; omega) | simp)) | (with_reducible refine bel_tr (by assumption) ?_ ?_; (first | omega | (simp; omega) | simp))))⟩
end Go.Proofs.YtjlmcppkafjniaaGreat

namespace Go.Proofs.YtjlmcppkafjniaaGreat
open Go.RowKit

/-- The pins of the first k spokes, one behind the other. -/
def allS (S : Nat → Sp) : Nat → List (Nat → Int)
  | 0 => []
  | k + 1 => allS S k ++ (S k).es
theorem allS_len {S : Nat → Sp} : ∀ {N : Nat}, (∀ i, i < N → (S i).es.length = (S i).n) → (allS S N).length = tot S N
  | 0, _ => rfl
  | N + 1, h => by
    simp only [allS, tot, List.length_append]
    rw [allS_len fun i hi => h i (by omega), h N (by omega)]
theorem fld_append_left {es es2 : List (Nat → Int)} {i : Nat} (h : i < es.length) : fld (es ++ es2) i = fld es i := by
  funext j
  unfold fld
  rw [List.getD_eq_getElem?_getD, List.getD_eq_getElem?_getD, List.getElem?_append_left h]
theorem fld_append_right {es es2 : List (Nat → Int)} {i : Nat} : fld (es ++ es2) (es.length + i) = fld es2 i := by
  funext j
  unfold fld
  rw [List.getD_eq_getElem?_getD, List.getD_eq_getElem?_getD, List.getElem?_append_right (by omega), Nat.add_sub_cancel_left]
theorem allS_get {S : Nat → Sp} : ∀ {N k i : Nat}, (∀ i, i < N → (S i).es.length = (S i).n) → k < N → i < (S k).n → fld (allS S N) (tot S k + i) = fld (S k).es i
  | 0, k, i, _, hk, _ => absurd hk (by omega)
  | N + 1, k, i, h, hk, hi => by
    have hl : (allS S N).length = tot S N := allS_len fun i hi => h i (by omega)
    simp only [allS]
    by_cases hkn : k < N
    · have := tot_one (S := S) hkn
      rw [fld_append_left (by omega)]
      exact allS_get (fun i hi => h i (by omega)) hkn hi
    · obtain rfl : k = N := by omega
      rw [← hl]
      exact fld_append_right
theorem tot_find {S : Nat → Sp} : ∀ {N j : Nat}, j < tot S N → ∃ k i, k < N ∧ i < (S k).n ∧ j = tot S k + i
  | 0, j, h => absurd h (by simp [tot])
  | N + 1, j, h => by
    by_cases hj : j < tot S N
    · obtain ⟨k, i, h1, h2, h3⟩ := tot_find hj
      exact ⟨k, i, by omega, h2, h3⟩
    · simp only [tot] at h
      exact ⟨N, j - tot S N, by omega, by omega, by omega⟩
theorem RdW.lens {w : World} {A : Option Addr} {N : Nat} {S : Nat → Sp} (h : RdW w A N S) : ∀ i, i < N → (S i).es.length = (S i).n := fun i hi => (h.rd i hi).1
theorem allS_sam {N : Nat} {S S' : Nat → Sp} (h : Sam N S S') : ∀ {k : Nat}, k ≤ N → allS S k = allS S' k
  | 0, _ => rfl
  | k + 1, hk => by
    simp only [allS]
    rw [allS_sam h (k := k) (by omega), (h k (by omega)).2]

/-- Pin i of spoke k stands where it belongs, behind the one ahead of it. -/
def stepW (S : Nat → Sp) (k i : Nat) : Prop := fld (S k).es i 0 % 9 = k ∧ (0 < i → ltP (fld (S k).es (i - 1)) (fld (S k).es i))
def stepL (L : List (Nat → Int)) (i : Nat) : Prop := pinR (fld L i) ∧ ∀ j, j < i → fld L j 1 ≠ fld L i 1
def WOK (N : Nat) (S : Nat → Sp) : Prop := N = 9 ∧ tot S N ≤ 10 ∧ (∀ i, i < tot S N → stepL (allS S N) i) ∧ ∀ k, k < N → ∀ i, i < (S k).n → stepW S k i
theorem WOK.sam {N : Nat} {S S' : Nat → Sp} (h : Sam N S S') (hw : WOK N S) : WOK N S' := by
  obtain ⟨h1, h2, h3, h4⟩ := hw
  have ht := h.tot (Nat.le_refl N)
  have ha := allS_sam h (Nat.le_refl N)
  refine ⟨h1, by omega, by rw [← ht, ← ha]; exact h3, fun k hk i hi => ?_⟩
  have h5 := h4 k hk i (by rw [(h k hk).1]; exact hi)
  unfold stepW at h5 ⊢
  rw [(h k hk).2] at h5
  exact h5

set_option maxRecDepth 100000 in
set_option maxHeartbeats 2000000 in
theorem l9All_any (A : Option Addr) (N c : Nat) (S : Nat → Sp) (w : World) (hN : N ≤ 4194304) (hT : tot S N ≤ 4194304) (h : RdW w A N S) :
    Calls Tryz.prog 93 #[.agg #[.slice A N c]] w fun x w' => ∃ v, x = .returned v ∧ w'.ownsRow w.heap.size 87 2 v (tot S N) (flat 2 (allS S N)) ∧ Below w.heap.size w w' := by
  obtain ⟨i0, hi0, hz0, hz1, hz2⟩ := info_parts copyPin_info
  have r0 : Hid (((w.alloc (.cells #[.slice A N c] 30)).alloc (.cells #[] 87)).ownsRow w.heap.size 87 2 (.slice (some ⟨w.heap.size + 1, 0, none⟩) 0 0) 0 (flat 2 [])) := Lib.hid (by
    have h := rowE (w.alloc (.cells #[.slice A N c] 30)) 87 2
    have e : (w.alloc (.cells #[.slice A N c] 30)).heap.size = w.heap.size + 1 := by simp
    rw [e] at h
    exact h.lower (by omega))
  go_enter Tryz.func93, Tryz.ntmps93
  go_wp2
  go_loopw [3, 4] (fun v i wr => ∃ k : Nat, k ≤ N ∧ i = .int .i64 k ∧ Hid (wr.ownsRow w.heap.size 87 2 v (tot S k) (flat 2 (allS S k))) ∧ Below w.heap.size w wr ∧ w.heap.size + 1 ≤ wr.heap.size ∧ wr.cell? ⟨w.heap.size, 0, none⟩ = some (.slice A N c) ∧ ∀ a, v.ownBlock = some a → w.heap.size + 1 ≤ a) (fun _ i _ => N - (intOf i).toNat)
  case atStart => exact ⟨0, Nat.zero_le _, rfl, r0, by (repeat (first | with_reducible exact Below.refl _ _ | with_reducible refine Below.drew ?_ | with_reducible refine below_drewN ?_ _ | (with_reducible refine bel_alloc ?_ ?_ _; (first | omega | (simp; omega) | simp)) | (with_reducible refine bel_set ?_ ?_ _; (first | omega | (simp; omega) | simp)) | (with_reducible refine bel_tr (by assumption) ?_ ?_; (first | omega | (simp; omega) | simp)))), by (first | omega | (simp; omega) | simp), by (first | (go_keep; done) | (go_simp; done)), by simp [Value.ownBlock]⟩
  case round =>
    obtain ⟨k, hk, rfl, HR, hbel, hsz, q0, hob⟩ := hrel
    clear r0
    by_cases hlt : k < N
    · have hr := h.below hbel
      obtain ⟨b, off, rfl⟩ := h.addr (by omega)
      have hb := hr.lt (by omega)
      have c0 := hr.cell hlt
      have HX := Lib.hid (hr.rd k hlt)
      have htk := tot_one (S := S) hlt
      clear h hr
      go_wp2_with (at_builtin; go_must (refine wpList_append_rd _ rfl _ _ 85 rfl w.heap.size 87 i0 _ 2 16 Tryz.underlying85 hi0 hz0 hz1 hz2 rfl (by omega) _ (tot S k) (allS S k) rfl HR.out (S k).A (S k).n (S k).c (S k).es rfl HX.out (by unfold maxLen; omega) (by omega) (by omega) ?_); intro v2 w2 hown2 hg2 hat2; have b2 : Below (w.heap.size + 1) wr w2 := (Below.refl _ wr).grown hg2 (by omega) hob; have s2 := b2.size; have x2 : w2.cell? ⟨w.heap.size, 0, none⟩ = some (.slice (some ⟨b, off, none⟩) N c) := (b2.cell (p := ⟨w.heap.size, 0, none⟩) (by (first | omega | (simp; omega) | simp))).trans q0)
      have H2 := Lib.hid hown2
      have hob2 : ∀ a, v2.ownBlock = some a → w.heap.size + 1 ≤ a := fun a ha => by
        rcases hat2 with h4 | h4
        · exact hob a (h4.symm.trans ha)
        · rw [h4] at ha
          injection ha with ha
          omega
      clear hown2 hg2 hat2 HR HX hob
      go_wp2
      go_roundw
      case rel => exact ⟨k + 1, by omega, by go_num, H2, by (repeat (first | with_reducible exact Below.refl _ _ | with_reducible refine Below.drew ?_ | with_reducible refine below_drewN ?_ _ | (with_reducible refine bel_alloc ?_ ?_ _; (first | omega | (simp; omega) | simp)) | (with_reducible refine bel_set ?_ ?_ _; (first | omega | (simp; omega) | simp)) | (with_reducible refine bel_tr (by assumption) ?_ ?_; (first | omega | (simp; omega) | simp)))), by omega, x2, hob2⟩
      case measure => simp [intOf]; omega
    · have hkn : k = N := by omega
      subst hkn
      go_wp2
      go_ret
      exact ⟨_, rfl, HR.out, hbel⟩
end Go.Proofs.YtjlmcppkafjniaaGreat

namespace Go.Proofs.YtjlmcppkafjniaaGreat
open Go.RowKit

/-- A world behind W in which all old memory is as it was. -/
structure BW (W : World) where
  w : World
  below : Below W.heap.size W w

instance BW.inst (W : World) : Inhabited (BW W) := ⟨⟨W, Below.refl _ _⟩⟩
theorem BW.cell {W : World} (p : BW W) {b o : Nat} {v : Value} (hb : b < W.heap.size) (h : W.cell? ⟨b, o, none⟩ = some v) : p.w.cell? ⟨b, o, none⟩ = some v :=
  (p.below.cell (p := ⟨b, o, none⟩) hb).trans h
theorem wp_region_bw {P : Program} {id : Nat} {Q : Exit → Act → World → Prop} {a : Act} {w : World} {l : List Oper} (hm : P.follows .mixedOrders = true) (hB : Region.lexB .any l.toArray = true)
    (h : ∀ W, W = w → wpQuiet P l.toArray (fun w' => ∃ p : BW W, w' = p.w) (fun a' => ∀ w', (∃ p : BW W, w' = p.w) → Q .normal a' w') l a) : (Code.region id l.toArray true).wp P Q a w :=
  wp_region_quiet (C := fun w' => ∃ p : BW w, w' = p.w) hm hB ⟨⟨w.drew, Below.drew (Below.refl _ _)⟩, rfl⟩ (by simpa using h w rfl)
theorem bw_of {P : Program} {f : FuncId} {args : Array Value} {W : World} {p : BW W} {v : Value} (h : Calls P f args p.w fun e w' => e = .returned v ∧ Below p.w.heap.size p.w w') :
    Calls P f args p.w fun e w'' => e = .returned v ∧ ∃ p' : BW W, w'' = p'.w :=
  h.mono fun _ w' ⟨he, hb⟩ => ⟨he, ⟨w', p.below.trans (hb.mono p.below.size)⟩, rfl⟩
/-- .. of a callee that leaves the world alone. -/
theorem bw_same {P : Program} {f : FuncId} {args : Array Value} {W : World} {p : BW W} {v : Value} (h : Calls P f args p.w fun e w' => e = .returned v ∧ p.w = w') :
    Calls P f args p.w fun e w'' => e = .returned v ∧ ∃ p' : BW W, w'' = p'.w :=
  h.mono fun _ _ ⟨he, hb⟩ => ⟨he, p, hb.symm⟩
end Go.Proofs.YtjlmcppkafjniaaGreat

namespace Go.Proofs.YtjlmcppkafjniaaGreat
open Go.RowKit

/-- Whether element i satisfies p, and none before it. -/
def FirstAt (p : Nat → Bool) (n : Nat) (r : Int) : Prop := (∃ k : Nat, k < n ∧ r = k ∧ p k = true ∧ ∀ i, i < k → p i = false) ∨ (r = -1 ∧ ∀ i, i < n → p i = false)
theorem FirstAt.uniq {p : Nat → Bool} {n : Nat} {r s : Int} (h : FirstAt p n r) (h' : FirstAt p n s) : r = s := by
  rcases h with ⟨k, hk, rfl, hp, hb⟩ | ⟨rfl, hb⟩ <;> rcases h' with ⟨k', hk', rfl, hp', hb'⟩ | ⟨rfl, hb'⟩
  · rcases Nat.lt_trichotomy k k' with h | h | h
    · rw [hb' k h] at hp; cases hp
    · rw [h]
    · rw [hb k' h] at hp'; cases hp'
  · rw [hb' k hk] at hp; cases hp
  · rw [hb k' hk'] at hp'; cases hp'
  · rfl
def IntP (P : Int → Prop) (w : World) (e : Ending) (w' : World) : Prop := ∃ r : Int, P r ∧ e = .returned (.int .i64 r) ∧ Below w.heap.size w w'

/-- The first index below n that satisfies p. -/
def ixOf (p : Nat → Bool) (n : Nat) : Option Nat := (List.range n).find? p
theorem ixOf_none {p : Nat → Bool} {n : Nat} (h : ixOf p n = none) : ∀ i, i < n → p i = false := fun i hi => by
  have := List.find?_eq_none.1 h i (List.mem_range.2 hi)
  simpa using this
theorem ixOf_some {p : Nat → Bool} {n k : Nat} (h : ixOf p n = some k) : k < n ∧ p k = true ∧ ∀ i, i < k → p i = false := by
  have h1 := List.find?_some h
  have h2 : k < n := List.mem_range.1 (List.mem_of_find?_eq_some h)
  refine ⟨h2, h1, fun i hi => ?_⟩
  unfold ixOf at h
  rw [List.find?_range_eq_some] at h
  have := h.2.2 i hi
  simpa using this
theorem ixOf_firstAt {p : Nat → Bool} {n : Nat} : FirstAt p n (match ixOf p n with | none => -1 | some k => (k : Int)) := by
  rcases h : ixOf p n with _ | k
  · exact .inr ⟨rfl, ixOf_none h⟩
  · obtain ⟨h1, h2, h3⟩ := ixOf_some h
    exact .inl ⟨k, h1, rfl, h2, h3⟩
/-- The list without its first element of which p holds. -/
def cutT (es : List (Nat → Int)) (p : Nat → Bool) (n : Nat) : List (Nat → Int) := match ixOf p n with | none => es | some k => cutL es k
def cutB (p : Nat → Bool) (n : Nat) : Bool := (ixOf p n).isSome

theorem wrap_add1 (k : Nat) (h : k ≤ 4611686018427387904) : IntKind.i64.wrap ((k : Int) + 1) = (k : Int) + 1 := by rw [IntKind.wrap_i64]; omega

theorem cutT_len {es : List (Nat → Int)} {n : Nat} {p : Nat → Bool} (h : es.length = n) : (cutT es p n).length ≤ n := by
  unfold cutT
  split
  · omega
  · rename_i k hk
    have := ixOf_some hk
    rw [cutL_len h this.1]
    omega
end Go.Proofs.YtjlmcppkafjniaaGreat
