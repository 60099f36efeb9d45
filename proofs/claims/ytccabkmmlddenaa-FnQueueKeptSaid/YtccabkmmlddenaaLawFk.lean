/-
  Walk of the law FnQueueKept: it returns true and leaves old memory alone.
-/
import Derived.Test.YtccabkmmlddenaaEl
import Derived.Test.YtccabkmmlddenaaQfS
import Derived.Test.YtccabkmmlddenaaQo
import Derived.Test.YtccabkmmlddenaaCu
import Derived.Test.YtccabkmmlddenaaPu
import Derived.Test.YtccabkmmlddenaaQc
import Derived.Test.YtccabkmmlddenaaDx
import Derived.Test.YtccabkmmlddenaaSl
import Derived.Test.YtccabkmmlddenaaEs
import Derived.Test.YtccabkmmlddenaaDqo
import Derived.Test.YtccabkmmlddenaaQoi
import Derived.Test.YtccabkmmlddenaaCut
import Derived.Deep.RegionHeld3
import Derived.Deep.DeepCutAuto
namespace Go.Proofs.Ytccabkmmlddenaa
open Go.RowKit

theorem insF_perm (e : Nat → Int) : ∀ l, (insF e l).Perm (e :: l)
  | [] => List.Perm.refl _
  | x :: l => by
    unfold insF
    split
    · exact ((insF_perm e l).cons x).trans (List.Perm.swap e x l)
    · exact List.Perm.refl _
theorem sortR_perm : ∀ l, (sortR l).Perm l
  | [] => List.Perm.refl _
  | e :: l => (insF_perm e (sortR l)).trans ((sortR_perm l).cons e)
/-- Are the four fields the same? -/
def eq4 (e x : Nat → Int) : Bool := (x 0 == e 0) && ((x 1 == e 1) && ((x 2 == e 2) && (x 3 == e 3)))
theorem eq4_iff {e x : Nat → Int} : eq4 e x = true ↔ x 0 = e 0 ∧ x 1 = e 1 ∧ x 2 = e 2 ∧ x 3 = e 3 := by
  unfold eq4
  simp
/-- How many of the first k are e. -/
def cnt4 (e : Nat → Int) (l : List (Nat → Int)) (k : Nat) : Nat := (l.take k).countP (eq4 e)
theorem cnt4_zero (e : Nat → Int) (l : List (Nat → Int)) : cnt4 e l 0 = 0 := rfl
theorem cnt4_le (e : Nat → Int) (l : List (Nat → Int)) (k : Nat) : cnt4 e l k ≤ k := by
  unfold cnt4
  have h := List.countP_le_length (p := eq4 e) (l := l.take k)
  rw [List.length_take] at h
  omega
theorem take_one {l : List (Nat → Int)} {k : Nat} (h : k < l.length) : l.take (k + 1) = l.take k ++ [fld l k] := by
  rw [List.take_succ_eq_append_getElem h, fld_get h]
theorem cnt4_y {e : Nat → Int} {l : List (Nat → Int)} {k : Nat} (h : k < l.length) (he : eq4 e (fld l k) = true) : cnt4 e l (k + 1) = cnt4 e l k + 1 := by
  unfold cnt4
  rw [take_one h, List.countP_append]
  simp [he]
theorem cnt4_n {e : Nat → Int} {l : List (Nat → Int)} {k : Nat} (h : k < l.length) (he : eq4 e (fld l k) = false) : cnt4 e l (k + 1) = cnt4 e l k := by
  unfold cnt4
  rw [take_one h, List.countP_append]
  simp [he]
theorem cnt4_all {e : Nat → Int} {l : List (Nat → Int)} {n : Nat} (h : l.length = n) : cnt4 e l n = l.countP (eq4 e) := by
  unfold cnt4
  rw [List.take_of_length_le (by omega)]
/-- The sorted row holds e as often as the row. -/
theorem cnt4_sort (e : Nat → Int) (l : List (Nat → Int)) {n : Nat} (h : (sortR l).length = n) : cnt4 e (sortR l) n = l.countP (eq4 e) := by
  rw [cnt4_all h]
  exact (sortR_perm l).countP_eq _
theorem sortR_adj {l : List (Nat → Int)} {i : Nat} (h : i + 1 < (sortR l).length) : ¬ ltP (fld (sortR l) (i + 1)) (fld (sortR l) i) := by
  have h1 := sortR_pw l
  unfold Pw at h1
  rw [List.pairwise_iff_getElem] at h1
  have h2 := h1 i (i + 1) (by omega) h (by omega)
  rw [fld_get h, fld_get (show i < (sortR l).length by omega)]
  exact h2
section
variable {ok : Nat → Bool} {r : Nat → Int} {now : Int} {ps : List (Nat → Int)} {k : Nat} {e : Nat → Int}
theorem cntL_y (h : ok k = true) (he : eq4 e (entAt r now ps k) = true) : (entL ok r now ps (k + 1)).countP (eq4 e) = (entL ok r now ps k).countP (eq4 e) + 1 := by
  rw [entL_y h, List.countP_append]
  simp [he]
theorem cntL_n (h : ok k = true) (he : eq4 e (entAt r now ps k) = false) : (entL ok r now ps (k + 1)).countP (eq4 e) = (entL ok r now ps k).countP (eq4 e) := by
  rw [entL_y h, List.countP_append]
  simp [he]
theorem cntL_no (h : ok k = false) : (entL ok r now ps (k + 1)).countP (eq4 e) = (entL ok r now ps k).countP (eq4 e) := by
  rw [entL_n h]
theorem cntL_le (ok : Nat → Bool) (r : Nat → Int) (now : Int) (ps : List (Nat → Int)) (k : Nat) (e : Nat → Int) : (entL ok r now ps k).countP (eq4 e) ≤ k :=
  Nat.le_trans List.countP_le_length (entL_len ok r now ps k)
end
end Go.Proofs.Ytccabkmmlddenaa

namespace Go.Proofs.Ytccabkmmlddenaa
open Go.RowKit

/-- The entry of a party. -/
def entF (r : Nat → Int) (now : Int) (p : Nat → Int) : Nat → Int := fun j => [lvlV r p now, p 6, p 0, p 3].getD j 0
/-- In order, no two of one key, no two of one number. -/
def RowP (row : List (Nat → Int)) : Prop := row.Pairwise (fun a b => ltP a b ∧ a 2 ≠ b 2)
theorem ltP_trans {a b c : Nat → Int} (h1 : ltP a b) (h2 : ltP b c) : ltP a c := by unfold ltP at h1 h2 ⊢; omega
theorem qOk_lt {es : List (Nat → Int)} {n : Nat} (h : QOk es n) : ∀ d i, i + d + 1 < n → ltP (fld es i) (fld es (i + d + 1))
  | 0, i, hi => by
    have h1 := (h.2 (i + 1) hi).2.1 (by omega)
    rw [show i + 1 - 1 = i by omega] at h1
    exact lessE_lt.1 h1
  | d + 1, i, hi => by
    have h1 := (h.2 (i + d + 1 + 1) (by omega)).2.1 (by omega)
    rw [show i + d + 1 + 1 - 1 = i + d + 1 by omega] at h1
    exact ltP_trans (qOk_lt h d i (by omega)) (lessE_lt.1 h1)
theorem qOk_iff {es : List (Nat → Int)} {n : Nat} (hl : es.length = n) : QOk es n ↔ n ≤ 10 ∧ (∀ x ∈ es, eOk x) ∧ RowP es := by
  subst hl
  constructor
  · intro h
    refine ⟨h.1, fun x hx => ?_, ?_⟩
    · obtain ⟨i, hi, rfl⟩ := List.mem_iff_getElem.1 hx
      rw [← fld_get hi]
      exact (h.2 i hi).1
    · unfold RowP
      rw [List.pairwise_iff_getElem]
      intro i j hi hj hij
      rw [← fld_get hi, ← fld_get hj]
      obtain ⟨d, rfl⟩ : ∃ d, j = i + d + 1 := ⟨j - i - 1, by omega⟩
      exact ⟨qOk_lt h d i hj, (h.2 _ hj).2.2 i hij⟩
  · rintro ⟨h1, h2, h3⟩
    unfold RowP at h3
    rw [List.pairwise_iff_getElem] at h3
    refine ⟨h1, fun k hk => ⟨?_, fun h0 => ?_, fun i hi => ?_⟩⟩
    · rw [fld_get hk]
      exact h2 _ (List.getElem_mem _)
    · have h4 := h3 (k - 1) k (by omega) hk (by omega)
      rw [← fld_get, ← fld_get] at h4
      exact lessE_lt.2 h4.1
    · have h4 := h3 i k (by omega) hk hi
      rw [← fld_get, ← fld_get] at h4
      exact h4.2
/-- The row has the entries of the parties that are kept, and is right. -/
def Kept (row ks : List (Nat → Int)) (n : Nat) (es : List (Nat → Int)) (r : Nat → Int) (now cab : Int) : Prop := row.Perm (ks.map (entF r now)) ∧ QOk row row.length ∧ ∀ p ∈ ks, entP n es r p now ∧ p 1 = cab
section
variable {row ks es : List (Nat → Int)} {n : Nat} {r p : Nat → Int} {now cab : Int}
theorem Kept.nil : Kept [] [] n es r now cab := ⟨List.Perm.refl _, ⟨Nat.zero_le _, fun _ h => absurd h (Nat.not_lt_zero _)⟩, fun _ h => by cases h⟩
theorem Kept.len (h : Kept row ks n es r now cab) : row.length = ks.length := by
  rw [h.1.length_eq, List.length_map]
theorem Kept.put {m : Nat} (h : Kept row ks n es r now cab) (hm : row.length = m) (h1 : entP n es r p now) (h2 : p 1 = cab) (h3 : QOk (insL row (plc row (entF r now p) m) (entF r now p)) (m + 1)) : Kept (insL row (plc row (entF r now p) m) (entF r now p)) (ks ++ [p]) n es r now cab := by
  have hl : (insL row (plc row (entF r now p) m) (entF r now p)).length = m + 1 := insL_len hm plc_le
  refine ⟨?_, hl ▸ h3, fun q hq => ?_⟩
  · rw [insL_insF hm, List.map_append]
    refine (insF_perm _ _).trans ((h.1.cons _).trans ?_)
    exact (List.perm_append_singleton _ _).symm
  · rcases List.mem_append.1 hq with hq | hq
    · exact h.2.2 q hq
    · obtain rfl : q = p := by simpa using hq
      exact ⟨h1, h2⟩
theorem RowP.mem_id {row : List (Nat → Int)} (h : RowP row) {a b : Nat → Int} (ha : a ∈ row) (hb : b ∈ row) (he : a 2 = b 2) : a = b := by
  unfold RowP at h
  rw [List.pairwise_iff_getElem] at h
  obtain ⟨i, hi, rfl⟩ := List.mem_iff_getElem.1 ha
  obtain ⟨j, hj, rfl⟩ := List.mem_iff_getElem.1 hb
  rcases Nat.lt_trichotomy i j with h1 | h1 | h1
  · exact absurd he (h i j hi hj h1).2
  · subst h1; rfl
  · exact absurd he.symm (h j i hj hi h1).2
theorem RowP.mem_key {row : List (Nat → Int)} (h : RowP row) {a b : Nat → Int} (ha : a ∈ row) (hb : b ∈ row) (h1 : ¬ ltP a b) (h2 : ¬ ltP b a) : a = b := by
  unfold RowP at h
  rw [List.pairwise_iff_getElem] at h
  obtain ⟨i, hi, rfl⟩ := List.mem_iff_getElem.1 ha
  obtain ⟨j, hj, rfl⟩ := List.mem_iff_getElem.1 hb
  rcases Nat.lt_trichotomy i j with h3 | h3 | h3
  · exact absurd (h i j hi hj h3).1 h1
  · subst h3; rfl
  · exact absurd (h j i hj hi h3).1 h2
/-- The first party that is kept is cut from the row. -/
theorem Kept.cut {m : Nat} (h : Kept row (p :: ks) n es r now cab) (hm : row.length = m) : ∃ k, k < m ∧ hasId row (p 0) k = true ∧ (∀ i, i < k → hasId row (p 0) i = false) ∧ Kept (cutL row k) ks n es r now cab ∧ ∀ i, i < m - 1 → hasId (cutL row k) (p 0) i = false := by
  have hq := (qOk_iff hm).1 (hm ▸ h.2.1)
  have hmem : entF r now p ∈ row := h.1.mem_iff.2 (by simp)
  obtain ⟨i0, hi0, he0⟩ := List.mem_iff_getElem.1 hmem
  have hid0 : hasId row (p 0) i0 = true := by
    unfold hasId
    rw [fld_get hi0, he0]
    simp [entF]
  rcases hx : ixOf (hasId row (p 0)) m with _ | k
  · have h1 := ixOf_none hx i0 (by omega)
    rw [hid0] at h1
    cases h1
  obtain ⟨hk, hp, hb⟩ := ixOf_some hx
  have hkl : k < row.length := by omega
  have hek : fld row k = entF r now p := by
    refine hq.2.2.mem_id (by rw [fld_get hkl]; exact List.getElem_mem _) hmem ?_
    unfold hasId at hp
    simpa [entF] using hp
  have hsplit : row = row.take k ++ fld row k :: row.drop (k + 1) := by
    rw [fld_get hkl, ← List.drop_eq_getElem_cons hkl, List.take_append_drop]
  have hperm : row.Perm (fld row k :: cutL row k) := by
    conv => lhs; rw [hsplit]
    exact List.perm_middle
  have hsub : (cutL row k).Sublist row := by
    conv => rhs; rw [hsplit]
    exact (List.Sublist.refl _).append (List.sublist_cons_self _ _)
  have hl := cutL_len (es := row) (k := k) hm hk
  have hpk : (cutL row k).Perm (ks.map (entF r now)) := by
    have h1 := hperm.symm.trans h.1
    rw [hek, List.map_cons] at h1
    exact h1.cons_inv
  have hno : ∀ x ∈ cutL row k, x 2 ≠ p 0 := by
    intro x hx2 he
    have h1 : (fld row k :: cutL row k).Pairwise (fun a b => a 2 ≠ b 2) := by
      refine (List.Perm.pairwise_iff (fun h => Ne.symm h) hperm).1 ?_
      exact hq.2.2.imp (fun h => h.2)
    have h2 := (List.pairwise_cons.1 h1).1 x hx2
    rw [hek] at h2
    exact h2 (by rw [he]; simp [entF])
  refine ⟨k, hk, hp, hb, ⟨hpk, ?_, fun q hq => h.2.2 q (List.mem_cons_of_mem _ hq)⟩, fun i hi => ?_⟩
  · refine (qOk_iff rfl).2 ⟨by omega, fun x hx => hq.2.1 x (hsub.subset hx), ?_⟩
    exact hq.2.2.sublist hsub
  · unfold hasId
    have h1 := hno (fld (cutL row k) i) (by rw [fld_get (by omega)]; exact List.getElem_mem _)
    simpa using h1
/-- A row that is kept is the one that is made anew. -/
theorem Kept.sort {ok : Nat → Bool} (h : Kept row ks n es r now cab) (hok : OkF ok n es r now ks cab) : row = sortR (entL ok r now ks ks.length) := by
  have h1 : entL ok r now ks ks.length = ks.map (entF r now) := by
    unfold entL
    have h2 : (List.range ks.length).filter ok = List.range ks.length := List.filter_eq_self.2 fun i hi => by
      have hi2 := List.mem_range.1 hi
      have h3 := h.2.2 (fld ks i) (by rw [fld_get hi2]; exact List.getElem_mem _)
      exact (hok i).2 h3
    rw [h2]
    refine List.ext_getElem (by simp) (fun i h3 h4 => ?_)
    rw [List.getElem_map, List.getElem_map, List.getElem_range]
    show entF r now (fld ks i) = _
    rw [fld_get (by simpa using h4)]
  have hq := (qOk_iff rfl).1 h.2.1
  have hs : Pw (sortR (ks.map (entF r now))) := sortR_pw _
  rw [h1]
  have hp : row.Perm (sortR (ks.map (entF r now))) := h.1.trans (sortR_perm _).symm
  refine List.Perm.eq_of_pairwise (le := fun a b => ¬ ltP b a) (fun a b ha hb hab hba => ?_) ?_ hs hp
  · exact hq.2.2.mem_key ha (hp.mem_iff.2 hb) hba hab
  · exact hq.2.2.imp (fun h => ltP_asymm h.1)
end
end Go.Proofs.Ytccabkmmlddenaa

namespace Go.Proofs.Ytccabkmmlddenaa
open Go.RowKit

set_option maxRecDepth 100000 in
set_option maxHeartbeats 8000000 in
theorem iQueuePut_c (A : Option Addr) (n c N : Nat) (es T : List (Nat → Int)) (e : Nat → Int) (bv : Bool) (w : World) (hn : n ≤ 4194303) (hnc : n ≤ c) (hcm : c ≤ 9223372036854775807) (hR : PutR es e n T N bv) (h : Rd w 4 A n es) :
    Calls Try.prog 25 #[.slice A n c, .agg #[.int .i64 (e 0), .int .i64 (e 1), .int .i64 (e 2), .int .i64 (e 3)]] w fun y w' => ∃ A' c', y = .returned (.tuple #[.slice A' N c', .bool bv]) ∧ (N ≤ c' ∧ c' ≤ 9223372036854775807) ∧ Own w.heap.size w' 4 A' N T ∧ Below w.heap.size w w' := by
  have HL := Lib.hid h.1
  have hcases := h.2
  have H := Lib.hid h
  clear h
  go_enter Try.func25, Try.ntmps25
  go_wp2_with fail
  refine (copyEntries_any A n c es _ (by omega) (H.out.below (by (repeat (first | with_reducible exact Below.refl _ _ | with_reducible refine Below.drew ?_ | with_reducible refine below_drewN ?_ _ | (with_reducible refine bel_alloc ?_ ?_ _; (first | omega | (simp; omega) | simp)) | (with_reducible refine bel_set ?_ ?_ _; (first | omega | (simp; omega) | simp)) | (with_reducible refine bel_tr (by assumption) ?_ ?_; (first | omega | (simp; omega) | simp))))))).mono ?_
  rintro y w1 ⟨v0, rfl, o1, b1⟩
  have s1 := b1.size
  (try simp at s1)
  have O1 := Lib.hid o1
  clear o1
  have kc1 : ∀ o, w1.cell? ⟨w.heap.size, o, none⟩ = _ := (fun o => b1.cell (p := ⟨w.heap.size, o, none⟩) (by (first | omega | (simp; omega) | simp)))
  go_wp2
  go_loopw [7] (fun i wr => ∃ k : Nat, k ≤ n ∧ i = .int .i64 k ∧ Hid (∀ i, i < k → lessE (fld es i) e = true) ∧ Below w.heap.size w wr ∧ Below w1.heap.size w1 wr ∧ w.heap.size < wr.heap.size ∧ wr.cell? ⟨w.heap.size, 0, none⟩ = some (.int .i64 (e 0)) ∧ wr.cell? ⟨w.heap.size, 1, none⟩ = some (.int .i64 (e 1)) ∧ wr.cell? ⟨w.heap.size, 2, none⟩ = some (.int .i64 (e 2)) ∧ wr.cell? ⟨w.heap.size, 3, none⟩ = some (.int .i64 (e 3))) (fun i _ => n - (intOf i).toNat)
  case atStart => exact ⟨0, Nat.zero_le _, rfl, Lib.hid (fun i hi => absurd hi (by omega)), by (repeat (first | with_reducible exact Below.refl _ _ | with_reducible refine Below.drew ?_ | with_reducible refine below_drewN ?_ _ | (with_reducible refine bel_alloc ?_ ?_ _; (first | omega | (simp; omega) | simp)) | (with_reducible refine bel_set ?_ ?_ _; (first | omega | (simp; omega) | simp)) | (with_reducible refine bel_tr (by assumption) ?_ ?_; (first | omega | (simp; omega) | simp)))), Below.refl _ _, by (first | omega | (simp; omega) | simp), by (first | (go_keep; done) | (go_simp; done)), by (first | (go_keep; done) | (go_simp; done)), by (first | (go_keep; done) | (go_simp; done)), by (first | (go_keep; done) | (go_simp; done))⟩
  case round =>
    obtain ⟨k, hk, rfl, HQ, hbel0, hbel01, hxr, x0, x1, x2, x3⟩ := hrel
    have hsz := hbel0.size
    have hkl : (k : Int) ≤ (n : Int) := by omega
    have hk0 : (0 : Int) ≤ (k : Int) := by omega
    by_cases hlt : k < n
    case neg =>
      have hkn : k = n := by omega
      have HP : Hid (k = plc es e n) := plc_of (by omega) HQ.out (.inl hkn)
      have hd : decide (k < n) = false := by simpa using hlt
      have HLT := Lib.hid hlt
      clear hlt hkn
      go_wp2
      refine wp_region_bw (by kernel_rfl) (by kernel_rfl) (fun W hW => ?_)
      have q0 : ∀ p : BW W, p.w.cell? ⟨w.heap.size, 0, none⟩ = some (.int .i64 (e 0)) := fun p => p.cell (by rw [hW]; (first | omega | (simp; omega) | simp)) (by rw [hW]; (first | (go_keep; done) | (go_simp; done)))
      have q1 : ∀ p : BW W, p.w.cell? ⟨w.heap.size, 1, none⟩ = some (.int .i64 (e 1)) := fun p => p.cell (by rw [hW]; (first | omega | (simp; omega) | simp)) (by rw [hW]; (first | (go_keep; done) | (go_simp; done)))
      have q2 : ∀ p : BW W, p.w.cell? ⟨w.heap.size, 2, none⟩ = some (.int .i64 (e 2)) := fun p => p.cell (by rw [hW]; (first | omega | (simp; omega) | simp)) (by rw [hW]; (first | (go_keep; done) | (go_simp; done)))
      have q3 : ∀ p : BW W, p.w.cell? ⟨w.heap.size, 3, none⟩ = some (.int .i64 (e 3)) := fun p => p.cell (by rw [hW]; (first | omega | (simp; omega) | simp)) (by rw [hW]; (first | (go_keep; done) | (go_simp; done)))
      have hbW : Below w.heap.size w W := by rw [hW]; (repeat (first | with_reducible exact Below.refl _ _ | with_reducible refine Below.drew ?_ | with_reducible refine below_drewN ?_ _ | (with_reducible refine bel_alloc ?_ ?_ _; (first | omega | (simp; omega) | simp)) | (with_reducible refine bel_set ?_ ?_ _; (first | omega | (simp; omega) | simp)) | (with_reducible refine bel_tr (by assumption) ?_ ?_; (first | omega | (simp; omega) | simp))))
      have hb1W : Below w1.heap.size w1 W := by rw [hW]; (repeat (first | with_reducible exact Below.refl _ _ | with_reducible refine Below.drew ?_ | with_reducible refine below_drewN ?_ _ | (with_reducible refine bel_alloc ?_ ?_ _; (first | omega | (simp; omega) | simp)) | (with_reducible refine bel_set ?_ ?_ _; (first | omega | (simp; omega) | simp)) | (with_reducible refine bel_tr (by assumption) ?_ ?_; (first | omega | (simp; omega) | simp))))
      have hxW : w.heap.size < W.heap.size := by rw [hW]; (first | omega | (simp; omega) | simp)
      have y0 : W.cell? ⟨w.heap.size, 0, none⟩ = some (.int .i64 (e 0)) := by rw [hW]; (first | (go_keep; done) | (go_simp; done))
      have y1 : W.cell? ⟨w.heap.size, 1, none⟩ = some (.int .i64 (e 1)) := by rw [hW]; (first | (go_keep; done) | (go_simp; done))
      have y2 : W.cell? ⟨w.heap.size, 2, none⟩ = some (.int .i64 (e 2)) := by rw [hW]; (first | (go_keep; done) | (go_simp; done))
      have y3 : W.cell? ⟨w.heap.size, 3, none⟩ = some (.int .i64 (e 3)) := by rw [hW]; (first | (go_keep; done) | (go_simp; done))
      have HW := Lib.hid hW
      clear hW
      repeat (go_big_quiet_step (fail))
      refine wpQuiet_nil ?_
      intro wq hq
      have hbq : Below W.heap.size W wq := by (obtain ⟨p, hp⟩ := hq; rw [hp]; exact p.below)
      clear hq HW
      have sW := hbW.size
      have hbel : Below w.heap.size w wq := hbW.trans (hbq.mono sW)
      have hbel1 : Below w1.heap.size w1 wq := hb1W.trans (hbq.mono hb1W.size)
      have hxq : w.heap.size < wq.heap.size := by have := hbq.size; omega
      have x0 : wq.cell? ⟨w.heap.size, 0, none⟩ = some (.int .i64 (e 0)) := (hbq.cell (p := ⟨w.heap.size, 0, none⟩) hxW).trans y0
      have x1 : wq.cell? ⟨w.heap.size, 1, none⟩ = some (.int .i64 (e 1)) := (hbq.cell (p := ⟨w.heap.size, 1, none⟩) hxW).trans y1
      have x2 : wq.cell? ⟨w.heap.size, 2, none⟩ = some (.int .i64 (e 2)) := (hbq.cell (p := ⟨w.heap.size, 2, none⟩) hxW).trans y2
      have x3 : wq.cell? ⟨w.heap.size, 3, none⟩ = some (.int .i64 (e 3)) := (hbq.cell (p := ⟨w.heap.size, 3, none⟩) hxW).trans y3
      clear q0 q1 q2 q3 y0 y1 y2 y3
      have hkn8 : k ≤ n := hk
      have sq0 : w1.heap.size ≤ wq.heap.size := hbel1.size
      go_upto_region 5 with fail
      go_cut [8] (fun s8 wx => ∃ A3 c3, s8 = .slice A3 (n + 1) c3 ∧ n + 1 ≤ c3 ∧ c3 ≤ 9223372036854775807 ∧ Own w.heap.size wx 4 A3 (n + 1) (insL es (plc es e n) e) ∧ Below w.heap.size w wx ∧ Below w1.heap.size w1 wx)
      case first =>
        go_region_held3 (fun w' => w'.cell? ⟨w.heap.size, 0, none⟩ = some (.int .i64 (e 0)) ∧ w'.cell? ⟨w.heap.size, 1, none⟩ = some (.int .i64 (e 1)) ∧ w'.cell? ⟨w.heap.size, 2, none⟩ = some (.int .i64 (e 2)) ∧ w'.cell? ⟨w.heap.size, 3, none⟩ = some (.int .i64 (e 3))) ((first | (go_keep; done) | (go_simp; done))) (first
          | (go_at_call 50; refine (copyEntries_any _ n c es _ (by omega) (H.out.below (by (repeat (first | with_reducible exact Below.refl _ _ | with_reducible refine Below.drew ?_ | with_reducible refine below_drewN ?_ _ | (with_reducible refine bel_alloc ?_ ?_ _; (first | omega | (simp; omega) | simp)) | (with_reducible refine bel_set ?_ ?_ _; (first | omega | (simp; omega) | simp)) | (with_reducible refine bel_tr (by assumption) ?_ ?_; (first | omega | (simp; omega) | simp))))))).mono ?_; rintro y w2 ⟨v, rfl, o2, b2⟩; have s2 := b2.size; (try simp at s2); have O2 := Lib.hid o2; clear o2; have kc2 : ∀ o, w2.cell? ⟨w.heap.size, o, none⟩ = _ := (fun o => b2.cell (p := ⟨w.heap.size, o, none⟩) (by (first | omega | (simp; omega) | (solve | simp)))); have kb2 := fun (ho : _) => b2.block wq.heap.size ho)
          | (go_at_call 51; refine (insEntry_any wq.heap.size n k _ 1 v es e _ hn hkn8 HL.out (by first | exact O2.out.lower (by (first | omega | (simp; omega) | simp)) | exact World.ownsRow.alloc (O2.out.lower (by (first | omega | (simp; omega) | simp))) _) (by (first | omega | (simp; omega) | simp)) (by first | exact box_heap _ e | exact (kb2 (by (first | omega | (simp; omega) | simp))).trans (box_heap _ e)) (by first | (intro k hk; have := row_lt O2.out k hk; omega) | (intro k hk; have := row_ge O2.out (Nat.le_refl _) k hk; (try simp at this); omega))).mono ?_; rintro y w3 ⟨A3, c3, rfl, hc3, hc4, o3, b3⟩; have s3 := b3.size; (try simp at s3); have O3 := Lib.hid (o3.lower_ (B' := w.heap.size) (by (first | omega | (simp; omega) | simp))); clear o3; have kc4 := fun (o : Nat) => b3.cell (p := ⟨w.heap.size, o, none⟩) hxq))
        all_goals (go_wp2_with fail; go_meet; rw [HP.out] at O3; exact ⟨A3, c3, rfl, hc3, hc4, O3.out, by (repeat (first | with_reducible exact Below.refl _ _ | with_reducible refine Below.drew ?_ | with_reducible refine below_drewN ?_ _ | (with_reducible refine bel_alloc ?_ ?_ _; (first | omega | (simp; omega) | simp)) | (with_reducible refine bel_set ?_ ?_ _; (first | omega | (simp; omega) | simp)) | (with_reducible refine bel_tr (by assumption) ?_ ?_; (first | omega | (simp; omega) | simp)))), by (repeat (first | with_reducible exact Below.refl _ _ | with_reducible refine Below.drew ?_ | with_reducible refine below_drewN ?_ _ | (with_reducible refine bel_alloc ?_ ?_ _; (first | omega | (simp; omega) | simp)) | (with_reducible refine bel_set ?_ ?_ _; (first | omega | (simp; omega) | simp)) | (with_reducible refine bel_tr (by assumption) ?_ ?_; (first | omega | (simp; omega) | simp))))⟩)
      case rest =>
        obtain ⟨A3, c3, rfl, hc3, hc4, o3, b3, b13⟩ := hcut
        have O3 := Lib.hid o3
        have s3 := b3.size
        have s13 := b13.size
        clear o3
        go_wp2_with fail
        by_cases h1 : QOk es n
        · refine (ty (iQueueOk_any _ n c es _ (by omega) hnc (H.out.below (by (repeat (first | with_reducible exact Below.refl _ _ | with_reducible refine Below.drew ?_ | with_reducible refine below_drewN ?_ _ | (with_reducible refine bel_alloc ?_ ?_ _; (first | omega | (simp; omega) | simp)) | (with_reducible refine bel_set ?_ ?_ _; (first | omega | (simp; omega) | simp)) | (with_reducible refine bel_tr (by assumption) ?_ ?_; (first | omega | (simp; omega) | simp))))))) h1).mono ?_
          rintro y w4 ⟨rfl, b4⟩
          have s4 := b4.size
          go_wp2_with fail
          by_cases h2 : QOk (insL es (plc es e n) e) (n + 1)
          · refine (ty (iQueueOk_any A3 (n + 1) c3 (insL es (plc es e n) e) _ (by omega) hc3 (O3.out.rd.below (by (repeat (first | with_reducible exact Below.refl _ _ | with_reducible refine Below.drew ?_ | with_reducible refine below_drewN ?_ _ | (with_reducible refine bel_alloc ?_ ?_ _; (first | omega | (simp; omega) | simp)) | (with_reducible refine bel_set ?_ ?_ _; (first | omega | (simp; omega) | simp)) | (with_reducible refine bel_tr (by assumption) ?_ ?_; (first | omega | (simp; omega) | simp))))))) h2).mono ?_
            rintro y w5 ⟨rfl, b5⟩
            have s5 := b5.size
            go_wp2
            go_ret2
            rcases hR with ⟨_, rfl, rfl, rfl⟩ | ⟨h3, _⟩
            · exact ⟨A3, c3, rfl, ⟨hc3, hc4⟩, O3.out.below (by (repeat (first | with_reducible exact Below.refl _ _ | with_reducible refine Below.drew ?_ | with_reducible refine below_drewN ?_ _ | (with_reducible refine bel_alloc ?_ ?_ _; (first | omega | (simp; omega) | simp)) | (with_reducible refine bel_set ?_ ?_ _; (first | omega | (simp; omega) | simp)) | (with_reducible refine bel_tr (by assumption) ?_ ?_; (first | omega | (simp; omega) | simp))))), by (repeat (first | with_reducible exact Below.refl _ _ | with_reducible refine Below.drew ?_ | with_reducible refine below_drewN ?_ _ | (with_reducible refine bel_alloc ?_ ?_ _; (first | omega | (simp; omega) | simp)) | (with_reducible refine bel_set ?_ ?_ _; (first | omega | (simp; omega) | simp)) | (with_reducible refine bel_tr (by assumption) ?_ ?_; (first | omega | (simp; omega) | simp))))⟩
            · exact absurd ⟨h1, h2⟩ h3
          · refine (tn (iQueueOk_any A3 (n + 1) c3 (insL es (plc es e n) e) _ (by omega) hc3 (O3.out.rd.below (by (repeat (first | with_reducible exact Below.refl _ _ | with_reducible refine Below.drew ?_ | with_reducible refine below_drewN ?_ _ | (with_reducible refine bel_alloc ?_ ?_ _; (first | omega | (simp; omega) | simp)) | (with_reducible refine bel_set ?_ ?_ _; (first | omega | (simp; omega) | simp)) | (with_reducible refine bel_tr (by assumption) ?_ ?_; (first | omega | (simp; omega) | simp))))))) h2).mono ?_
            rintro y w5 ⟨rfl, b5⟩
            have s5 := b5.size
            go_wp2
            go_ret2
            rcases hR with ⟨h3, _⟩ | ⟨_, rfl, rfl, rfl⟩
            · exact absurd h3 (fun h3 => h2 h3.2)
            · have q6 := row_below O1.out (show Below w1.heap.size w1 w5 from by (repeat (first | with_reducible exact Below.refl _ _ | with_reducible refine Below.drew ?_ | with_reducible refine below_drewN ?_ _ | (with_reducible refine bel_alloc ?_ ?_ _; (first | omega | (simp; omega) | simp)) | (with_reducible refine bel_set ?_ ?_ _; (first | omega | (simp; omega) | simp)) | (with_reducible refine bel_tr (by assumption) ?_ ?_; (first | omega | (simp; omega) | simp)))))
              obtain ⟨A6, c6, rfl, hd6, he6, q7⟩ := own_of_row_cap HL.out q6
              exact ⟨A6, c6, rfl, ⟨hd6, he6⟩, q7.lower_ (by (first | omega | (simp; omega) | simp)), by (repeat (first | with_reducible exact Below.refl _ _ | with_reducible refine Below.drew ?_ | with_reducible refine below_drewN ?_ _ | (with_reducible refine bel_alloc ?_ ?_ _; (first | omega | (simp; omega) | simp)) | (with_reducible refine bel_set ?_ ?_ _; (first | omega | (simp; omega) | simp)) | (with_reducible refine bel_tr (by assumption) ?_ ?_; (first | omega | (simp; omega) | simp))))⟩
        · refine (tn (iQueueOk_any _ n c es _ (by omega) hnc (H.out.below (by (repeat (first | with_reducible exact Below.refl _ _ | with_reducible refine Below.drew ?_ | with_reducible refine below_drewN ?_ _ | (with_reducible refine bel_alloc ?_ ?_ _; (first | omega | (simp; omega) | simp)) | (with_reducible refine bel_set ?_ ?_ _; (first | omega | (simp; omega) | simp)) | (with_reducible refine bel_tr (by assumption) ?_ ?_; (first | omega | (simp; omega) | simp))))))) h1).mono ?_
          rintro y w5 ⟨rfl, b5⟩
          have s5 := b5.size
          go_wp2
          go_ret2
          rcases hR with ⟨h3, _⟩ | ⟨_, rfl, rfl, rfl⟩
          · exact absurd h3 (fun h3 => h1 h3.1)
          · have q6 := row_below O1.out (show Below w1.heap.size w1 w5 from by (repeat (first | with_reducible exact Below.refl _ _ | with_reducible refine Below.drew ?_ | with_reducible refine below_drewN ?_ _ | (with_reducible refine bel_alloc ?_ ?_ _; (first | omega | (simp; omega) | simp)) | (with_reducible refine bel_set ?_ ?_ _; (first | omega | (simp; omega) | simp)) | (with_reducible refine bel_tr (by assumption) ?_ ?_; (first | omega | (simp; omega) | simp)))))
            obtain ⟨A6, c6, rfl, hd6, he6, q7⟩ := own_of_row_cap HL.out q6
            exact ⟨A6, c6, rfl, ⟨hd6, he6⟩, q7.lower_ (by (first | omega | (simp; omega) | simp)), by (repeat (first | with_reducible exact Below.refl _ _ | with_reducible refine Below.drew ?_ | with_reducible refine below_drewN ?_ _ | (with_reducible refine bel_alloc ?_ ?_ _; (first | omega | (simp; omega) | simp)) | (with_reducible refine bel_set ?_ ?_ _; (first | omega | (simp; omega) | simp)) | (with_reducible refine bel_tr (by assumption) ?_ ?_; (first | omega | (simp; omega) | simp))))⟩
    obtain ⟨b, off, rfl, hb, hc⟩ := hcases.resolve_left (by omega)
    have hbr : b < wr.heap.size := by omega
    have c0 : wr.cell? ⟨b, off + k * 4, none⟩ = some (.int .i64 (fld es k 0)) := (hbel0.cell (p := ⟨b, off + k * 4, none⟩) hb).trans (hc k hlt 0 (by omega))
    have c1 : wr.cell? ⟨b, off + k * 4 + 1, none⟩ = some (.int .i64 (fld es k 1)) := (hbel0.cell (p := ⟨b, off + k * 4 + 1, none⟩) hb).trans (hc k hlt 1 (by omega))
    have c2 : wr.cell? ⟨b, off + k * 4 + 2, none⟩ = some (.int .i64 (fld es k 2)) := (hbel0.cell (p := ⟨b, off + k * 4 + 2, none⟩) hb).trans (hc k hlt 2 (by omega))
    have c3 : wr.cell? ⟨b, off + k * 4 + 3, none⟩ = some (.int .i64 (fld es k 3)) := (hbel0.cell (p := ⟨b, off + k * 4 + 3, none⟩) hb).trans (hc k hlt 3 (by omega))
    have hd : decide (k < n) = true := by simpa using hlt
    have hki : (k : Int) < (n : Int) := by omega
    rcases Bool.eq_false_or_eq_true (eLt (fld es k 0) (e 0) (fld es k 1) (e 1)) with hL | hL
    · have HQ1 : Hid (∀ i, i < k + 1 → lessE (fld es i) e = true) := fun i hi => by
        rcases Nat.lt_or_ge i k with h3 | h3
        · exact HQ.out i h3
        · obtain rfl : i = k := by omega
          exact hL
      clear hc hcases
      go_wp2
      refine wp_region_bw (by kernel_rfl) (by kernel_rfl) (fun W hW => ?_)
      have q0 : ∀ p : BW W, p.w.cell? ⟨b, off + k * 4, none⟩ = some (.int .i64 (fld es k 0)) := fun p => p.cell (by rw [hW]; (first | omega | (simp; omega) | simp)) (by rw [hW]; (first | (go_keep; done) | (go_simp; done)))
      have q1 : ∀ p : BW W, p.w.cell? ⟨b, off + k * 4 + 1, none⟩ = some (.int .i64 (fld es k 1)) := fun p => p.cell (by rw [hW]; (first | omega | (simp; omega) | simp)) (by rw [hW]; (first | (go_keep; done) | (go_simp; done)))
      have q2 : ∀ p : BW W, p.w.cell? ⟨b, off + k * 4 + 2, none⟩ = some (.int .i64 (fld es k 2)) := fun p => p.cell (by rw [hW]; (first | omega | (simp; omega) | simp)) (by rw [hW]; (first | (go_keep; done) | (go_simp; done)))
      have q3 : ∀ p : BW W, p.w.cell? ⟨b, off + k * 4 + 3, none⟩ = some (.int .i64 (fld es k 3)) := fun p => p.cell (by rw [hW]; (first | omega | (simp; omega) | simp)) (by rw [hW]; (first | (go_keep; done) | (go_simp; done)))
      have q4 : ∀ p : BW W, p.w.cell? ⟨w.heap.size, 0, none⟩ = some (.int .i64 (e 0)) := fun p => p.cell (by rw [hW]; (first | omega | (simp; omega) | simp)) (by rw [hW]; (first | (go_keep; done) | (go_simp; done)))
      have q5 : ∀ p : BW W, p.w.cell? ⟨w.heap.size, 1, none⟩ = some (.int .i64 (e 1)) := fun p => p.cell (by rw [hW]; (first | omega | (simp; omega) | simp)) (by rw [hW]; (first | (go_keep; done) | (go_simp; done)))
      have q6 : ∀ p : BW W, p.w.cell? ⟨w.heap.size, 2, none⟩ = some (.int .i64 (e 2)) := fun p => p.cell (by rw [hW]; (first | omega | (simp; omega) | simp)) (by rw [hW]; (first | (go_keep; done) | (go_simp; done)))
      have q7 : ∀ p : BW W, p.w.cell? ⟨w.heap.size, 3, none⟩ = some (.int .i64 (e 3)) := fun p => p.cell (by rw [hW]; (first | omega | (simp; omega) | simp)) (by rw [hW]; (first | (go_keep; done) | (go_simp; done)))
      have hbW : Below w.heap.size w W := by rw [hW]; (repeat (first | with_reducible exact Below.refl _ _ | with_reducible refine Below.drew ?_ | with_reducible refine below_drewN ?_ _ | (with_reducible refine bel_alloc ?_ ?_ _; (first | omega | (simp; omega) | simp)) | (with_reducible refine bel_set ?_ ?_ _; (first | omega | (simp; omega) | simp)) | (with_reducible refine bel_tr (by assumption) ?_ ?_; (first | omega | (simp; omega) | simp))))
      have hb1W : Below w1.heap.size w1 W := by rw [hW]; (repeat (first | with_reducible exact Below.refl _ _ | with_reducible refine Below.drew ?_ | with_reducible refine below_drewN ?_ _ | (with_reducible refine bel_alloc ?_ ?_ _; (first | omega | (simp; omega) | simp)) | (with_reducible refine bel_set ?_ ?_ _; (first | omega | (simp; omega) | simp)) | (with_reducible refine bel_tr (by assumption) ?_ ?_; (first | omega | (simp; omega) | simp))))
      have hxW : w.heap.size < W.heap.size := by rw [hW]; (first | omega | (simp; omega) | simp)
      have y0 : W.cell? ⟨w.heap.size, 0, none⟩ = some (.int .i64 (e 0)) := by rw [hW]; (first | (go_keep; done) | (go_simp; done))
      have y1 : W.cell? ⟨w.heap.size, 1, none⟩ = some (.int .i64 (e 1)) := by rw [hW]; (first | (go_keep; done) | (go_simp; done))
      have y2 : W.cell? ⟨w.heap.size, 2, none⟩ = some (.int .i64 (e 2)) := by rw [hW]; (first | (go_keep; done) | (go_simp; done))
      have y3 : W.cell? ⟨w.heap.size, 3, none⟩ = some (.int .i64 (e 3)) := by rw [hW]; (first | (go_keep; done) | (go_simp; done))
      have HW := Lib.hid hW
      clear hW
      repeat (go_big_quiet_step ((go_at_call 22; exact bw_of (iLess_y _ _ _ _ _ _ _ _ _ hL))))
      refine wpQuiet_nil ?_
      intro wq hq
      have hbq : Below W.heap.size W wq := by (obtain ⟨p, hp⟩ := hq; rw [hp]; exact p.below)
      clear hq HW
      have sW := hbW.size
      have hbel : Below w.heap.size w wq := hbW.trans (hbq.mono sW)
      have hbel1 : Below w1.heap.size w1 wq := hb1W.trans (hbq.mono hb1W.size)
      have hxq : w.heap.size < wq.heap.size := by have := hbq.size; omega
      have x0 : wq.cell? ⟨w.heap.size, 0, none⟩ = some (.int .i64 (e 0)) := (hbq.cell (p := ⟨w.heap.size, 0, none⟩) hxW).trans y0
      have x1 : wq.cell? ⟨w.heap.size, 1, none⟩ = some (.int .i64 (e 1)) := (hbq.cell (p := ⟨w.heap.size, 1, none⟩) hxW).trans y1
      have x2 : wq.cell? ⟨w.heap.size, 2, none⟩ = some (.int .i64 (e 2)) := (hbq.cell (p := ⟨w.heap.size, 2, none⟩) hxW).trans y2
      have x3 : wq.cell? ⟨w.heap.size, 3, none⟩ = some (.int .i64 (e 3)) := (hbq.cell (p := ⟨w.heap.size, 3, none⟩) hxW).trans y3
      clear q0 q1 q2 q3 y0 y1 y2 y3
      clear q4 q5 q6 q7
      go_wp2
      go_roundw
      case rel => exact ⟨k + 1, by omega, by go_num, HQ1, by (repeat (first | with_reducible exact Below.refl _ _ | with_reducible refine Below.drew ?_ | with_reducible refine below_drewN ?_ _ | (with_reducible refine bel_alloc ?_ ?_ _; (first | omega | (simp; omega) | simp)) | (with_reducible refine bel_set ?_ ?_ _; (first | omega | (simp; omega) | simp)) | (with_reducible refine bel_tr (by assumption) ?_ ?_; (first | omega | (simp; omega) | simp)))), by (repeat (first | with_reducible exact Below.refl _ _ | with_reducible refine Below.drew ?_ | with_reducible refine below_drewN ?_ _ | (with_reducible refine bel_alloc ?_ ?_ _; (first | omega | (simp; omega) | simp)) | (with_reducible refine bel_set ?_ ?_ _; (first | omega | (simp; omega) | simp)) | (with_reducible refine bel_tr (by assumption) ?_ ?_; (first | omega | (simp; omega) | simp)))), by omega, x0, x1, x2, x3⟩
      case measure => simp [intOf]; omega
    · have HP : Hid (k = plc es e n) := plc_of (by omega) HQ.out (.inr ⟨hlt, hL⟩)
      clear hc hcases
      go_wp2
      refine wp_region_bw (by kernel_rfl) (by kernel_rfl) (fun W hW => ?_)
      have q0 : ∀ p : BW W, p.w.cell? ⟨b, off + k * 4, none⟩ = some (.int .i64 (fld es k 0)) := fun p => p.cell (by rw [hW]; (first | omega | (simp; omega) | simp)) (by rw [hW]; (first | (go_keep; done) | (go_simp; done)))
      have q1 : ∀ p : BW W, p.w.cell? ⟨b, off + k * 4 + 1, none⟩ = some (.int .i64 (fld es k 1)) := fun p => p.cell (by rw [hW]; (first | omega | (simp; omega) | simp)) (by rw [hW]; (first | (go_keep; done) | (go_simp; done)))
      have q2 : ∀ p : BW W, p.w.cell? ⟨b, off + k * 4 + 2, none⟩ = some (.int .i64 (fld es k 2)) := fun p => p.cell (by rw [hW]; (first | omega | (simp; omega) | simp)) (by rw [hW]; (first | (go_keep; done) | (go_simp; done)))
      have q3 : ∀ p : BW W, p.w.cell? ⟨b, off + k * 4 + 3, none⟩ = some (.int .i64 (fld es k 3)) := fun p => p.cell (by rw [hW]; (first | omega | (simp; omega) | simp)) (by rw [hW]; (first | (go_keep; done) | (go_simp; done)))
      have q4 : ∀ p : BW W, p.w.cell? ⟨w.heap.size, 0, none⟩ = some (.int .i64 (e 0)) := fun p => p.cell (by rw [hW]; (first | omega | (simp; omega) | simp)) (by rw [hW]; (first | (go_keep; done) | (go_simp; done)))
      have q5 : ∀ p : BW W, p.w.cell? ⟨w.heap.size, 1, none⟩ = some (.int .i64 (e 1)) := fun p => p.cell (by rw [hW]; (first | omega | (simp; omega) | simp)) (by rw [hW]; (first | (go_keep; done) | (go_simp; done)))
      have q6 : ∀ p : BW W, p.w.cell? ⟨w.heap.size, 2, none⟩ = some (.int .i64 (e 2)) := fun p => p.cell (by rw [hW]; (first | omega | (simp; omega) | simp)) (by rw [hW]; (first | (go_keep; done) | (go_simp; done)))
      have q7 : ∀ p : BW W, p.w.cell? ⟨w.heap.size, 3, none⟩ = some (.int .i64 (e 3)) := fun p => p.cell (by rw [hW]; (first | omega | (simp; omega) | simp)) (by rw [hW]; (first | (go_keep; done) | (go_simp; done)))
      have hbW : Below w.heap.size w W := by rw [hW]; (repeat (first | with_reducible exact Below.refl _ _ | with_reducible refine Below.drew ?_ | with_reducible refine below_drewN ?_ _ | (with_reducible refine bel_alloc ?_ ?_ _; (first | omega | (simp; omega) | simp)) | (with_reducible refine bel_set ?_ ?_ _; (first | omega | (simp; omega) | simp)) | (with_reducible refine bel_tr (by assumption) ?_ ?_; (first | omega | (simp; omega) | simp))))
      have hb1W : Below w1.heap.size w1 W := by rw [hW]; (repeat (first | with_reducible exact Below.refl _ _ | with_reducible refine Below.drew ?_ | with_reducible refine below_drewN ?_ _ | (with_reducible refine bel_alloc ?_ ?_ _; (first | omega | (simp; omega) | simp)) | (with_reducible refine bel_set ?_ ?_ _; (first | omega | (simp; omega) | simp)) | (with_reducible refine bel_tr (by assumption) ?_ ?_; (first | omega | (simp; omega) | simp))))
      have hxW : w.heap.size < W.heap.size := by rw [hW]; (first | omega | (simp; omega) | simp)
      have y0 : W.cell? ⟨w.heap.size, 0, none⟩ = some (.int .i64 (e 0)) := by rw [hW]; (first | (go_keep; done) | (go_simp; done))
      have y1 : W.cell? ⟨w.heap.size, 1, none⟩ = some (.int .i64 (e 1)) := by rw [hW]; (first | (go_keep; done) | (go_simp; done))
      have y2 : W.cell? ⟨w.heap.size, 2, none⟩ = some (.int .i64 (e 2)) := by rw [hW]; (first | (go_keep; done) | (go_simp; done))
      have y3 : W.cell? ⟨w.heap.size, 3, none⟩ = some (.int .i64 (e 3)) := by rw [hW]; (first | (go_keep; done) | (go_simp; done))
      have HW := Lib.hid hW
      clear hW
      repeat (go_big_quiet_step ((go_at_call 22; exact bw_of (iLess_n _ _ _ _ _ _ _ _ _ hL))))
      refine wpQuiet_nil ?_
      intro wq hq
      have hbq : Below W.heap.size W wq := by (obtain ⟨p, hp⟩ := hq; rw [hp]; exact p.below)
      clear hq HW
      have sW := hbW.size
      have hbel : Below w.heap.size w wq := hbW.trans (hbq.mono sW)
      have hbel1 : Below w1.heap.size w1 wq := hb1W.trans (hbq.mono hb1W.size)
      have hxq : w.heap.size < wq.heap.size := by have := hbq.size; omega
      have x0 : wq.cell? ⟨w.heap.size, 0, none⟩ = some (.int .i64 (e 0)) := (hbq.cell (p := ⟨w.heap.size, 0, none⟩) hxW).trans y0
      have x1 : wq.cell? ⟨w.heap.size, 1, none⟩ = some (.int .i64 (e 1)) := (hbq.cell (p := ⟨w.heap.size, 1, none⟩) hxW).trans y1
      have x2 : wq.cell? ⟨w.heap.size, 2, none⟩ = some (.int .i64 (e 2)) := (hbq.cell (p := ⟨w.heap.size, 2, none⟩) hxW).trans y2
      have x3 : wq.cell? ⟨w.heap.size, 3, none⟩ = some (.int .i64 (e 3)) := (hbq.cell (p := ⟨w.heap.size, 3, none⟩) hxW).trans y3
      clear q0 q1 q2 q3 y0 y1 y2 y3
      clear q4 q5 q6 q7
      have hkn8 : k ≤ n := hk
      have sq0 : w1.heap.size ≤ wq.heap.size := hbel1.size
      go_upto_region 5 with fail
      go_cut [8] (fun s8 wx => ∃ A3 c3, s8 = .slice A3 (n + 1) c3 ∧ n + 1 ≤ c3 ∧ c3 ≤ 9223372036854775807 ∧ Own w.heap.size wx 4 A3 (n + 1) (insL es (plc es e n) e) ∧ Below w.heap.size w wx ∧ Below w1.heap.size w1 wx)
      case first =>
        go_region_held3 (fun w' => w'.cell? ⟨w.heap.size, 0, none⟩ = some (.int .i64 (e 0)) ∧ w'.cell? ⟨w.heap.size, 1, none⟩ = some (.int .i64 (e 1)) ∧ w'.cell? ⟨w.heap.size, 2, none⟩ = some (.int .i64 (e 2)) ∧ w'.cell? ⟨w.heap.size, 3, none⟩ = some (.int .i64 (e 3))) ((first | (go_keep; done) | (go_simp; done))) (first
          | (go_at_call 50; refine (copyEntries_any _ n c es _ (by omega) (H.out.below (by (repeat (first | with_reducible exact Below.refl _ _ | with_reducible refine Below.drew ?_ | with_reducible refine below_drewN ?_ _ | (with_reducible refine bel_alloc ?_ ?_ _; (first | omega | (simp; omega) | simp)) | (with_reducible refine bel_set ?_ ?_ _; (first | omega | (simp; omega) | simp)) | (with_reducible refine bel_tr (by assumption) ?_ ?_; (first | omega | (simp; omega) | simp))))))).mono ?_; rintro y w2 ⟨v, rfl, o2, b2⟩; have s2 := b2.size; (try simp at s2); have O2 := Lib.hid o2; clear o2; have kc2 : ∀ o, w2.cell? ⟨w.heap.size, o, none⟩ = _ := (fun o => b2.cell (p := ⟨w.heap.size, o, none⟩) (by (first | omega | (simp; omega) | (solve | simp)))); have kb2 := fun (ho : _) => b2.block wq.heap.size ho)
          | (go_at_call 51; refine (insEntry_any wq.heap.size n k _ 1 v es e _ hn hkn8 HL.out (by first | exact O2.out.lower (by (first | omega | (simp; omega) | simp)) | exact World.ownsRow.alloc (O2.out.lower (by (first | omega | (simp; omega) | simp))) _) (by (first | omega | (simp; omega) | simp)) (by first | exact box_heap _ e | exact (kb2 (by (first | omega | (simp; omega) | simp))).trans (box_heap _ e)) (by first | (intro k hk; have := row_lt O2.out k hk; omega) | (intro k hk; have := row_ge O2.out (Nat.le_refl _) k hk; (try simp at this); omega))).mono ?_; rintro y w3 ⟨A3, c3, rfl, hc3, hc4, o3, b3⟩; have s3 := b3.size; (try simp at s3); have O3 := Lib.hid (o3.lower_ (B' := w.heap.size) (by (first | omega | (simp; omega) | simp))); clear o3; have kc4 := fun (o : Nat) => b3.cell (p := ⟨w.heap.size, o, none⟩) hxq))
        all_goals (go_wp2_with fail; go_meet; rw [HP.out] at O3; exact ⟨A3, c3, rfl, hc3, hc4, O3.out, by (repeat (first | with_reducible exact Below.refl _ _ | with_reducible refine Below.drew ?_ | with_reducible refine below_drewN ?_ _ | (with_reducible refine bel_alloc ?_ ?_ _; (first | omega | (simp; omega) | simp)) | (with_reducible refine bel_set ?_ ?_ _; (first | omega | (simp; omega) | simp)) | (with_reducible refine bel_tr (by assumption) ?_ ?_; (first | omega | (simp; omega) | simp)))), by (repeat (first | with_reducible exact Below.refl _ _ | with_reducible refine Below.drew ?_ | with_reducible refine below_drewN ?_ _ | (with_reducible refine bel_alloc ?_ ?_ _; (first | omega | (simp; omega) | simp)) | (with_reducible refine bel_set ?_ ?_ _; (first | omega | (simp; omega) | simp)) | (with_reducible refine bel_tr (by assumption) ?_ ?_; (first | omega | (simp; omega) | simp))))⟩)
      case rest =>
        obtain ⟨A3, c3, rfl, hc3, hc4, o3, b3, b13⟩ := hcut
        have O3 := Lib.hid o3
        have s3 := b3.size
        have s13 := b13.size
        clear o3
        go_wp2_with fail
        by_cases h1 : QOk es n
        · refine (ty (iQueueOk_any _ n c es _ (by omega) hnc (H.out.below (by (repeat (first | with_reducible exact Below.refl _ _ | with_reducible refine Below.drew ?_ | with_reducible refine below_drewN ?_ _ | (with_reducible refine bel_alloc ?_ ?_ _; (first | omega | (simp; omega) | simp)) | (with_reducible refine bel_set ?_ ?_ _; (first | omega | (simp; omega) | simp)) | (with_reducible refine bel_tr (by assumption) ?_ ?_; (first | omega | (simp; omega) | simp))))))) h1).mono ?_
          rintro y w4 ⟨rfl, b4⟩
          have s4 := b4.size
          go_wp2_with fail
          by_cases h2 : QOk (insL es (plc es e n) e) (n + 1)
          · refine (ty (iQueueOk_any A3 (n + 1) c3 (insL es (plc es e n) e) _ (by omega) hc3 (O3.out.rd.below (by (repeat (first | with_reducible exact Below.refl _ _ | with_reducible refine Below.drew ?_ | with_reducible refine below_drewN ?_ _ | (with_reducible refine bel_alloc ?_ ?_ _; (first | omega | (simp; omega) | simp)) | (with_reducible refine bel_set ?_ ?_ _; (first | omega | (simp; omega) | simp)) | (with_reducible refine bel_tr (by assumption) ?_ ?_; (first | omega | (simp; omega) | simp))))))) h2).mono ?_
            rintro y w5 ⟨rfl, b5⟩
            have s5 := b5.size
            go_wp2
            go_ret2
            rcases hR with ⟨_, rfl, rfl, rfl⟩ | ⟨h3, _⟩
            · exact ⟨A3, c3, rfl, ⟨hc3, hc4⟩, O3.out.below (by (repeat (first | with_reducible exact Below.refl _ _ | with_reducible refine Below.drew ?_ | with_reducible refine below_drewN ?_ _ | (with_reducible refine bel_alloc ?_ ?_ _; (first | omega | (simp; omega) | simp)) | (with_reducible refine bel_set ?_ ?_ _; (first | omega | (simp; omega) | simp)) | (with_reducible refine bel_tr (by assumption) ?_ ?_; (first | omega | (simp; omega) | simp))))), by (repeat (first | with_reducible exact Below.refl _ _ | with_reducible refine Below.drew ?_ | with_reducible refine below_drewN ?_ _ | (with_reducible refine bel_alloc ?_ ?_ _; (first | omega | (simp; omega) | simp)) | (with_reducible refine bel_set ?_ ?_ _; (first | omega | (simp; omega) | simp)) | (with_reducible refine bel_tr (by assumption) ?_ ?_; (first | omega | (simp; omega) | simp))))⟩
            · exact absurd ⟨h1, h2⟩ h3
          · refine (tn (iQueueOk_any A3 (n + 1) c3 (insL es (plc es e n) e) _ (by omega) hc3 (O3.out.rd.below (by (repeat (first | with_reducible exact Below.refl _ _ | with_reducible refine Below.drew ?_ | with_reducible refine below_drewN ?_ _ | (with_reducible refine bel_alloc ?_ ?_ _; (first | omega | (simp; omega) | simp)) | (with_reducible refine bel_set ?_ ?_ _; (first | omega | (simp; omega) | simp)) | (with_reducible refine bel_tr (by assumption) ?_ ?_; (first | omega | (simp; omega) | simp))))))) h2).mono ?_
            rintro y w5 ⟨rfl, b5⟩
            have s5 := b5.size
            go_wp2
            go_ret2
            rcases hR with ⟨h3, _⟩ | ⟨_, rfl, rfl, rfl⟩
            · exact absurd h3 (fun h3 => h2 h3.2)
            · have q6 := row_below O1.out (show Below w1.heap.size w1 w5 from by (repeat (first | with_reducible exact Below.refl _ _ | with_reducible refine Below.drew ?_ | with_reducible refine below_drewN ?_ _ | (with_reducible refine bel_alloc ?_ ?_ _; (first | omega | (simp; omega) | simp)) | (with_reducible refine bel_set ?_ ?_ _; (first | omega | (simp; omega) | simp)) | (with_reducible refine bel_tr (by assumption) ?_ ?_; (first | omega | (simp; omega) | simp)))))
              obtain ⟨A6, c6, rfl, hd6, he6, q7⟩ := own_of_row_cap HL.out q6
              exact ⟨A6, c6, rfl, ⟨hd6, he6⟩, q7.lower_ (by (first | omega | (simp; omega) | simp)), by (repeat (first | with_reducible exact Below.refl _ _ | with_reducible refine Below.drew ?_ | with_reducible refine below_drewN ?_ _ | (with_reducible refine bel_alloc ?_ ?_ _; (first | omega | (simp; omega) | simp)) | (with_reducible refine bel_set ?_ ?_ _; (first | omega | (simp; omega) | simp)) | (with_reducible refine bel_tr (by assumption) ?_ ?_; (first | omega | (simp; omega) | simp))))⟩
        · refine (tn (iQueueOk_any _ n c es _ (by omega) hnc (H.out.below (by (repeat (first | with_reducible exact Below.refl _ _ | with_reducible refine Below.drew ?_ | with_reducible refine below_drewN ?_ _ | (with_reducible refine bel_alloc ?_ ?_ _; (first | omega | (simp; omega) | simp)) | (with_reducible refine bel_set ?_ ?_ _; (first | omega | (simp; omega) | simp)) | (with_reducible refine bel_tr (by assumption) ?_ ?_; (first | omega | (simp; omega) | simp))))))) h1).mono ?_
          rintro y w5 ⟨rfl, b5⟩
          have s5 := b5.size
          go_wp2
          go_ret2
          rcases hR with ⟨h3, _⟩ | ⟨_, rfl, rfl, rfl⟩
          · exact absurd h3 (fun h3 => h1 h3.1)
          · have q6 := row_below O1.out (show Below w1.heap.size w1 w5 from by (repeat (first | with_reducible exact Below.refl _ _ | with_reducible refine Below.drew ?_ | with_reducible refine below_drewN ?_ _ | (with_reducible refine bel_alloc ?_ ?_ _; (first | omega | (simp; omega) | simp)) | (with_reducible refine bel_set ?_ ?_ _; (first | omega | (simp; omega) | simp)) | (with_reducible refine bel_tr (by assumption) ?_ ?_; (first | omega | (simp; omega) | simp)))))
            obtain ⟨A6, c6, rfl, hd6, he6, q7⟩ := own_of_row_cap HL.out q6
            exact ⟨A6, c6, rfl, ⟨hd6, he6⟩, q7.lower_ (by (first | omega | (simp; omega) | simp)), by (repeat (first | with_reducible exact Below.refl _ _ | with_reducible refine Below.drew ?_ | with_reducible refine below_drewN ?_ _ | (with_reducible refine bel_alloc ?_ ?_ _; (first | omega | (simp; omega) | simp)) | (with_reducible refine bel_set ?_ ?_ _; (first | omega | (simp; omega) | simp)) | (with_reducible refine bel_tr (by assumption) ?_ ?_; (first | omega | (simp; omega) | simp))))⟩
set_option maxHeartbeats 1000000 in
theorem iQueueCut_c (A : Option Addr) (n c k : Nat) (id : Int) (es : List (Nat → Int)) (w : World) (hn : n ≤ 4194304) (h : Rd w 4 A n es) (hk : k < n) (hp : hasId es id k = true) (hb : ∀ i, i < k → hasId es id i = false) :
    Calls Try.prog 28 #[.slice A n c, .int .i64 id] w fun y w' => ∃ A' c', y = .returned (.tuple #[.slice A' (n - 1) c', .bool true]) ∧ (n - 1 ≤ c' ∧ c' ≤ 9223372036854775807) ∧ Own w.heap.size w' 4 A' (n - 1) (cutL es k) ∧ Below w.heap.size w w' := by
  have HL := Lib.hid h.1
  have H := Lib.hid h
  have HF : Hid (FirstAt (hasId es id) n (k : Int)) := .inl ⟨k, hk, rfl, hp, hb⟩
  clear h hp hb
  have e1 := wrap_add1 k (by omega)
  go_enter Try.func28, Try.ntmps28
  go_wp2_with fail
  refine (copyEntries_any A n c es _ hn H.out).mono ?_
  rintro y w1 ⟨v, rfl, o1, b1⟩
  have s1 := b1.size
  obtain ⟨g, cap, rfl, hnc, hcm, p1⟩ := row_pos (by omega) (by omega) HL.out o1
  have P1 := Lib.hid p1
  clear o1 p1
  go_wp2_with fail
  refine (iQueueAt_any A n c id es _ hn (H.out.below b1)).mono ?_
  rintro y w2 ⟨r, hr, rfl, b2⟩
  obtain rfl : r = (k : Int) := hr.uniq HF.out
  clear hr
  have s2 := b2.size
  go_wp2_with fail
  refine (delEntry_any w.heap.size g 0 cap n k es _ hk hnc hcm hn (P1.out.below b2)).mono ?_
  rintro y w3 ⟨rfl, o3, b3⟩
  have O3 := Lib.hid o3
  clear o3
  go_wp2
  go_ret2
  exact ⟨_, _, rfl, ⟨by omega, hcm⟩, O3.out, by (repeat (first | with_reducible exact Below.refl _ _ | with_reducible refine Below.drew ?_ | with_reducible refine below_drewN ?_ _ | (with_reducible refine bel_alloc ?_ ?_ _; (first | omega | (simp; omega) | simp)) | (with_reducible refine bel_set ?_ ?_ _; (first | omega | (simp; omega) | simp)) | (with_reducible refine bel_tr (by assumption) ?_ ?_; (first | omega | (simp; omega) | simp))))⟩

end Go.Proofs.Ytccabkmmlddenaa

namespace Go.Proofs.Ytccabkmmlddenaa
open Go.RowKit

def SamE (es es2 : List (Nat → Int)) : Prop := es.length = es2.length ∧ ∀ i, i < es.length → fld es i 0 = fld es2 i 0 ∧ fld es i 1 = fld es2 i 1 ∧ fld es i 2 = fld es2 i 2 ∧ fld es i 3 = fld es2 i 3
theorem SamE.of_eq {es es2 : List (Nat → Int)} (h : es = es2) : SamE es es2 := by
  subst h
  exact ⟨rfl, fun _ _ => ⟨rfl, rfl, rfl, rfl⟩⟩
end Go.Proofs.Ytccabkmmlddenaa

namespace Go.Proofs.Ytccabkmmlddenaa
open Go.RowKit

set_option maxRecDepth 100000 in
set_option maxHeartbeats 8000000 in
theorem lawSameRow_any (A A2 : Option Addr) (n c n2 c2 : Nat) (es es2 : List (Nat → Int)) (w : World) (hn : n ≤ 4194304) (hn2 : n2 ≤ 4194304) (h : Rd w 4 A n es) (h2 : Rd w 4 A2 n2 es2) :
    Calls Try.prog 31 #[.slice A n c, .slice A2 n2 c2] w (TFB (SamE es es2) w) := by
  have H := Lib.hid h
  have H2 := Lib.hid h2
  clear h h2
  by_cases hnn : n = n2
  case neg =>
    have hni : ¬ (n : Int) = (n2 : Int) := by omega
    have hF : Hid (¬ SamE es es2) := Lib.hid fun h => hnn (by rw [← H.out.1, ← H2.out.1]; exact h.1)
    go_enter Try.func31, Try.ntmps31
    go_wp2
    go_ret
    exact .inr ⟨rfl, hF.out, by (repeat (first | with_reducible exact Below.refl _ _ | with_reducible refine Below.drew ?_ | with_reducible refine below_drewN ?_ _ | (with_reducible refine bel_alloc ?_ ?_ _; (first | omega | (simp; omega) | simp)) | (with_reducible refine bel_set ?_ ?_ _; (first | omega | (simp; omega) | simp)) | (with_reducible refine bel_tr (by assumption) ?_ ?_; (first | omega | (simp; omega) | simp))))⟩
  subst hnn
  go_enter Try.func31, Try.ntmps31
  go_wp2
  go_loopw [4, 5] (fun _ i wr => ∃ k : Nat, k ≤ n ∧ i = .int .i64 k ∧ Hid (∀ j, j < k → fld es j 0 = fld es2 j 0 ∧ fld es j 1 = fld es2 j 1 ∧ fld es j 2 = fld es2 j 2 ∧ fld es j 3 = fld es2 j 3) ∧ Below w.heap.size w wr) (fun _ i _ => n - (intOf i).toNat)
  case atStart => exact ⟨0, Nat.zero_le _, rfl, Lib.hid (fun i hi => absurd hi (by omega)), by (repeat (first | with_reducible exact Below.refl _ _ | with_reducible refine Below.drew ?_ | with_reducible refine below_drewN ?_ _ | (with_reducible refine bel_alloc ?_ ?_ _; (first | omega | (simp; omega) | simp)) | (with_reducible refine bel_set ?_ ?_ _; (first | omega | (simp; omega) | simp)) | (with_reducible refine bel_tr (by assumption) ?_ ?_; (first | omega | (simp; omega) | simp))))⟩
  case round =>
    obtain ⟨k, hk, rfl, HQ, hbel⟩ := hrel
    by_cases hlt : k < n
    case neg =>
      have hkn : k = n := by omega
      have hki : ¬ (k : Int) < (n : Int) := by omega
      have hT : Hid (SamE es es2) := Lib.hid ⟨by rw [H.out.1, H2.out.1], fun i hi => HQ.out i (by rw [H.out.1] at hi; omega)⟩
      go_wp2
      go_ret
      exact .inl ⟨rfl, hT.out, hbel⟩
    have hki : (k : Int) < (n : Int) := by omega
    have hk0 : (0 : Int) ≤ (k : Int) := by omega
    obtain ⟨b, off, rfl, hb, hc⟩ := (H.out.below hbel).2.resolve_left (by omega)
    obtain ⟨b2, off2, rfl, hb2, hc2⟩ := (H2.out.below hbel).2.resolve_left (by omega)
    have c0 : wr.cell? ⟨b, off + k * 4, none⟩ = some (.int .i64 (fld es k 0)) := hc k hlt 0 (by omega)
    have c1 : wr.cell? ⟨b, off + k * 4 + 1, none⟩ = some (.int .i64 (fld es k 1)) := hc k hlt 1 (by omega)
    have c2 : wr.cell? ⟨b, off + k * 4 + 2, none⟩ = some (.int .i64 (fld es k 2)) := hc k hlt 2 (by omega)
    have c3 : wr.cell? ⟨b, off + k * 4 + 3, none⟩ = some (.int .i64 (fld es k 3)) := hc k hlt 3 (by omega)
    have d0 : wr.cell? ⟨b2, off2 + k * 4, none⟩ = some (.int .i64 (fld es2 k 0)) := hc2 k hlt 0 (by omega)
    have d1 : wr.cell? ⟨b2, off2 + k * 4 + 1, none⟩ = some (.int .i64 (fld es2 k 1)) := hc2 k hlt 1 (by omega)
    have d2 : wr.cell? ⟨b2, off2 + k * 4 + 2, none⟩ = some (.int .i64 (fld es2 k 2)) := hc2 k hlt 2 (by omega)
    have d3 : wr.cell? ⟨b2, off2 + k * 4 + 3, none⟩ = some (.int .i64 (fld es2 k 3)) := hc2 k hlt 3 (by omega)
    clear hc hc2
    by_cases e0 : fld es k 0 = fld es2 k 0
    case neg =>
      have hF : Hid (¬ SamE es es2) := Lib.hid fun h => e0 (h.2 k (by rw [H.out.1]; omega)).1
      go_wp2
      go_region
      all_goals
        go_wp2
        go_ret
        exact .inr ⟨rfl, hF.out, by (repeat (first | with_reducible exact Below.refl _ _ | with_reducible refine Below.drew ?_ | with_reducible refine below_drewN ?_ _ | (with_reducible refine bel_alloc ?_ ?_ _; (first | omega | (simp; omega) | simp)) | (with_reducible refine bel_set ?_ ?_ _; (first | omega | (simp; omega) | simp)) | (with_reducible refine bel_tr (by assumption) ?_ ?_; (first | omega | (simp; omega) | simp))))⟩
    by_cases e1 : fld es k 1 = fld es2 k 1
    case neg =>
      have hF : Hid (¬ SamE es es2) := Lib.hid fun h => e1 (h.2 k (by rw [H.out.1]; omega)).2.1
      go_wp2
      go_region
      all_goals
        go_wp2
        go_ret
        exact .inr ⟨rfl, hF.out, by (repeat (first | with_reducible exact Below.refl _ _ | with_reducible refine Below.drew ?_ | with_reducible refine below_drewN ?_ _ | (with_reducible refine bel_alloc ?_ ?_ _; (first | omega | (simp; omega) | simp)) | (with_reducible refine bel_set ?_ ?_ _; (first | omega | (simp; omega) | simp)) | (with_reducible refine bel_tr (by assumption) ?_ ?_; (first | omega | (simp; omega) | simp))))⟩
    by_cases e2 : fld es k 2 = fld es2 k 2
    case neg =>
      have hF : Hid (¬ SamE es es2) := Lib.hid fun h => e2 (h.2 k (by rw [H.out.1]; omega)).2.2.1
      go_wp2
      go_region
      all_goals
        go_wp2
        go_ret
        exact .inr ⟨rfl, hF.out, by (repeat (first | with_reducible exact Below.refl _ _ | with_reducible refine Below.drew ?_ | with_reducible refine below_drewN ?_ _ | (with_reducible refine bel_alloc ?_ ?_ _; (first | omega | (simp; omega) | simp)) | (with_reducible refine bel_set ?_ ?_ _; (first | omega | (simp; omega) | simp)) | (with_reducible refine bel_tr (by assumption) ?_ ?_; (first | omega | (simp; omega) | simp))))⟩
    by_cases e3 : fld es k 3 = fld es2 k 3
    case neg =>
      have hF : Hid (¬ SamE es es2) := Lib.hid fun h => e3 (h.2 k (by rw [H.out.1]; omega)).2.2.2
      go_wp2
      go_region
      all_goals
        go_wp2
        go_ret
        exact .inr ⟨rfl, hF.out, by (repeat (first | with_reducible exact Below.refl _ _ | with_reducible refine Below.drew ?_ | with_reducible refine below_drewN ?_ _ | (with_reducible refine bel_alloc ?_ ?_ _; (first | omega | (simp; omega) | simp)) | (with_reducible refine bel_set ?_ ?_ _; (first | omega | (simp; omega) | simp)) | (with_reducible refine bel_tr (by assumption) ?_ ?_; (first | omega | (simp; omega) | simp))))⟩
    have HQ2 : Hid (∀ j, j < k + 1 → fld es j 0 = fld es2 j 0 ∧ fld es j 1 = fld es2 j 1 ∧ fld es j 2 = fld es2 j 2 ∧ fld es j 3 = fld es2 j 3) := fun j hj => by
      by_cases h1 : j < k
      · exact HQ.out j h1
      · obtain rfl : j = k := by omega
        exact ⟨e0, e1, e2, e3⟩
    go_wp2
    go_region
    all_goals
      go_wp2
      go_roundw
      case rel => exact ⟨k + 1, by omega, by go_num, HQ2, by (repeat (first | with_reducible exact Below.refl _ _ | with_reducible refine Below.drew ?_ | with_reducible refine below_drewN ?_ _ | (with_reducible refine bel_alloc ?_ ?_ _; (first | omega | (simp; omega) | simp)) | (with_reducible refine bel_set ?_ ?_ _; (first | omega | (simp; omega) | simp)) | (with_reducible refine bel_tr (by assumption) ?_ ?_; (first | omega | (simp; omega) | simp))))⟩
      case measure => simp [intOf]; omega

end Go.Proofs.Ytccabkmmlddenaa

namespace Go.Proofs.Ytccabkmmlddenaa
open Go.RowKit

set_option maxRecDepth 100000 in
set_option maxHeartbeats 16000000 in
theorem lawFnQueueKept (A : Option Addr) (n c : Nat) (w : World) (hn0 : n ≤ 9223372036854775807) (hB : RdB w A n) :
    Calls Try.prog 5 #[.slice A n c] w fun y w' => y = .returned (.bool true) ∧ Below w.heap.size w w' := by
  by_cases hn : n ≤ 1048576
  case neg =>
    have hbig : decide (1048576 < n) = true := by simp; omega
    go_enter Try.func5, Try.ntmps5
    go_wp2_with fail
    refine (big_any A n c _).mono ?_
    rintro y _ ⟨rfl, rfl⟩
    go_wp2
    go_ret
    exact ⟨rfl, Below.refl _ _⟩
  obtain ⟨i0, hI0, hz0, hz1, hz2⟩ := info_parts party_info
  have HB := Lib.hid hB
  clear hB
  have hbig : decide (1048576 < n) = false := by simpa using hn
  go_enter Try.func5, Try.ntmps5
  go_wp2_with fail
  refine (big_any A n c _).mono ?_
  rintro y _ ⟨rfl, rfl⟩
  go_wp2_with fail
  refine (drawQueueOf_any A n c _ hn HB.out).mono ?_
  rintro y w1 ⟨A1, n1, cr, r, es, P, m, pc, ps, cab, now, rfl, hn1, hnc1, hR, hm7, hmc, hcm, ho1, hop, hb1, hsh⟩
  clear hsh hR
  have hn4 : n1 ≤ 4194304 := by omega
  have s1 := hb1.size
  go_upto_region 4 with fail
  generalize hw2 : w1.alloc (.cells #[.slice A1 n1 cr, .int .i64 (r 1), .int .i64 (r 2), .int .i64 (r 3), .int .i64 (r 4), .int .i64 (r 5), .int .i64 (r 6), .int .i64 (r 7), .int .i64 (r 8)] 30) = w2
  have HX : Hid (Bx w2 w1.heap.size 9 (rv A1 n1 cr r)) := Lib.hid (hw2 ▸ Bx.rules w1 30 A1 n1 cr r)
  have H : Hid (Rd w2 1 A1 n1 es) := Lib.hid (hw2 ▸ (ho1.alloc_ _).rd)
  have HP : Hid (Rd w2 10 P m ps) := Lib.hid (hw2 ▸ (hop.alloc_ _).rd)
  have HB1 : Hid (Below w.heap.size w w2) := Lib.hid (hw2 ▸ bel_alloc (by omega) hb1 _)
  have s2 : w2.heap.size = w1.heap.size + 1 := by rw [← hw2]; simp
  have HBW : Hid (RdB w2 A n) := Lib.hid (HB.out.below HB1.out)
  have HS2 := Lib.hid s2
  have s2b : w1.heap.size < w2.heap.size := by omega
  clear hw2 ho1 hop hb1 s2
  go_wp2
  go_loopw [2, 7, 8, 9] (fun z2 z7 z8 z9 wr => ∃ (i q cq : Nat) (A2 : Option Addr) (row ks : List (Nat → Int)), i ≤ m ∧ z9 = .int .i64 i ∧ z2 = .bool false ∧ z7 = .slice A2 q cq ∧ q ≤ cq ∧ cq ≤ 9223372036854775807 ∧ q ≤ i ∧ Hid (Own w1.heap.size wr 4 A2 q row) ∧ Hid (wr.ownsRow (w2.heap.size + 1) 50 10 z8 ks.length (flat 10 ks)) ∧ Hid (Kept row ks n1 es r now cab) ∧ Below w2.heap.size w2 wr) (fun _ _ _ z9 _ => m - (intOf z9).toNat)
  case atStart => exact ⟨0, 0, 0, some ⟨w2.heap.size, 0, none⟩, [], [], Nat.zero_le _, rfl, rfl, rfl, Nat.le_refl _, by omega, Nat.le_refl _, Lib.hid ⟨rfl, .inl rfl⟩, Lib.hid (row_empty1 (w2.alloc _) _ 10 (by simp)), Lib.hid Kept.nil, by (repeat (first | with_reducible exact Below.refl _ _ | with_reducible refine Below.drew ?_ | with_reducible refine below_drewN ?_ _ | (with_reducible refine bel_alloc ?_ ?_ _; (first | omega | (simp; omega) | simp)) | (with_reducible refine bel_set ?_ ?_ _; (first | omega | (simp; omega) | simp)) | (with_reducible refine bel_tr (by assumption) ?_ ?_; (first | omega | (simp; omega) | simp))))⟩
  case round =>
    obtain ⟨i, q, cq, A2, row, ks, hi, rfl, rfl, rfl, hqc, hcq, hqi, HO, HR, HKP, hbel⟩ := hrel
    have hsz := hbel.size
    by_cases hlt : i < m
    case pos =>
      have hii : (i : Int) < (m : Int) := by omega
      have hi0 : (0 : Int) ≤ (i : Int) := by omega
      obtain ⟨b, off, rfl, hb, hc0⟩ := HP.out.2.resolve_left (by omega)
      have hc := Lib.hid hc0
      clear hc0
      have c0 : wr.cell? ⟨b, off + i * 10, none⟩ = some (.int .i64 (fld ps i 0)) := (hbel.cell (p := ⟨b, off + i * 10, none⟩) hb).trans (hc.out i hlt 0 (by omega))
      have c1 : wr.cell? ⟨b, off + i * 10 + 1, none⟩ = some (.int .i64 (fld ps i 1)) := (hbel.cell (p := ⟨b, off + i * 10 + 1, none⟩) hb).trans (hc.out i hlt 1 (by omega))
      have c2 : wr.cell? ⟨b, off + i * 10 + 2, none⟩ = some (.int .i64 (fld ps i 2)) := (hbel.cell (p := ⟨b, off + i * 10 + 2, none⟩) hb).trans (hc.out i hlt 2 (by omega))
      have c3 : wr.cell? ⟨b, off + i * 10 + 3, none⟩ = some (.int .i64 (fld ps i 3)) := (hbel.cell (p := ⟨b, off + i * 10 + 3, none⟩) hb).trans (hc.out i hlt 3 (by omega))
      have c4 : wr.cell? ⟨b, off + i * 10 + 4, none⟩ = some (.int .i64 (fld ps i 4)) := (hbel.cell (p := ⟨b, off + i * 10 + 4, none⟩) hb).trans (hc.out i hlt 4 (by omega))
      have c5 : wr.cell? ⟨b, off + i * 10 + 5, none⟩ = some (.int .i64 (fld ps i 5)) := (hbel.cell (p := ⟨b, off + i * 10 + 5, none⟩) hb).trans (hc.out i hlt 5 (by omega))
      have c6 : wr.cell? ⟨b, off + i * 10 + 6, none⟩ = some (.int .i64 (fld ps i 6)) := (hbel.cell (p := ⟨b, off + i * 10 + 6, none⟩) hb).trans (hc.out i hlt 6 (by omega))
      have c7 : wr.cell? ⟨b, off + i * 10 + 7, none⟩ = some (.int .i64 (fld ps i 7)) := (hbel.cell (p := ⟨b, off + i * 10 + 7, none⟩) hb).trans (hc.out i hlt 7 (by omega))
      have c8 : wr.cell? ⟨b, off + i * 10 + 8, none⟩ = some (.int .i64 (fld ps i 8)) := (hbel.cell (p := ⟨b, off + i * 10 + 8, none⟩) hb).trans (hc.out i hlt 8 (by omega))
      have c9 : wr.cell? ⟨b, off + i * 10 + 9, none⟩ = some (.int .i64 (fld ps i 9)) := (hbel.cell (p := ⟨b, off + i * 10 + 9, none⟩) hb).trans (hc.out i hlt 9 (by omega))
      have XR := HX.out.below hbel
      have rc0 : _ = some (Value.slice A1 n1 cr) := XR.2.2 0 (by omega)
      have rc1 : _ = some (Value.int .i64 (r 1)) := XR.2.2 1 (by omega)
      have rc2 : _ = some (Value.int .i64 (r 2)) := XR.2.2 2 (by omega)
      have rc3 : _ = some (Value.int .i64 (r 3)) := XR.2.2 3 (by omega)
      have rc4 : _ = some (Value.int .i64 (r 4)) := XR.2.2 4 (by omega)
      have rc5 : _ = some (Value.int .i64 (r 5)) := XR.2.2 5 (by omega)
      have rc6 : _ = some (Value.int .i64 (r 6)) := XR.2.2 6 (by omega)
      have rc7 : _ = some (Value.int .i64 (r 7)) := XR.2.2 7 (by omega)
      have rc8 : _ = some (Value.int .i64 (r 8)) := XR.2.2 8 (by omega)
      have hxw : w1.heap.size < wr.heap.size := XR.1
      have hbw : b < wr.heap.size := by have := hbel.size; omega
      clear XR
      by_cases hE : entP n1 es r (fld ps i) now
      case neg =>
        go_upto_region 9 with fail
        go_cut [10, 11] (fun s11 s12 wx => ∃ b11 : Nat, s11 = .pointer (some ⟨b11, 0, none⟩) ∧ s12 = .bool false ∧ wr.heap.size ≤ b11 ∧ b11 < wx.heap.size ∧ wx.cell? ⟨b11, 0, none⟩ = some (.int .i64 (0)) ∧ wx.cell? ⟨b11, 1, none⟩ = some (.int .i64 (0)) ∧ wx.cell? ⟨b11, 2, none⟩ = some (.int .i64 (0)) ∧ wx.cell? ⟨b11, 3, none⟩ = some (.int .i64 (0)) ∧ Hid (Below wr.heap.size wr wx))
        case first =>
          go_region_held3 (fun w' => w'.cell? ⟨w1.heap.size, 0, none⟩ = some (.slice A1 n1 cr) ∧ w'.cell? ⟨w1.heap.size, 1, none⟩ = some (.int .i64 (r 1)) ∧ w'.cell? ⟨w1.heap.size, 2, none⟩ = some (.int .i64 (r 2)) ∧ w'.cell? ⟨w1.heap.size, 3, none⟩ = some (.int .i64 (r 3)) ∧ w'.cell? ⟨w1.heap.size, 4, none⟩ = some (.int .i64 (r 4)) ∧ w'.cell? ⟨w1.heap.size, 5, none⟩ = some (.int .i64 (r 5)) ∧ w'.cell? ⟨w1.heap.size, 6, none⟩ = some (.int .i64 (r 6)) ∧ w'.cell? ⟨w1.heap.size, 7, none⟩ = some (.int .i64 (r 7)) ∧ w'.cell? ⟨w1.heap.size, 8, none⟩ = some (.int .i64 (r 8)) ∧ w'.cell? ⟨b, off + i * 10, none⟩ = some (.int .i64 (fld ps i 0)) ∧ w'.cell? ⟨b, off + i * 10 + 1, none⟩ = some (.int .i64 (fld ps i 1)) ∧ w'.cell? ⟨b, off + i * 10 + 2, none⟩ = some (.int .i64 (fld ps i 2)) ∧ w'.cell? ⟨b, off + i * 10 + 3, none⟩ = some (.int .i64 (fld ps i 3)) ∧ w'.cell? ⟨b, off + i * 10 + 4, none⟩ = some (.int .i64 (fld ps i 4)) ∧ w'.cell? ⟨b, off + i * 10 + 5, none⟩ = some (.int .i64 (fld ps i 5)) ∧ w'.cell? ⟨b, off + i * 10 + 6, none⟩ = some (.int .i64 (fld ps i 6)) ∧ w'.cell? ⟨b, off + i * 10 + 7, none⟩ = some (.int .i64 (fld ps i 7)) ∧ w'.cell? ⟨b, off + i * 10 + 8, none⟩ = some (.int .i64 (fld ps i 8)) ∧ w'.cell? ⟨b, off + i * 10 + 9, none⟩ = some (.int .i64 (fld ps i 9))) ((first | (go_keep; done) | (go_simp; done))) ((go_at_call 24; refine (vpn (impl_EntryOf A1 n1 cr es r (fld ps i) now _ hn4 (H.out.below (by (repeat (first | with_reducible exact Below.refl _ _ | with_reducible refine Below.drew ?_ | with_reducible refine below_drewN ?_ _ | (with_reducible refine bel_alloc ?_ ?_ _; (first | omega | (simp; omega) | simp)) | (with_reducible refine bel_set ?_ ?_ _; (first | omega | (simp; omega) | simp)) | (with_reducible refine bel_tr (by assumption) ?_ ?_; (first | omega | (simp; omega) | simp))))))) hE).mono ?_; rintro y w9 ⟨rfl, b9⟩; have s9 := b9.size; (try simp at s9); have kr9 : ∀ o, w9.cell? ⟨w1.heap.size, o, none⟩ = _ := (fun o => b9.cell (p := ⟨w1.heap.size, o, none⟩) (by (first | omega | (simp; omega) | simp))); have kb9 : ∀ o, w9.cell? ⟨b, o, none⟩ = _ := (fun o => b9.cell (p := ⟨b, o, none⟩) (by (first | omega | (simp; omega) | simp))); have kw9 := (fun (hh : wr.heap.size < _) (o : Nat) => b9.cell (p := ⟨wr.heap.size, o, none⟩) hh); have kf9 := (fun (hh : wr.heap.size < _) (o : Nat) => b9.frozen (p := ⟨wr.heap.size, o, none⟩) hh); have kz9 : w1.heap.size < w9.heap.size := (by omega); have ky9 : b < w9.heap.size := (by omega)))
          all_goals
            go_wp2_with fail
            go_meet
            exact ⟨_, rfl, rfl, by (first | omega | (simp; omega) | simp), by (first | omega | (simp; omega) | simp), by (first | (go_keep; done) | (go_simp; done)), by (first | (go_keep; done) | (go_simp; done)), by (first | (go_keep; done) | (go_simp; done)), by (first | (go_keep; done) | (go_simp; done)), Lib.hid (by (repeat (first | with_reducible exact Below.refl _ _ | with_reducible refine Below.drew ?_ | with_reducible refine below_drewN ?_ _ | (with_reducible refine bel_alloc ?_ ?_ _; (first | omega | (simp; omega) | simp)) | (with_reducible refine bel_set ?_ ?_ _; (first | omega | (simp; omega) | simp)) | (with_reducible refine bel_tr (by assumption) ?_ ?_; (first | omega | (simp; omega) | simp)))))⟩
        case rest =>
          obtain ⟨bq, rfl, rfl, hbq1, hbq2, x0, x1, x2, x3, HBx⟩ := hcut
          have hsx := HBx.out.size
          have hbelx : Below w2.heap.size w2 wc := hbel.trans (HBx.out.mono hsz)
          clear c0 c1 c2 c3 c4 c5 c6 c7 c8 c9 rc0 rc1 rc2 rc3 rc4 rc5 rc6 rc7 rc8
          obtain ⟨w4, hw4⟩ : ∃ w4, w4 = wc := ⟨wc, rfl⟩
          subst hw4
          have hs4 := hbelx.size
          have c0 : w4.cell? ⟨b, off + i * 10, none⟩ = some (.int .i64 (fld ps i 0)) := (hbelx.cell (p := ⟨b, off + i * 10, none⟩) hb).trans (hc.out i hlt 0 (by omega))
          have c1 : w4.cell? ⟨b, off + i * 10 + 1, none⟩ = some (.int .i64 (fld ps i 1)) := (hbelx.cell (p := ⟨b, off + i * 10 + 1, none⟩) hb).trans (hc.out i hlt 1 (by omega))
          have c2 : w4.cell? ⟨b, off + i * 10 + 2, none⟩ = some (.int .i64 (fld ps i 2)) := (hbelx.cell (p := ⟨b, off + i * 10 + 2, none⟩) hb).trans (hc.out i hlt 2 (by omega))
          have c3 : w4.cell? ⟨b, off + i * 10 + 3, none⟩ = some (.int .i64 (fld ps i 3)) := (hbelx.cell (p := ⟨b, off + i * 10 + 3, none⟩) hb).trans (hc.out i hlt 3 (by omega))
          have c4 : w4.cell? ⟨b, off + i * 10 + 4, none⟩ = some (.int .i64 (fld ps i 4)) := (hbelx.cell (p := ⟨b, off + i * 10 + 4, none⟩) hb).trans (hc.out i hlt 4 (by omega))
          have c5 : w4.cell? ⟨b, off + i * 10 + 5, none⟩ = some (.int .i64 (fld ps i 5)) := (hbelx.cell (p := ⟨b, off + i * 10 + 5, none⟩) hb).trans (hc.out i hlt 5 (by omega))
          have c6 : w4.cell? ⟨b, off + i * 10 + 6, none⟩ = some (.int .i64 (fld ps i 6)) := (hbelx.cell (p := ⟨b, off + i * 10 + 6, none⟩) hb).trans (hc.out i hlt 6 (by omega))
          have c7 : w4.cell? ⟨b, off + i * 10 + 7, none⟩ = some (.int .i64 (fld ps i 7)) := (hbelx.cell (p := ⟨b, off + i * 10 + 7, none⟩) hb).trans (hc.out i hlt 7 (by omega))
          have c8 : w4.cell? ⟨b, off + i * 10 + 8, none⟩ = some (.int .i64 (fld ps i 8)) := (hbelx.cell (p := ⟨b, off + i * 10 + 8, none⟩) hb).trans (hc.out i hlt 8 (by omega))
          have c9 : w4.cell? ⟨b, off + i * 10 + 9, none⟩ = some (.int .i64 (fld ps i 9)) := (hbelx.cell (p := ⟨b, off + i * 10 + 9, none⟩) hb).trans (hc.out i hlt 9 (by omega))
          have XR := HX.out.below hbelx
          have rc0 : _ = some (Value.slice A1 n1 cr) := XR.2.2 0 (by omega)
          have rc1 : _ = some (Value.int .i64 (r 1)) := XR.2.2 1 (by omega)
          have rc2 : _ = some (Value.int .i64 (r 2)) := XR.2.2 2 (by omega)
          have rc3 : _ = some (Value.int .i64 (r 3)) := XR.2.2 3 (by omega)
          have rc4 : _ = some (Value.int .i64 (r 4)) := XR.2.2 4 (by omega)
          have rc5 : _ = some (Value.int .i64 (r 5)) := XR.2.2 5 (by omega)
          have rc6 : _ = some (Value.int .i64 (r 6)) := XR.2.2 6 (by omega)
          have rc7 : _ = some (Value.int .i64 (r 7)) := XR.2.2 7 (by omega)
          have rc8 : _ = some (Value.int .i64 (r 8)) := XR.2.2 8 (by omega)
          have hxw : w1.heap.size < w4.heap.size := XR.1
          have hbw : b < w4.heap.size := by have := hbelx.size; omega
          clear XR
          go_upto_region 10 with fail
          go_cut [12, 13] (fun s11 s12 wx => ∃ b11 : Nat, s11 = .pointer (some ⟨b11, 0, none⟩) ∧ s12 = .bool false ∧ w4.heap.size ≤ b11 ∧ b11 < wx.heap.size ∧ wx.cell? ⟨b11, 0, none⟩ = some (.int .i64 (0)) ∧ wx.cell? ⟨b11, 1, none⟩ = some (.int .i64 (0)) ∧ wx.cell? ⟨b11, 2, none⟩ = some (.int .i64 (0)) ∧ wx.cell? ⟨b11, 3, none⟩ = some (.int .i64 (0)) ∧ Hid (Below w4.heap.size w4 wx))
          case first =>
            go_region_held3 (fun w' => w'.cell? ⟨w1.heap.size, 0, none⟩ = some (.slice A1 n1 cr) ∧ w'.cell? ⟨w1.heap.size, 1, none⟩ = some (.int .i64 (r 1)) ∧ w'.cell? ⟨w1.heap.size, 2, none⟩ = some (.int .i64 (r 2)) ∧ w'.cell? ⟨w1.heap.size, 3, none⟩ = some (.int .i64 (r 3)) ∧ w'.cell? ⟨w1.heap.size, 4, none⟩ = some (.int .i64 (r 4)) ∧ w'.cell? ⟨w1.heap.size, 5, none⟩ = some (.int .i64 (r 5)) ∧ w'.cell? ⟨w1.heap.size, 6, none⟩ = some (.int .i64 (r 6)) ∧ w'.cell? ⟨w1.heap.size, 7, none⟩ = some (.int .i64 (r 7)) ∧ w'.cell? ⟨w1.heap.size, 8, none⟩ = some (.int .i64 (r 8)) ∧ w'.cell? ⟨b, off + i * 10, none⟩ = some (.int .i64 (fld ps i 0)) ∧ w'.cell? ⟨b, off + i * 10 + 1, none⟩ = some (.int .i64 (fld ps i 1)) ∧ w'.cell? ⟨b, off + i * 10 + 2, none⟩ = some (.int .i64 (fld ps i 2)) ∧ w'.cell? ⟨b, off + i * 10 + 3, none⟩ = some (.int .i64 (fld ps i 3)) ∧ w'.cell? ⟨b, off + i * 10 + 4, none⟩ = some (.int .i64 (fld ps i 4)) ∧ w'.cell? ⟨b, off + i * 10 + 5, none⟩ = some (.int .i64 (fld ps i 5)) ∧ w'.cell? ⟨b, off + i * 10 + 6, none⟩ = some (.int .i64 (fld ps i 6)) ∧ w'.cell? ⟨b, off + i * 10 + 7, none⟩ = some (.int .i64 (fld ps i 7)) ∧ w'.cell? ⟨b, off + i * 10 + 8, none⟩ = some (.int .i64 (fld ps i 8)) ∧ w'.cell? ⟨b, off + i * 10 + 9, none⟩ = some (.int .i64 (fld ps i 9))) ((first | (go_keep; done) | (go_simp; done))) ((go_at_call 21; refine (vpn (spec_EntryOf A1 n1 cr es r (fld ps i) now _ hn4 (H.out.below (by (repeat (first | with_reducible exact Below.refl _ _ | with_reducible refine Below.drew ?_ | with_reducible refine below_drewN ?_ _ | (with_reducible refine bel_alloc ?_ ?_ _; (first | omega | (simp; omega) | simp)) | (with_reducible refine bel_set ?_ ?_ _; (first | omega | (simp; omega) | simp)) | (with_reducible refine bel_tr (by assumption) ?_ ?_; (first | omega | (simp; omega) | simp))))))) hE).mono ?_; rintro y w9 ⟨rfl, b9⟩; have s9 := b9.size; (try simp at s9); have kr9 : ∀ o, w9.cell? ⟨w1.heap.size, o, none⟩ = _ := (fun o => b9.cell (p := ⟨w1.heap.size, o, none⟩) (by (first | omega | (simp; omega) | simp))); have kb9 : ∀ o, w9.cell? ⟨b, o, none⟩ = _ := (fun o => b9.cell (p := ⟨b, o, none⟩) (by (first | omega | (simp; omega) | simp))); have kw9 := (fun (hh : w4.heap.size < _) (o : Nat) => b9.cell (p := ⟨w4.heap.size, o, none⟩) hh); have kf9 := (fun (hh : w4.heap.size < _) (o : Nat) => b9.frozen (p := ⟨w4.heap.size, o, none⟩) hh); have kz9 : w1.heap.size < w9.heap.size := (by omega); have ky9 : b < w9.heap.size := (by omega)))
            all_goals
              go_wp2_with fail
              go_meet
              exact ⟨_, rfl, rfl, by (first | omega | (simp; omega) | simp), by (first | omega | (simp; omega) | simp), by (first | (go_keep; done) | (go_simp; done)), by (first | (go_keep; done) | (go_simp; done)), by (first | (go_keep; done) | (go_simp; done)), by (first | (go_keep; done) | (go_simp; done)), Lib.hid (by (repeat (first | with_reducible exact Below.refl _ _ | with_reducible refine Below.drew ?_ | with_reducible refine below_drewN ?_ _ | (with_reducible refine bel_alloc ?_ ?_ _; (first | omega | (simp; omega) | simp)) | (with_reducible refine bel_set ?_ ?_ _; (first | omega | (simp; omega) | simp)) | (with_reducible refine bel_tr (by assumption) ?_ ?_; (first | omega | (simp; omega) | simp)))))⟩
          case rest =>
            obtain ⟨bz, rfl, rfl, hbz1, hbz2, z0, z1, z2, z3, HBz⟩ := hcut
            have hsz := HBz.out.size
            have hbel2 : Below w2.heap.size w2 wc := hbelx.trans (HBz.out.mono hs4)
            have hs2c := hbel2.size
            have y0 : wc.cell? ⟨bq, 0, none⟩ = some (.int .i64 (0)) := (HBz.out.cell (p := ⟨bq, 0, none⟩) hbq2).trans x0
            have y1 : wc.cell? ⟨bq, 1, none⟩ = some (.int .i64 (0)) := (HBz.out.cell (p := ⟨bq, 1, none⟩) hbq2).trans x1
            have y2 : wc.cell? ⟨bq, 2, none⟩ = some (.int .i64 (0)) := (HBz.out.cell (p := ⟨bq, 2, none⟩) hbq2).trans x2
            have y3 : wc.cell? ⟨bq, 3, none⟩ = some (.int .i64 (0)) := (HBz.out.cell (p := ⟨bq, 3, none⟩) hbq2).trans x3
            have c1x := (HBz.out.cell (p := ⟨b, off + i * 10 + 1, none⟩) hbw).trans c1
            have HBB : Hid (Below wr.heap.size wr wc) := Lib.hid (HBx.out.trans (HBz.out.mono hsx))
            clear c0 c1 c2 c3 c4 c5 c6 c7 c8 c9 rc0 rc1 rc2 rc3 rc4 rc5 rc6 rc7 rc8
            have O3 := Lib.hid (HO.out.below HBB.out)
            have R3 := Lib.hid (row_below HR.out HBB.out)
            go_wp2
            go_roundw
            case rel => exact ⟨i + 1, q, cq, A2, row, ks, by omega, by go_num, rfl, rfl, hqc, hcq, by omega, O3, R3, HKP, hbel2⟩
            case measure => simp [intOf]; omega
      by_cases hcab : fld ps i 1 = cab
      case neg =>
        have t1 : (fld ps i 1 == cab) = false := by simpa using hcab
        go_upto_region 9 with fail
        go_cut [10, 11] (fun s11 s12 wx => ∃ b11 : Nat, s11 = .pointer (some ⟨b11, 0, none⟩) ∧ s12 = .bool true ∧ wr.heap.size ≤ b11 ∧ b11 < wx.heap.size ∧ wx.cell? ⟨b11, 0, none⟩ = some (.int .i64 (lvlV r (fld ps i) now)) ∧ wx.cell? ⟨b11, 1, none⟩ = some (.int .i64 (fld ps i 6)) ∧ wx.cell? ⟨b11, 2, none⟩ = some (.int .i64 (fld ps i 0)) ∧ wx.cell? ⟨b11, 3, none⟩ = some (.int .i64 (fld ps i 3)) ∧ Hid (Below wr.heap.size wr wx))
        case first =>
          go_region_held3 (fun w' => w'.cell? ⟨w1.heap.size, 0, none⟩ = some (.slice A1 n1 cr) ∧ w'.cell? ⟨w1.heap.size, 1, none⟩ = some (.int .i64 (r 1)) ∧ w'.cell? ⟨w1.heap.size, 2, none⟩ = some (.int .i64 (r 2)) ∧ w'.cell? ⟨w1.heap.size, 3, none⟩ = some (.int .i64 (r 3)) ∧ w'.cell? ⟨w1.heap.size, 4, none⟩ = some (.int .i64 (r 4)) ∧ w'.cell? ⟨w1.heap.size, 5, none⟩ = some (.int .i64 (r 5)) ∧ w'.cell? ⟨w1.heap.size, 6, none⟩ = some (.int .i64 (r 6)) ∧ w'.cell? ⟨w1.heap.size, 7, none⟩ = some (.int .i64 (r 7)) ∧ w'.cell? ⟨w1.heap.size, 8, none⟩ = some (.int .i64 (r 8)) ∧ w'.cell? ⟨b, off + i * 10, none⟩ = some (.int .i64 (fld ps i 0)) ∧ w'.cell? ⟨b, off + i * 10 + 1, none⟩ = some (.int .i64 (fld ps i 1)) ∧ w'.cell? ⟨b, off + i * 10 + 2, none⟩ = some (.int .i64 (fld ps i 2)) ∧ w'.cell? ⟨b, off + i * 10 + 3, none⟩ = some (.int .i64 (fld ps i 3)) ∧ w'.cell? ⟨b, off + i * 10 + 4, none⟩ = some (.int .i64 (fld ps i 4)) ∧ w'.cell? ⟨b, off + i * 10 + 5, none⟩ = some (.int .i64 (fld ps i 5)) ∧ w'.cell? ⟨b, off + i * 10 + 6, none⟩ = some (.int .i64 (fld ps i 6)) ∧ w'.cell? ⟨b, off + i * 10 + 7, none⟩ = some (.int .i64 (fld ps i 7)) ∧ w'.cell? ⟨b, off + i * 10 + 8, none⟩ = some (.int .i64 (fld ps i 8)) ∧ w'.cell? ⟨b, off + i * 10 + 9, none⟩ = some (.int .i64 (fld ps i 9))) ((first | (go_keep; done) | (go_simp; done))) ((go_at_call 24; refine (vpy (impl_EntryOf A1 n1 cr es r (fld ps i) now _ hn4 (H.out.below (by (repeat (first | with_reducible exact Below.refl _ _ | with_reducible refine Below.drew ?_ | with_reducible refine below_drewN ?_ _ | (with_reducible refine bel_alloc ?_ ?_ _; (first | omega | (simp; omega) | simp)) | (with_reducible refine bel_set ?_ ?_ _; (first | omega | (simp; omega) | simp)) | (with_reducible refine bel_tr (by assumption) ?_ ?_; (first | omega | (simp; omega) | simp))))))) hE).mono ?_; rintro y w9 ⟨rfl, b9⟩; have s9 := b9.size; (try simp at s9); have kr9 : ∀ o, w9.cell? ⟨w1.heap.size, o, none⟩ = _ := (fun o => b9.cell (p := ⟨w1.heap.size, o, none⟩) (by (first | omega | (simp; omega) | simp))); have kb9 : ∀ o, w9.cell? ⟨b, o, none⟩ = _ := (fun o => b9.cell (p := ⟨b, o, none⟩) (by (first | omega | (simp; omega) | simp))); have kw9 := (fun (hh : wr.heap.size < _) (o : Nat) => b9.cell (p := ⟨wr.heap.size, o, none⟩) hh); have kf9 := (fun (hh : wr.heap.size < _) (o : Nat) => b9.frozen (p := ⟨wr.heap.size, o, none⟩) hh); have kz9 : w1.heap.size < w9.heap.size := (by omega); have ky9 : b < w9.heap.size := (by omega)))
          all_goals
            go_wp2_with fail
            go_meet
            exact ⟨_, rfl, rfl, by (first | omega | (simp; omega) | simp), by (first | omega | (simp; omega) | simp), by (first | (go_keep; done) | (go_simp; done)), by (first | (go_keep; done) | (go_simp; done)), by (first | (go_keep; done) | (go_simp; done)), by (first | (go_keep; done) | (go_simp; done)), Lib.hid (by (repeat (first | with_reducible exact Below.refl _ _ | with_reducible refine Below.drew ?_ | with_reducible refine below_drewN ?_ _ | (with_reducible refine bel_alloc ?_ ?_ _; (first | omega | (simp; omega) | simp)) | (with_reducible refine bel_set ?_ ?_ _; (first | omega | (simp; omega) | simp)) | (with_reducible refine bel_tr (by assumption) ?_ ?_; (first | omega | (simp; omega) | simp)))))⟩
        case rest =>
          obtain ⟨bq, rfl, rfl, hbq1, hbq2, x0, x1, x2, x3, HBx⟩ := hcut
          have hsx := HBx.out.size
          have hbelx : Below w2.heap.size w2 wc := hbel.trans (HBx.out.mono hsz)
          clear c0 c1 c2 c3 c4 c5 c6 c7 c8 c9 rc0 rc1 rc2 rc3 rc4 rc5 rc6 rc7 rc8
          obtain ⟨w4, hw4⟩ : ∃ w4, w4 = wc := ⟨wc, rfl⟩
          subst hw4
          have hs4 := hbelx.size
          have c0 : w4.cell? ⟨b, off + i * 10, none⟩ = some (.int .i64 (fld ps i 0)) := (hbelx.cell (p := ⟨b, off + i * 10, none⟩) hb).trans (hc.out i hlt 0 (by omega))
          have c1 : w4.cell? ⟨b, off + i * 10 + 1, none⟩ = some (.int .i64 (fld ps i 1)) := (hbelx.cell (p := ⟨b, off + i * 10 + 1, none⟩) hb).trans (hc.out i hlt 1 (by omega))
          have c2 : w4.cell? ⟨b, off + i * 10 + 2, none⟩ = some (.int .i64 (fld ps i 2)) := (hbelx.cell (p := ⟨b, off + i * 10 + 2, none⟩) hb).trans (hc.out i hlt 2 (by omega))
          have c3 : w4.cell? ⟨b, off + i * 10 + 3, none⟩ = some (.int .i64 (fld ps i 3)) := (hbelx.cell (p := ⟨b, off + i * 10 + 3, none⟩) hb).trans (hc.out i hlt 3 (by omega))
          have c4 : w4.cell? ⟨b, off + i * 10 + 4, none⟩ = some (.int .i64 (fld ps i 4)) := (hbelx.cell (p := ⟨b, off + i * 10 + 4, none⟩) hb).trans (hc.out i hlt 4 (by omega))
          have c5 : w4.cell? ⟨b, off + i * 10 + 5, none⟩ = some (.int .i64 (fld ps i 5)) := (hbelx.cell (p := ⟨b, off + i * 10 + 5, none⟩) hb).trans (hc.out i hlt 5 (by omega))
          have c6 : w4.cell? ⟨b, off + i * 10 + 6, none⟩ = some (.int .i64 (fld ps i 6)) := (hbelx.cell (p := ⟨b, off + i * 10 + 6, none⟩) hb).trans (hc.out i hlt 6 (by omega))
          have c7 : w4.cell? ⟨b, off + i * 10 + 7, none⟩ = some (.int .i64 (fld ps i 7)) := (hbelx.cell (p := ⟨b, off + i * 10 + 7, none⟩) hb).trans (hc.out i hlt 7 (by omega))
          have c8 : w4.cell? ⟨b, off + i * 10 + 8, none⟩ = some (.int .i64 (fld ps i 8)) := (hbelx.cell (p := ⟨b, off + i * 10 + 8, none⟩) hb).trans (hc.out i hlt 8 (by omega))
          have c9 : w4.cell? ⟨b, off + i * 10 + 9, none⟩ = some (.int .i64 (fld ps i 9)) := (hbelx.cell (p := ⟨b, off + i * 10 + 9, none⟩) hb).trans (hc.out i hlt 9 (by omega))
          have XR := HX.out.below hbelx
          have rc0 : _ = some (Value.slice A1 n1 cr) := XR.2.2 0 (by omega)
          have rc1 : _ = some (Value.int .i64 (r 1)) := XR.2.2 1 (by omega)
          have rc2 : _ = some (Value.int .i64 (r 2)) := XR.2.2 2 (by omega)
          have rc3 : _ = some (Value.int .i64 (r 3)) := XR.2.2 3 (by omega)
          have rc4 : _ = some (Value.int .i64 (r 4)) := XR.2.2 4 (by omega)
          have rc5 : _ = some (Value.int .i64 (r 5)) := XR.2.2 5 (by omega)
          have rc6 : _ = some (Value.int .i64 (r 6)) := XR.2.2 6 (by omega)
          have rc7 : _ = some (Value.int .i64 (r 7)) := XR.2.2 7 (by omega)
          have rc8 : _ = some (Value.int .i64 (r 8)) := XR.2.2 8 (by omega)
          have hxw : w1.heap.size < w4.heap.size := XR.1
          have hbw : b < w4.heap.size := by have := hbelx.size; omega
          clear XR
          go_upto_region 10 with fail
          go_cut [12, 13] (fun s11 s12 wx => ∃ b11 : Nat, s11 = .pointer (some ⟨b11, 0, none⟩) ∧ s12 = .bool true ∧ w4.heap.size ≤ b11 ∧ b11 < wx.heap.size ∧ wx.cell? ⟨b11, 0, none⟩ = some (.int .i64 (lvlV r (fld ps i) now)) ∧ wx.cell? ⟨b11, 1, none⟩ = some (.int .i64 (fld ps i 6)) ∧ wx.cell? ⟨b11, 2, none⟩ = some (.int .i64 (fld ps i 0)) ∧ wx.cell? ⟨b11, 3, none⟩ = some (.int .i64 (fld ps i 3)) ∧ Hid (Below w4.heap.size w4 wx))
          case first =>
            go_region_held3 (fun w' => w'.cell? ⟨w1.heap.size, 0, none⟩ = some (.slice A1 n1 cr) ∧ w'.cell? ⟨w1.heap.size, 1, none⟩ = some (.int .i64 (r 1)) ∧ w'.cell? ⟨w1.heap.size, 2, none⟩ = some (.int .i64 (r 2)) ∧ w'.cell? ⟨w1.heap.size, 3, none⟩ = some (.int .i64 (r 3)) ∧ w'.cell? ⟨w1.heap.size, 4, none⟩ = some (.int .i64 (r 4)) ∧ w'.cell? ⟨w1.heap.size, 5, none⟩ = some (.int .i64 (r 5)) ∧ w'.cell? ⟨w1.heap.size, 6, none⟩ = some (.int .i64 (r 6)) ∧ w'.cell? ⟨w1.heap.size, 7, none⟩ = some (.int .i64 (r 7)) ∧ w'.cell? ⟨w1.heap.size, 8, none⟩ = some (.int .i64 (r 8)) ∧ w'.cell? ⟨b, off + i * 10, none⟩ = some (.int .i64 (fld ps i 0)) ∧ w'.cell? ⟨b, off + i * 10 + 1, none⟩ = some (.int .i64 (fld ps i 1)) ∧ w'.cell? ⟨b, off + i * 10 + 2, none⟩ = some (.int .i64 (fld ps i 2)) ∧ w'.cell? ⟨b, off + i * 10 + 3, none⟩ = some (.int .i64 (fld ps i 3)) ∧ w'.cell? ⟨b, off + i * 10 + 4, none⟩ = some (.int .i64 (fld ps i 4)) ∧ w'.cell? ⟨b, off + i * 10 + 5, none⟩ = some (.int .i64 (fld ps i 5)) ∧ w'.cell? ⟨b, off + i * 10 + 6, none⟩ = some (.int .i64 (fld ps i 6)) ∧ w'.cell? ⟨b, off + i * 10 + 7, none⟩ = some (.int .i64 (fld ps i 7)) ∧ w'.cell? ⟨b, off + i * 10 + 8, none⟩ = some (.int .i64 (fld ps i 8)) ∧ w'.cell? ⟨b, off + i * 10 + 9, none⟩ = some (.int .i64 (fld ps i 9))) ((first | (go_keep; done) | (go_simp; done))) ((go_at_call 21; refine (vpy (spec_EntryOf A1 n1 cr es r (fld ps i) now _ hn4 (H.out.below (by (repeat (first | with_reducible exact Below.refl _ _ | with_reducible refine Below.drew ?_ | with_reducible refine below_drewN ?_ _ | (with_reducible refine bel_alloc ?_ ?_ _; (first | omega | (simp; omega) | simp)) | (with_reducible refine bel_set ?_ ?_ _; (first | omega | (simp; omega) | simp)) | (with_reducible refine bel_tr (by assumption) ?_ ?_; (first | omega | (simp; omega) | simp))))))) hE).mono ?_; rintro y w9 ⟨rfl, b9⟩; have s9 := b9.size; (try simp at s9); have kr9 : ∀ o, w9.cell? ⟨w1.heap.size, o, none⟩ = _ := (fun o => b9.cell (p := ⟨w1.heap.size, o, none⟩) (by (first | omega | (simp; omega) | simp))); have kb9 : ∀ o, w9.cell? ⟨b, o, none⟩ = _ := (fun o => b9.cell (p := ⟨b, o, none⟩) (by (first | omega | (simp; omega) | simp))); have kw9 := (fun (hh : w4.heap.size < _) (o : Nat) => b9.cell (p := ⟨w4.heap.size, o, none⟩) hh); have kf9 := (fun (hh : w4.heap.size < _) (o : Nat) => b9.frozen (p := ⟨w4.heap.size, o, none⟩) hh); have kz9 : w1.heap.size < w9.heap.size := (by omega); have ky9 : b < w9.heap.size := (by omega)))
            all_goals
              go_wp2_with fail
              go_meet
              exact ⟨_, rfl, rfl, by (first | omega | (simp; omega) | simp), by (first | omega | (simp; omega) | simp), by (first | (go_keep; done) | (go_simp; done)), by (first | (go_keep; done) | (go_simp; done)), by (first | (go_keep; done) | (go_simp; done)), by (first | (go_keep; done) | (go_simp; done)), Lib.hid (by (repeat (first | with_reducible exact Below.refl _ _ | with_reducible refine Below.drew ?_ | with_reducible refine below_drewN ?_ _ | (with_reducible refine bel_alloc ?_ ?_ _; (first | omega | (simp; omega) | simp)) | (with_reducible refine bel_set ?_ ?_ _; (first | omega | (simp; omega) | simp)) | (with_reducible refine bel_tr (by assumption) ?_ ?_; (first | omega | (simp; omega) | simp)))))⟩
          case rest =>
            obtain ⟨bz, rfl, rfl, hbz1, hbz2, z0, z1, z2, z3, HBz⟩ := hcut
            have hsz := HBz.out.size
            have hbel2 : Below w2.heap.size w2 wc := hbelx.trans (HBz.out.mono hs4)
            have hs2c := hbel2.size
            have y0 : wc.cell? ⟨bq, 0, none⟩ = some (.int .i64 (lvlV r (fld ps i) now)) := (HBz.out.cell (p := ⟨bq, 0, none⟩) hbq2).trans x0
            have y1 : wc.cell? ⟨bq, 1, none⟩ = some (.int .i64 (fld ps i 6)) := (HBz.out.cell (p := ⟨bq, 1, none⟩) hbq2).trans x1
            have y2 : wc.cell? ⟨bq, 2, none⟩ = some (.int .i64 (fld ps i 0)) := (HBz.out.cell (p := ⟨bq, 2, none⟩) hbq2).trans x2
            have y3 : wc.cell? ⟨bq, 3, none⟩ = some (.int .i64 (fld ps i 3)) := (HBz.out.cell (p := ⟨bq, 3, none⟩) hbq2).trans x3
            have c1x := (HBz.out.cell (p := ⟨b, off + i * 10 + 1, none⟩) hbw).trans c1
            have HBB : Hid (Below wr.heap.size wr wc) := Lib.hid (HBx.out.trans (HBz.out.mono hsx))
            clear c0 c1 c2 c3 c4 c5 c6 c7 c8 c9 rc0 rc1 rc2 rc3 rc4 rc5 rc6 rc7 rc8
            have O3 := Lib.hid (HO.out.below HBB.out)
            have R3 := Lib.hid (row_below HR.out HBB.out)
            go_wp2
            go_roundw
            case rel => exact ⟨i + 1, q, cq, A2, row, ks, by omega, by go_num, rfl, rfl, hqc, hcq, by omega, O3, R3, HKP, hbel2⟩
            case measure => simp [intOf]; omega
      have t1 : (fld ps i 1 == cab) = true := by simpa using hcab
      have HCB := Lib.hid hcab
      clear hcab
      go_upto_region 9 with fail
      go_cut [10, 11] (fun s11 s12 wx => ∃ b11 : Nat, s11 = .pointer (some ⟨b11, 0, none⟩) ∧ s12 = .bool true ∧ wr.heap.size ≤ b11 ∧ b11 < wx.heap.size ∧ wx.cell? ⟨b11, 0, none⟩ = some (.int .i64 (lvlV r (fld ps i) now)) ∧ wx.cell? ⟨b11, 1, none⟩ = some (.int .i64 (fld ps i 6)) ∧ wx.cell? ⟨b11, 2, none⟩ = some (.int .i64 (fld ps i 0)) ∧ wx.cell? ⟨b11, 3, none⟩ = some (.int .i64 (fld ps i 3)) ∧ Hid (Below wr.heap.size wr wx))
      case first =>
        go_region_held3 (fun w' => w'.cell? ⟨w1.heap.size, 0, none⟩ = some (.slice A1 n1 cr) ∧ w'.cell? ⟨w1.heap.size, 1, none⟩ = some (.int .i64 (r 1)) ∧ w'.cell? ⟨w1.heap.size, 2, none⟩ = some (.int .i64 (r 2)) ∧ w'.cell? ⟨w1.heap.size, 3, none⟩ = some (.int .i64 (r 3)) ∧ w'.cell? ⟨w1.heap.size, 4, none⟩ = some (.int .i64 (r 4)) ∧ w'.cell? ⟨w1.heap.size, 5, none⟩ = some (.int .i64 (r 5)) ∧ w'.cell? ⟨w1.heap.size, 6, none⟩ = some (.int .i64 (r 6)) ∧ w'.cell? ⟨w1.heap.size, 7, none⟩ = some (.int .i64 (r 7)) ∧ w'.cell? ⟨w1.heap.size, 8, none⟩ = some (.int .i64 (r 8)) ∧ w'.cell? ⟨b, off + i * 10, none⟩ = some (.int .i64 (fld ps i 0)) ∧ w'.cell? ⟨b, off + i * 10 + 1, none⟩ = some (.int .i64 (fld ps i 1)) ∧ w'.cell? ⟨b, off + i * 10 + 2, none⟩ = some (.int .i64 (fld ps i 2)) ∧ w'.cell? ⟨b, off + i * 10 + 3, none⟩ = some (.int .i64 (fld ps i 3)) ∧ w'.cell? ⟨b, off + i * 10 + 4, none⟩ = some (.int .i64 (fld ps i 4)) ∧ w'.cell? ⟨b, off + i * 10 + 5, none⟩ = some (.int .i64 (fld ps i 5)) ∧ w'.cell? ⟨b, off + i * 10 + 6, none⟩ = some (.int .i64 (fld ps i 6)) ∧ w'.cell? ⟨b, off + i * 10 + 7, none⟩ = some (.int .i64 (fld ps i 7)) ∧ w'.cell? ⟨b, off + i * 10 + 8, none⟩ = some (.int .i64 (fld ps i 8)) ∧ w'.cell? ⟨b, off + i * 10 + 9, none⟩ = some (.int .i64 (fld ps i 9))) ((first | (go_keep; done) | (go_simp; done))) ((go_at_call 24; refine (vpy (impl_EntryOf A1 n1 cr es r (fld ps i) now _ hn4 (H.out.below (by (repeat (first | with_reducible exact Below.refl _ _ | with_reducible refine Below.drew ?_ | with_reducible refine below_drewN ?_ _ | (with_reducible refine bel_alloc ?_ ?_ _; (first | omega | (simp; omega) | simp)) | (with_reducible refine bel_set ?_ ?_ _; (first | omega | (simp; omega) | simp)) | (with_reducible refine bel_tr (by assumption) ?_ ?_; (first | omega | (simp; omega) | simp))))))) hE).mono ?_; rintro y w9 ⟨rfl, b9⟩; have s9 := b9.size; (try simp at s9); have kr9 : ∀ o, w9.cell? ⟨w1.heap.size, o, none⟩ = _ := (fun o => b9.cell (p := ⟨w1.heap.size, o, none⟩) (by (first | omega | (simp; omega) | simp))); have kb9 : ∀ o, w9.cell? ⟨b, o, none⟩ = _ := (fun o => b9.cell (p := ⟨b, o, none⟩) (by (first | omega | (simp; omega) | simp))); have kw9 := (fun (hh : wr.heap.size < _) (o : Nat) => b9.cell (p := ⟨wr.heap.size, o, none⟩) hh); have kf9 := (fun (hh : wr.heap.size < _) (o : Nat) => b9.frozen (p := ⟨wr.heap.size, o, none⟩) hh); have kz9 : w1.heap.size < w9.heap.size := (by omega); have ky9 : b < w9.heap.size := (by omega)))
        all_goals
          go_wp2_with fail
          go_meet
          exact ⟨_, rfl, rfl, by (first | omega | (simp; omega) | simp), by (first | omega | (simp; omega) | simp), by (first | (go_keep; done) | (go_simp; done)), by (first | (go_keep; done) | (go_simp; done)), by (first | (go_keep; done) | (go_simp; done)), by (first | (go_keep; done) | (go_simp; done)), Lib.hid (by (repeat (first | with_reducible exact Below.refl _ _ | with_reducible refine Below.drew ?_ | with_reducible refine below_drewN ?_ _ | (with_reducible refine bel_alloc ?_ ?_ _; (first | omega | (simp; omega) | simp)) | (with_reducible refine bel_set ?_ ?_ _; (first | omega | (simp; omega) | simp)) | (with_reducible refine bel_tr (by assumption) ?_ ?_; (first | omega | (simp; omega) | simp)))))⟩
      case rest =>
        obtain ⟨bq, rfl, rfl, hbq1, hbq2, x0, x1, x2, x3, HBx⟩ := hcut
        have hsx := HBx.out.size
        have hbelx : Below w2.heap.size w2 wc := hbel.trans (HBx.out.mono hsz)
        clear c0 c1 c2 c3 c4 c5 c6 c7 c8 c9 rc0 rc1 rc2 rc3 rc4 rc5 rc6 rc7 rc8
        obtain ⟨w4, hw4⟩ : ∃ w4, w4 = wc := ⟨wc, rfl⟩
        subst hw4
        have hs4 := hbelx.size
        have c0 : w4.cell? ⟨b, off + i * 10, none⟩ = some (.int .i64 (fld ps i 0)) := (hbelx.cell (p := ⟨b, off + i * 10, none⟩) hb).trans (hc.out i hlt 0 (by omega))
        have c1 : w4.cell? ⟨b, off + i * 10 + 1, none⟩ = some (.int .i64 (fld ps i 1)) := (hbelx.cell (p := ⟨b, off + i * 10 + 1, none⟩) hb).trans (hc.out i hlt 1 (by omega))
        have c2 : w4.cell? ⟨b, off + i * 10 + 2, none⟩ = some (.int .i64 (fld ps i 2)) := (hbelx.cell (p := ⟨b, off + i * 10 + 2, none⟩) hb).trans (hc.out i hlt 2 (by omega))
        have c3 : w4.cell? ⟨b, off + i * 10 + 3, none⟩ = some (.int .i64 (fld ps i 3)) := (hbelx.cell (p := ⟨b, off + i * 10 + 3, none⟩) hb).trans (hc.out i hlt 3 (by omega))
        have c4 : w4.cell? ⟨b, off + i * 10 + 4, none⟩ = some (.int .i64 (fld ps i 4)) := (hbelx.cell (p := ⟨b, off + i * 10 + 4, none⟩) hb).trans (hc.out i hlt 4 (by omega))
        have c5 : w4.cell? ⟨b, off + i * 10 + 5, none⟩ = some (.int .i64 (fld ps i 5)) := (hbelx.cell (p := ⟨b, off + i * 10 + 5, none⟩) hb).trans (hc.out i hlt 5 (by omega))
        have c6 : w4.cell? ⟨b, off + i * 10 + 6, none⟩ = some (.int .i64 (fld ps i 6)) := (hbelx.cell (p := ⟨b, off + i * 10 + 6, none⟩) hb).trans (hc.out i hlt 6 (by omega))
        have c7 : w4.cell? ⟨b, off + i * 10 + 7, none⟩ = some (.int .i64 (fld ps i 7)) := (hbelx.cell (p := ⟨b, off + i * 10 + 7, none⟩) hb).trans (hc.out i hlt 7 (by omega))
        have c8 : w4.cell? ⟨b, off + i * 10 + 8, none⟩ = some (.int .i64 (fld ps i 8)) := (hbelx.cell (p := ⟨b, off + i * 10 + 8, none⟩) hb).trans (hc.out i hlt 8 (by omega))
        have c9 : w4.cell? ⟨b, off + i * 10 + 9, none⟩ = some (.int .i64 (fld ps i 9)) := (hbelx.cell (p := ⟨b, off + i * 10 + 9, none⟩) hb).trans (hc.out i hlt 9 (by omega))
        have XR := HX.out.below hbelx
        have rc0 : _ = some (Value.slice A1 n1 cr) := XR.2.2 0 (by omega)
        have rc1 : _ = some (Value.int .i64 (r 1)) := XR.2.2 1 (by omega)
        have rc2 : _ = some (Value.int .i64 (r 2)) := XR.2.2 2 (by omega)
        have rc3 : _ = some (Value.int .i64 (r 3)) := XR.2.2 3 (by omega)
        have rc4 : _ = some (Value.int .i64 (r 4)) := XR.2.2 4 (by omega)
        have rc5 : _ = some (Value.int .i64 (r 5)) := XR.2.2 5 (by omega)
        have rc6 : _ = some (Value.int .i64 (r 6)) := XR.2.2 6 (by omega)
        have rc7 : _ = some (Value.int .i64 (r 7)) := XR.2.2 7 (by omega)
        have rc8 : _ = some (Value.int .i64 (r 8)) := XR.2.2 8 (by omega)
        have hxw : w1.heap.size < w4.heap.size := XR.1
        have hbw : b < w4.heap.size := by have := hbelx.size; omega
        clear XR
        go_upto_region 10 with fail
        go_cut [12, 13] (fun s11 s12 wx => ∃ b11 : Nat, s11 = .pointer (some ⟨b11, 0, none⟩) ∧ s12 = .bool true ∧ w4.heap.size ≤ b11 ∧ b11 < wx.heap.size ∧ wx.cell? ⟨b11, 0, none⟩ = some (.int .i64 (lvlV r (fld ps i) now)) ∧ wx.cell? ⟨b11, 1, none⟩ = some (.int .i64 (fld ps i 6)) ∧ wx.cell? ⟨b11, 2, none⟩ = some (.int .i64 (fld ps i 0)) ∧ wx.cell? ⟨b11, 3, none⟩ = some (.int .i64 (fld ps i 3)) ∧ Hid (Below w4.heap.size w4 wx))
        case first =>
          go_region_held3 (fun w' => w'.cell? ⟨w1.heap.size, 0, none⟩ = some (.slice A1 n1 cr) ∧ w'.cell? ⟨w1.heap.size, 1, none⟩ = some (.int .i64 (r 1)) ∧ w'.cell? ⟨w1.heap.size, 2, none⟩ = some (.int .i64 (r 2)) ∧ w'.cell? ⟨w1.heap.size, 3, none⟩ = some (.int .i64 (r 3)) ∧ w'.cell? ⟨w1.heap.size, 4, none⟩ = some (.int .i64 (r 4)) ∧ w'.cell? ⟨w1.heap.size, 5, none⟩ = some (.int .i64 (r 5)) ∧ w'.cell? ⟨w1.heap.size, 6, none⟩ = some (.int .i64 (r 6)) ∧ w'.cell? ⟨w1.heap.size, 7, none⟩ = some (.int .i64 (r 7)) ∧ w'.cell? ⟨w1.heap.size, 8, none⟩ = some (.int .i64 (r 8)) ∧ w'.cell? ⟨b, off + i * 10, none⟩ = some (.int .i64 (fld ps i 0)) ∧ w'.cell? ⟨b, off + i * 10 + 1, none⟩ = some (.int .i64 (fld ps i 1)) ∧ w'.cell? ⟨b, off + i * 10 + 2, none⟩ = some (.int .i64 (fld ps i 2)) ∧ w'.cell? ⟨b, off + i * 10 + 3, none⟩ = some (.int .i64 (fld ps i 3)) ∧ w'.cell? ⟨b, off + i * 10 + 4, none⟩ = some (.int .i64 (fld ps i 4)) ∧ w'.cell? ⟨b, off + i * 10 + 5, none⟩ = some (.int .i64 (fld ps i 5)) ∧ w'.cell? ⟨b, off + i * 10 + 6, none⟩ = some (.int .i64 (fld ps i 6)) ∧ w'.cell? ⟨b, off + i * 10 + 7, none⟩ = some (.int .i64 (fld ps i 7)) ∧ w'.cell? ⟨b, off + i * 10 + 8, none⟩ = some (.int .i64 (fld ps i 8)) ∧ w'.cell? ⟨b, off + i * 10 + 9, none⟩ = some (.int .i64 (fld ps i 9))) ((first | (go_keep; done) | (go_simp; done))) ((go_at_call 21; refine (vpy (spec_EntryOf A1 n1 cr es r (fld ps i) now _ hn4 (H.out.below (by (repeat (first | with_reducible exact Below.refl _ _ | with_reducible refine Below.drew ?_ | with_reducible refine below_drewN ?_ _ | (with_reducible refine bel_alloc ?_ ?_ _; (first | omega | (simp; omega) | simp)) | (with_reducible refine bel_set ?_ ?_ _; (first | omega | (simp; omega) | simp)) | (with_reducible refine bel_tr (by assumption) ?_ ?_; (first | omega | (simp; omega) | simp))))))) hE).mono ?_; rintro y w9 ⟨rfl, b9⟩; have s9 := b9.size; (try simp at s9); have kr9 : ∀ o, w9.cell? ⟨w1.heap.size, o, none⟩ = _ := (fun o => b9.cell (p := ⟨w1.heap.size, o, none⟩) (by (first | omega | (simp; omega) | simp))); have kb9 : ∀ o, w9.cell? ⟨b, o, none⟩ = _ := (fun o => b9.cell (p := ⟨b, o, none⟩) (by (first | omega | (simp; omega) | simp))); have kw9 := (fun (hh : w4.heap.size < _) (o : Nat) => b9.cell (p := ⟨w4.heap.size, o, none⟩) hh); have kf9 := (fun (hh : w4.heap.size < _) (o : Nat) => b9.frozen (p := ⟨w4.heap.size, o, none⟩) hh); have kz9 : w1.heap.size < w9.heap.size := (by omega); have ky9 : b < w9.heap.size := (by omega)))
          all_goals
            go_wp2_with fail
            go_meet
            exact ⟨_, rfl, rfl, by (first | omega | (simp; omega) | simp), by (first | omega | (simp; omega) | simp), by (first | (go_keep; done) | (go_simp; done)), by (first | (go_keep; done) | (go_simp; done)), by (first | (go_keep; done) | (go_simp; done)), by (first | (go_keep; done) | (go_simp; done)), Lib.hid (by (repeat (first | with_reducible exact Below.refl _ _ | with_reducible refine Below.drew ?_ | with_reducible refine below_drewN ?_ _ | (with_reducible refine bel_alloc ?_ ?_ _; (first | omega | (simp; omega) | simp)) | (with_reducible refine bel_set ?_ ?_ _; (first | omega | (simp; omega) | simp)) | (with_reducible refine bel_tr (by assumption) ?_ ?_; (first | omega | (simp; omega) | simp)))))⟩
        case rest =>
          obtain ⟨bz, rfl, rfl, hbz1, hbz2, z0, z1, z2, z3, HBz⟩ := hcut
          have hsz := HBz.out.size
          have hbel2 : Below w2.heap.size w2 wc := hbelx.trans (HBz.out.mono hs4)
          have hs2c := hbel2.size
          have y0 : wc.cell? ⟨bq, 0, none⟩ = some (.int .i64 (lvlV r (fld ps i) now)) := (HBz.out.cell (p := ⟨bq, 0, none⟩) hbq2).trans x0
          have y1 : wc.cell? ⟨bq, 1, none⟩ = some (.int .i64 (fld ps i 6)) := (HBz.out.cell (p := ⟨bq, 1, none⟩) hbq2).trans x1
          have y2 : wc.cell? ⟨bq, 2, none⟩ = some (.int .i64 (fld ps i 0)) := (HBz.out.cell (p := ⟨bq, 2, none⟩) hbq2).trans x2
          have y3 : wc.cell? ⟨bq, 3, none⟩ = some (.int .i64 (fld ps i 3)) := (HBz.out.cell (p := ⟨bq, 3, none⟩) hbq2).trans x3
          have c1x := (HBz.out.cell (p := ⟨b, off + i * 10 + 1, none⟩) hbw).trans c1
          have HBB : Hid (Below wr.heap.size wr wc) := Lib.hid (HBx.out.trans (HBz.out.mono hsx))
          clear c0 c1 c2 c3 c4 c5 c6 c7 c8 c9 rc0 rc1 rc2 rc3 rc4 rc5 rc6 rc7 rc8
          have O3 := Lib.hid (HO.out.below HBB.out)
          have R3 := Lib.hid (row_below HR.out HBB.out)
          have hbqc : bq < wc.heap.size := by omega
          have hql : row.length = q := O3.out.1
          obtain ⟨T, N, bv, hR, hlT, hNq⟩ := putR_ex row (entF r now (fld ps i)) q hql
          have HPR := Lib.hid hR
          clear hR
          go_wp2_with fail
          refine (iQueuePut_c A2 q cq N row T (entF r now (fld ps i)) bv _ (by omega) hqc hcq HPR.out O3.out.rd).mono ?_
          rintro y w5 ⟨A5, k5, rfl, hc5, o5, b5⟩
          have s5 := b5.size
          have I5 := Lib.hid o5.inB
          have O5 := Lib.hid (o5.mono (show w1.heap.size ≤ wc.heap.size by omega))
          clear o5
          have O35 := Lib.hid (O3.out.below b5)
          have R5 := Lib.hid (row_below R3.out b5)
          have u0 := (b5.cell (p := ⟨bq, 0, none⟩) hbqc).trans y0
          have u1 := (b5.cell (p := ⟨bq, 1, none⟩) hbqc).trans y1
          have u2 := (b5.cell (p := ⟨bq, 2, none⟩) hbqc).trans y2
          have u3 := (b5.cell (p := ⟨bq, 3, none⟩) hbqc).trans y3
          clear y0 y1 y2 y3
          go_wp2_with fail
          refine (sQueuePut_any A2 q cq N row T (entF r now (fld ps i)) bv _ (by omega) hqc hcq HPR.out O35.out.rd).mono ?_
          rintro y w6 ⟨A6, k6, rfl, _, b6⟩
          have s6 := b6.size
          have O36 := Lib.hid (O35.out.below b6)
          have O56 := Lib.hid (O5.out.below b6)
          have R6 := Lib.hid (row_below R5.out b6)
          have hbel6 : Below w2.heap.size w2 w6 := (hbel2.trans (b5.mono hs2c)).trans (b6.mono (by omega))
          have hs6 := hbel6.size
          have c0 : w6.cell? ⟨b, off + i * 10, none⟩ = some (.int .i64 (fld ps i 0)) := (hbel6.cell (p := ⟨b, off + i * 10, none⟩) hb).trans (hc.out i hlt 0 (by omega))
          have c1 : w6.cell? ⟨b, off + i * 10 + 1, none⟩ = some (.int .i64 (fld ps i 1)) := (hbel6.cell (p := ⟨b, off + i * 10 + 1, none⟩) hb).trans (hc.out i hlt 1 (by omega))
          have c2 : w6.cell? ⟨b, off + i * 10 + 2, none⟩ = some (.int .i64 (fld ps i 2)) := (hbel6.cell (p := ⟨b, off + i * 10 + 2, none⟩) hb).trans (hc.out i hlt 2 (by omega))
          have c3 : w6.cell? ⟨b, off + i * 10 + 3, none⟩ = some (.int .i64 (fld ps i 3)) := (hbel6.cell (p := ⟨b, off + i * 10 + 3, none⟩) hb).trans (hc.out i hlt 3 (by omega))
          have c4 : w6.cell? ⟨b, off + i * 10 + 4, none⟩ = some (.int .i64 (fld ps i 4)) := (hbel6.cell (p := ⟨b, off + i * 10 + 4, none⟩) hb).trans (hc.out i hlt 4 (by omega))
          have c5 : w6.cell? ⟨b, off + i * 10 + 5, none⟩ = some (.int .i64 (fld ps i 5)) := (hbel6.cell (p := ⟨b, off + i * 10 + 5, none⟩) hb).trans (hc.out i hlt 5 (by omega))
          have c6 : w6.cell? ⟨b, off + i * 10 + 6, none⟩ = some (.int .i64 (fld ps i 6)) := (hbel6.cell (p := ⟨b, off + i * 10 + 6, none⟩) hb).trans (hc.out i hlt 6 (by omega))
          have c7 : w6.cell? ⟨b, off + i * 10 + 7, none⟩ = some (.int .i64 (fld ps i 7)) := (hbel6.cell (p := ⟨b, off + i * 10 + 7, none⟩) hb).trans (hc.out i hlt 7 (by omega))
          have c8 : w6.cell? ⟨b, off + i * 10 + 8, none⟩ = some (.int .i64 (fld ps i 8)) := (hbel6.cell (p := ⟨b, off + i * 10 + 8, none⟩) hb).trans (hc.out i hlt 8 (by omega))
          have c9 : w6.cell? ⟨b, off + i * 10 + 9, none⟩ = some (.int .i64 (fld ps i 9)) := (hbel6.cell (p := ⟨b, off + i * 10 + 9, none⟩) hb).trans (hc.out i hlt 9 (by omega))
          cases bv with
          | false =>
            go_wp2
            go_roundw
            case rel => exact ⟨i + 1, q, cq, A2, row, ks, by omega, by go_num, rfl, rfl, hqc, hcq, by omega, O36, R6, HKP, hbel6⟩
            case measure => simp [intOf]; omega
          | true =>
            have hYY : QOk (insL row (plc row (entF r now (fld ps i)) q) (entF r now (fld ps i))) (q + 1) ∧ T = insL row (plc row (entF r now (fld ps i)) q) (entF r now (fld ps i)) ∧ N = q + 1 := by
              rcases HPR.out with ⟨h1, h2, h3, _⟩ | ⟨_, _, _, h4⟩
              · exact ⟨h1.2, h2, h3⟩
              · cases h4
            have KN : Hid (Kept T (ks ++ [fld ps i]) n1 es r now cab) := Lib.hid (hYY.2.1 ▸ HKP.out.put hql hE HCB.out hYY.1)
            obtain rfl : N = q + 1 := hYY.2.2
            clear hYY
            have hkl : ks.length = q := HKP.out.len ▸ hql
            go_wp2_with (at_builtin; go_must (refine wpList_append_rd _ rfl _ _ 32 rfl (w2.heap.size + 1) 50 i0 _ 10 80 Try.underlying32 hI0 hz0 hz1 hz2 rfl (by omega) _ ks.length ks rfl (World.ownsRow.alloc R6.out _) (some ⟨w6.heap.size, 0, none⟩) 1 1 [fld ps i] rfl (rd_one10 w6 _ (fld ps i)) (by unfold maxLen; omega) (by omega) (by simp; omega) ?_); intro v7 w7 hown7 hg7 hat7)
            have s7 := hg7.size
            (try simp at s7)
            have b7 : Below (w2.heap.size + 1) w6 w7 := bel_grown0 hg7 (row_ge R6.out (Nat.le_refl _)) (by (first | omega | (simp; omega) | simp)) (by (first | omega | (simp; omega) | simp))
            have R7 : Hid (w7.ownsRow (w2.heap.size + 1) 50 10 v7 (ks ++ [fld ps i]).length (flat 10 (ks ++ [fld ps i]))) := Lib.hid (by rw [List.length_append, List.length_singleton]; exact hown7)
            have O7 := Lib.hid ((O56.out.alloc_ _).grown_ hg7 (fun a h0 ha he => by (obtain ⟨a', ha', h3, _⟩ := I5.out.resolve_left h0; rw [ha] at ha'; injection ha' with ha'; subst ha'; have h4 := row_lt R3.out _ he.symm; omega)))
            clear hown7 hg7 hat7
            go_wp2
            go_roundw
            case rel => exact ⟨i + 1, q + 1, k5, A5, T, ks ++ [fld ps i], by omega, by go_num, rfl, rfl, hc5.1, hc5.2, by omega, O7, R7, KN, hbel6.trans (b7.mono (by omega))⟩
            case measure => simp [intOf]; omega
    have him : i = m := by omega
    subst him
    have hii : ¬ (i : Int) < (i : Int) := by omega
    have hql : row.length = q := HO.out.1
    have hkl : ks.length = q := HKP.out.len ▸ hql
    rw [hkl] at HR
    have HQL := Lib.hid hql
    have HKL := Lib.hid hkl
    clear hql hkl
    by_cases hk1l : 1 < q
    case neg =>
      obtain ⟨KA, kc, rfl, hk1, hk2, ok8⟩ := own_of_row_cap HKL.out HR.out
      have O8 := Lib.hid ok8
      clear ok8
      have hki : ¬ (1 : Int) < (q : Int) := by omega
      have hqk : QOk row (q) := (show (row).length = q from HO.out.1) ▸ HKP.out.2.1
      obtain ⟨ok, hok⟩ := okF_ex n1 es r now ks cab
      have HOK := Lib.hid hok
      clear hok
      have XR := HX.out.below hbel
      have rc0 : _ = some (Value.slice A1 n1 cr) := XR.2.2 0 (by omega)
      have rc1 : _ = some (Value.int .i64 (r 1)) := XR.2.2 1 (by omega)
      have rc2 : _ = some (Value.int .i64 (r 2)) := XR.2.2 2 (by omega)
      have rc3 : _ = some (Value.int .i64 (r 3)) := XR.2.2 3 (by omega)
      have rc4 : _ = some (Value.int .i64 (r 4)) := XR.2.2 4 (by omega)
      have rc5 : _ = some (Value.int .i64 (r 5)) := XR.2.2 5 (by omega)
      have rc6 : _ = some (Value.int .i64 (r 6)) := XR.2.2 6 (by omega)
      have rc7 : _ = some (Value.int .i64 (r 7)) := XR.2.2 7 (by omega)
      have rc8 : _ = some (Value.int .i64 (r 8)) := XR.2.2 8 (by omega)
      have hxw := XR.1
      clear XR
      go_wp2_with fail
      refine (ty (iQueueOk_any A2 (q) (cq) row _ (by omega) (by omega) HO.out.rd) hqk).mono ?_
      rintro y v1 ⟨rfl, e1⟩
      have t1 := e1.size
      have xc0 := (e1.cell (p := ⟨w1.heap.size, 0, none⟩) hxw).trans rc0
      have xc1 := (e1.cell (p := ⟨w1.heap.size, 1, none⟩) hxw).trans rc1
      have xc2 := (e1.cell (p := ⟨w1.heap.size, 2, none⟩) hxw).trans rc2
      have xc3 := (e1.cell (p := ⟨w1.heap.size, 3, none⟩) hxw).trans rc3
      have xc4 := (e1.cell (p := ⟨w1.heap.size, 4, none⟩) hxw).trans rc4
      have xc5 := (e1.cell (p := ⟨w1.heap.size, 5, none⟩) hxw).trans rc5
      have xc6 := (e1.cell (p := ⟨w1.heap.size, 6, none⟩) hxw).trans rc6
      have xc7 := (e1.cell (p := ⟨w1.heap.size, 7, none⟩) hxw).trans rc7
      have xc8 := (e1.cell (p := ⟨w1.heap.size, 8, none⟩) hxw).trans rc8
      clear rc0 rc1 rc2 rc3 rc4 rc5 rc6 rc7 rc8
      go_wp2_with fail
      refine (iQueueOf_any A1 n1 cr es r KA (q) (kc) ks cab now ok _ hn4 (by omega) (H.out.below (hbel.trans (e1.mono (by have := hbel.size; omega)))) (O8.out.rd.below e1) HOK.out).mono ?_
      rintro y v2 ⟨A9, q9, c9, rfl, o9, hc9, e2⟩
      have t2 := e2.size
      have hse := HKP.out.sort (by exact HOK.out)
      have hkk : (ks).length = q := O8.out.rd.1
      rw [hkk] at hse
      rw [← hse] at o9
      clear hse hkk
      go_wp2_with fail
      refine (ty (lawSameRow_any A2 A9 (q) (cq) q9 c9 row row _ (by omega) (by have h1 := o9.1; have h2 := HO.out.1; omega) ((HO.out.rd.below e1).below e2) o9.rd) (SamE.of_eq rfl)).mono ?_
      rintro y v3 ⟨rfl, e3⟩
      go_wp2
      go_ret
      exact ⟨rfl, HB1.out.trans (((hbel.trans (e1.mono (by have := hbel.size; omega))).trans ((e2.mono (by have := hbel.size; omega)).trans (e3.mono (by have := hbel.size; omega)))).mono (by omega))⟩
    obtain ⟨p0, kt, rfl⟩ : ∃ p0 kt, ks = p0 :: kt := by
      cases ks with
      | nil => have h1 := HKL.out; simp at h1; omega
      | cons a b => exact ⟨a, b, rfl⟩
    obtain ⟨g, kc, rfl, hk1, hk2, ok8⟩ := row_pos (by omega) (by omega) HKL.out HR.out
    have O8 := Lib.hid ok8
    clear ok8
    have hki : (1 : Int) < (q : Int) := by omega
    go_wp2_with fail
    refine (at0_any A n c 1 _ hn (by omega) (HBW.out.below hbel)).mono ?_
    rintro y _ ⟨x, rfl, ⟨x0, x1⟩, rfl⟩
    have htm : x.tmod 2 = x % 2 := Int.tmod_eq_emod_of_nonneg x0
    by_cases hpar : x % 2 = 0
    case neg =>
      have hpar2 : ¬ x.tmod 2 = 0 := by omega
      have hqk : QOk row (q) := (show (row).length = q from HO.out.1) ▸ HKP.out.2.1
      obtain ⟨ok, hok⟩ := okF_ex n1 es r now (p0 :: kt) cab
      have HOK := Lib.hid hok
      clear hok
      have XR := HX.out.below hbel
      have rc0 : _ = some (Value.slice A1 n1 cr) := XR.2.2 0 (by omega)
      have rc1 : _ = some (Value.int .i64 (r 1)) := XR.2.2 1 (by omega)
      have rc2 : _ = some (Value.int .i64 (r 2)) := XR.2.2 2 (by omega)
      have rc3 : _ = some (Value.int .i64 (r 3)) := XR.2.2 3 (by omega)
      have rc4 : _ = some (Value.int .i64 (r 4)) := XR.2.2 4 (by omega)
      have rc5 : _ = some (Value.int .i64 (r 5)) := XR.2.2 5 (by omega)
      have rc6 : _ = some (Value.int .i64 (r 6)) := XR.2.2 6 (by omega)
      have rc7 : _ = some (Value.int .i64 (r 7)) := XR.2.2 7 (by omega)
      have rc8 : _ = some (Value.int .i64 (r 8)) := XR.2.2 8 (by omega)
      have hxw := XR.1
      clear XR
      go_wp2_with fail
      refine (ty (iQueueOk_any A2 (q) (cq) row _ (by omega) (by omega) HO.out.rd) hqk).mono ?_
      rintro y v1 ⟨rfl, e1⟩
      have t1 := e1.size
      have xc0 := (e1.cell (p := ⟨w1.heap.size, 0, none⟩) hxw).trans rc0
      have xc1 := (e1.cell (p := ⟨w1.heap.size, 1, none⟩) hxw).trans rc1
      have xc2 := (e1.cell (p := ⟨w1.heap.size, 2, none⟩) hxw).trans rc2
      have xc3 := (e1.cell (p := ⟨w1.heap.size, 3, none⟩) hxw).trans rc3
      have xc4 := (e1.cell (p := ⟨w1.heap.size, 4, none⟩) hxw).trans rc4
      have xc5 := (e1.cell (p := ⟨w1.heap.size, 5, none⟩) hxw).trans rc5
      have xc6 := (e1.cell (p := ⟨w1.heap.size, 6, none⟩) hxw).trans rc6
      have xc7 := (e1.cell (p := ⟨w1.heap.size, 7, none⟩) hxw).trans rc7
      have xc8 := (e1.cell (p := ⟨w1.heap.size, 8, none⟩) hxw).trans rc8
      clear rc0 rc1 rc2 rc3 rc4 rc5 rc6 rc7 rc8
      go_wp2_with fail
      refine (iQueueOf_any A1 n1 cr es r (some ⟨g, 0, none⟩) (q) (kc) (p0 :: kt) cab now ok _ hn4 (by omega) (H.out.below (hbel.trans (e1.mono (by have := hbel.size; omega)))) (O8.out.rd.below e1) HOK.out).mono ?_
      rintro y v2 ⟨A9, q9, c9, rfl, o9, hc9, e2⟩
      have t2 := e2.size
      have hse := HKP.out.sort (by exact HOK.out)
      have hkk : ((p0 :: kt)).length = q := O8.out.rd.1
      rw [hkk] at hse
      rw [← hse] at o9
      clear hse hkk
      go_wp2_with fail
      refine (ty (lawSameRow_any A2 A9 (q) (cq) q9 c9 row row _ (by omega) (by have h1 := o9.1; have h2 := HO.out.1; omega) ((HO.out.rd.below e1).below e2) o9.rd) (SamE.of_eq rfl)).mono ?_
      rintro y v3 ⟨rfl, e3⟩
      go_wp2
      go_ret
      exact ⟨rfl, HB1.out.trans (((hbel.trans (e1.mono (by have := hbel.size; omega))).trans ((e2.mono (by have := hbel.size; omega)).trans (e3.mono (by have := hbel.size; omega)))).mono (by omega))⟩
    have hpar2 : x.tmod 2 = 0 := by omega
    obtain ⟨k, hkq, hid, hidb, hkp, hno⟩ := HKP.out.cut HQL.out
    have KC := Lib.hid hkp
    have HID := Lib.hid hid
    have HIDB := Lib.hid hidb
    have HNO := Lib.hid hno
    clear hkp hid hidb hno
    obtain ⟨b8, o8, he8, hg8, hc8⟩ := O8.out.rd.2.resolve_left (by omega)
    injection he8 with he8
    injection he8 with he8 he9
    subst he8 he9
    have kd0 : wr.cell? ⟨g, 0, none⟩ = some (.int .i64 (p0 0)) := hc8 0 (by omega) 0 (by omega)
    clear hc8
    have hqp : 1 ≤ q := by omega
    go_wp2_with fail
    refine (iQueueCut_c A2 q cq k (p0 0) row _ (by omega) HO.out.rd hkq HID.out HIDB.out).mono ?_
    rintro y w5 ⟨A5, c5, rfl, hc5, o5, b5⟩
    have s5 := b5.size
    have O5 := Lib.hid o5
    clear o5
    have kd5 := (b5.cell (p := ⟨g, 0, none⟩) hg8).trans kd0
    have O85 := Lib.hid (O8.out.below b5)
    have hbel5 : Below w2.heap.size w2 w5 := hbel.trans (b5.mono hsz)
    have hs5 := hbel5.size
    go_wp2_with fail
    refine (iQueueAt_is A5 (q - 1) c5 (p0 0) (cutL row k) (-1) _ (by omega) O5.out.rd (.inr ⟨rfl, HNO.out⟩)).mono ?_
    rintro y w6 ⟨rfl, b6⟩
    have s6 := b6.size
    have O56 := Lib.hid ((O5.out.below b6).mono (show w1.heap.size ≤ wr.heap.size by omega))
    have O86 := Lib.hid (O85.out.below b6)
    have hbel6 : Below w2.heap.size w2 w6 := hbel5.trans (b6.mono hs5)
    have hs6 := hbel6.size
    have hqk : QOk (cutL row k) (q - 1) := (show ((cutL row k)).length = q - 1 from O56.out.1) ▸ KC.out.2.1
    obtain ⟨ok, hok⟩ := okF_ex n1 es r now kt cab
    have HOK := Lib.hid hok
    clear hok
    have XR := HX.out.below hbel6
    have rc0 : _ = some (Value.slice A1 n1 cr) := XR.2.2 0 (by omega)
    have rc1 : _ = some (Value.int .i64 (r 1)) := XR.2.2 1 (by omega)
    have rc2 : _ = some (Value.int .i64 (r 2)) := XR.2.2 2 (by omega)
    have rc3 : _ = some (Value.int .i64 (r 3)) := XR.2.2 3 (by omega)
    have rc4 : _ = some (Value.int .i64 (r 4)) := XR.2.2 4 (by omega)
    have rc5 : _ = some (Value.int .i64 (r 5)) := XR.2.2 5 (by omega)
    have rc6 : _ = some (Value.int .i64 (r 6)) := XR.2.2 6 (by omega)
    have rc7 : _ = some (Value.int .i64 (r 7)) := XR.2.2 7 (by omega)
    have rc8 : _ = some (Value.int .i64 (r 8)) := XR.2.2 8 (by omega)
    have hxw := XR.1
    clear XR
    go_wp2_with fail
    refine (ty (iQueueOk_any A5 (q - 1) (c5) (cutL row k) _ (by omega) (by omega) O56.out.rd) hqk).mono ?_
    rintro y v1 ⟨rfl, e1⟩
    have t1 := e1.size
    have xc0 := (e1.cell (p := ⟨w1.heap.size, 0, none⟩) hxw).trans rc0
    have xc1 := (e1.cell (p := ⟨w1.heap.size, 1, none⟩) hxw).trans rc1
    have xc2 := (e1.cell (p := ⟨w1.heap.size, 2, none⟩) hxw).trans rc2
    have xc3 := (e1.cell (p := ⟨w1.heap.size, 3, none⟩) hxw).trans rc3
    have xc4 := (e1.cell (p := ⟨w1.heap.size, 4, none⟩) hxw).trans rc4
    have xc5 := (e1.cell (p := ⟨w1.heap.size, 5, none⟩) hxw).trans rc5
    have xc6 := (e1.cell (p := ⟨w1.heap.size, 6, none⟩) hxw).trans rc6
    have xc7 := (e1.cell (p := ⟨w1.heap.size, 7, none⟩) hxw).trans rc7
    have xc8 := (e1.cell (p := ⟨w1.heap.size, 8, none⟩) hxw).trans rc8
    clear rc0 rc1 rc2 rc3 rc4 rc5 rc6 rc7 rc8
    go_wp2_with fail
    refine (iQueueOf_any A1 n1 cr es r (some ⟨g, 0 + 1 * 10, none⟩) (q - 1) (kc - 1) kt cab now ok _ hn4 (by omega) (H.out.below (hbel6.trans (e1.mono (by have := hbel6.size; omega)))) ((O86.out.rd.drop (k := 1) (by omega)).below e1) HOK.out).mono ?_
    rintro y v2 ⟨A9, q9, c9, rfl, o9, hc9, e2⟩
    have t2 := e2.size
    have hse := KC.out.sort (by exact HOK.out)
    have hkk : (kt).length = q - 1 := (O86.out.rd.drop (k := 1) (by omega)).1
    rw [hkk] at hse
    rw [← hse] at o9
    clear hse hkk
    go_wp2_with fail
    refine (ty (lawSameRow_any A5 A9 (q - 1) (c5) q9 c9 (cutL row k) (cutL row k) _ (by omega) (by have h1 := o9.1; have h2 := O56.out.1; omega) ((O56.out.rd.below e1).below e2) o9.rd) (SamE.of_eq rfl)).mono ?_
    rintro y v3 ⟨rfl, e3⟩
    go_wp2
    go_ret
    exact ⟨rfl, HB1.out.trans (((hbel6.trans (e1.mono (by have := hbel6.size; omega))).trans ((e2.mono (by have := hbel6.size; omega)).trans (e3.mono (by have := hbel6.size; omega)))).mono (by omega))⟩
end Go.Proofs.Ytccabkmmlddenaa
