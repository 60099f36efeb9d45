/-
  A stable sort: the elements of every key stand in the order in which they stood. A row in order is determined by the elements of its keys. No conditions.
-/
import Derived.Test.YtjlmcppkafjniaaGreatDn
import Derived.Test.YtjlmcppkafjniaaGreatMk
import Derived.Test.YtjlmcppkafjniaaGreatW2
import Derived.Test.YtjlmcppkafjniaaGreatWp9
import Derived.Test.YtjlmcppkafjniaaGreatSe
import Derived.Test.YtjlmcppkafjniaaGreatAt
import Derived.Test.YtjlmcppkafjniaaGreatCut
namespace Go.Proofs.YtjlmcppkafjniaaGreat
open Go.RowKit

theorem own_of_row_cap {base : Nat} {w : World} {e : TypeId} {K n : Nat} {v : Value} {es : List (Nat → Int)} (hl : es.length = n) (h : w.ownsRow base e K v n (flat K es)) :
    ∃ A c, v = .slice A n c ∧ n ≤ c ∧ c ≤ 9223372036854775807 ∧ Own base w K A n es := by
  obtain ⟨A, c, rfl, ho⟩ := own_of_row hl h
  refine ⟨A, c, rfl, ?_, ?_, ho⟩
  · rcases h.2 with ⟨hv, hx⟩ | ⟨g, cap, cur, hv, hg, hh, hnc, hcm, hsz, htk⟩
    · injection hv with _ h2 h3
      omega
    · injection hv with _ h2 h3
      omega
  · rcases h.2 with ⟨hv, hx⟩ | ⟨g, cap, cur, hv, hg, hh, hnc, hcm, hsz, htk⟩
    · injection hv with _ h2 h3
      omega
    · injection hv with _ h2 h3
      unfold maxLen at hcm
      omega

theorem Cur.keep {w w' : World} {cb : Nat} (h : Cur w cb) (hb : Below (cb + 1) w w') : Cur w' cb := by
  obtain ⟨A, n, c, i, x, h0, h1, h2, h3, h4, h5, h6, h7⟩ := h
  refine ⟨A, n, c, i, x, (hb.cell (p := ⟨cb, 0, none⟩) (Nat.lt_succ_self cb)).trans h0, (hb.cell (p := ⟨cb, 1, none⟩) (Nat.lt_succ_self cb)).trans h1, (hb.cell (p := ⟨cb, 2, none⟩) (Nat.lt_succ_self cb)).trans h2, h3, h4, h5, fun o => (hb.frozen (p := ⟨cb, o, none⟩) (Nat.lt_succ_self cb)).trans (h6 o), h7.imp id fun ⟨b, off, g1, g2, g4⟩ => ⟨b, off, g1, g2, fun j hj => ?_⟩⟩
  obtain ⟨y, y1, y2, y3⟩ := g4 j hj
  exact ⟨y, y1, y2, (hb.cell (p := ⟨b, off + j, none⟩) (Nat.lt_succ_of_lt g2)).trans y3⟩
/-- Something turns that has been made since. -/
theorem Drew.grow {w w1 w2 : World} {cb : Nat} {row : Option Nat} (hcb : cb < w.heap.size) (hs : w.heap.size ≤ w1.heap.size) (h : Drew w cb w1) (hg : w1.grownBy w2 row) (hrow : ∀ k, row = some k → w.heap.size ≤ k) : Drew w cb w2 := by
  have hb : Below w.heap.size w1 w2 := (Below.refl _ w1).grown hg hs hrow
  refine ⟨h.1.keep (hb.mono (by omega)), hb.os.trans h.2.os, hb.tape.trans h.2.tape, hb.output.trans h.2.output, Nat.le_trans h.2.size hb.size, fun i hi hne => (hb.block i hi).trans (h.2.block i hi hne)⟩
theorem Drew.below {w w1 w2 : World} {cb : Nat} (hcb : cb < w.heap.size) (h : Drew w cb w1) (hb : Below w.heap.size w1 w2) : Drew w cb w2 :=
  ⟨h.1.keep (hb.mono (by omega)), hb.os.trans h.2.os, hb.tape.trans h.2.tape, hb.output.trans h.2.output, Nat.le_trans h.2.size hb.size, fun i hi hne => (hb.block i hi).trans (h.2.block i hi hne)⟩
theorem row_drew {base cb : Nat} {w w' : World} {e : TypeId} {K n : Nat} {v : Value} {xs : List Value} (h : w.ownsRow base e K v n xs) (d : Drew w cb w') (hcb : cb < base) : w'.ownsRow base e K v n xs :=
  ⟨h.1, h.2.imp id fun ⟨g, cap, cur, h1, h2, hh, h3⟩ => ⟨g, cap, cur, h1, h2, (d.2.block g (Array.getElem?_eq_some_iff.1 hh).1 (by simp; omega)).trans hh, h3⟩⟩
theorem Own.drew_c {B cb : Nat} {w w' : World} {K n : Nat} {A : Option Addr} {es : List (Nat → Int)} (h : Own B w K A n es) (d : Drew w cb w') (hcb : cb < B) : Own B w' K A n es :=
  h.grown_ d.2 (fun a hn ha => by
    obtain ⟨b, off, h1, h2, h3, _⟩ := h.2.resolve_left hn
    rw [ha] at h1
    injection h1 with h1
    rw [h1]
    simp
    omega)
end Go.Proofs.YtjlmcppkafjniaaGreat

namespace Go.Proofs.YtjlmcppkafjniaaGreat
open Go.RowKit

/-- The first k pins of the list, put in one by one where they belong. -/
def sortL (es : List (Nat → Int)) : Nat → List (Nat → Int)
  | 0 => []
  | k + 1 => insL (sortL es k) (plcP (sortL es k) (fld es k) k) (fld es k)
theorem sortL_len (es : List (Nat → Int)) : ∀ k, (sortL es k).length = k
  | 0 => rfl
  | k + 1 => insL_len (sortL_len es k) plcP_le
theorem insL_perm (es : List (Nat → Int)) (k : Nat) (p : Nat → Int) : (insL es k p).Perm (p :: es) := by
  unfold insL
  refine List.perm_middle.trans ?_
  rw [List.take_append_drop]
theorem sortL_perm {es : List (Nat → Int)} : ∀ {k : Nat}, k ≤ es.length → (sortL es k).Perm (es.take k)
  | 0, _ => by simp [sortL]
  | k + 1, h => by
    refine (insL_perm _ _ _).trans ?_
    rw [List.take_add_one, List.getElem?_eq_getElem (by omega), fld_get (show k < es.length by omega)]
    exact ((sortL_perm (by omega)).cons _).trans (List.perm_append_singleton _ _).symm
theorem fld_insL_lt {es : List (Nat → Int)} {p : Nat → Int} {k i : Nat} (h : i < k) (hk : k ≤ es.length) : fld (insL es k p) i = fld es i := by
  funext j
  unfold fld insL
  rw [List.getD_eq_getElem?_getD, List.getD_eq_getElem?_getD, List.getElem?_append_left (by rw [List.length_take]; omega), List.getElem?_take_of_lt h]
theorem fld_insL_at {es : List (Nat → Int)} {p : Nat → Int} {k : Nat} (hk : k ≤ es.length) : fld (insL es k p) k = p := by
  funext j
  unfold fld insL
  rw [List.getD_eq_getElem?_getD, List.getElem?_append_right (by rw [List.length_take]; omega), List.length_take, Nat.min_eq_left (by omega), Nat.sub_self]
  rfl
theorem fld_insL_gt {es : List (Nat → Int)} {p : Nat → Int} {k i : Nat} (h : k ≤ i) (hk : k ≤ es.length) : fld (insL es k p) (i + 1) = fld es i := by
  funext j
  unfold fld insL
  rw [List.getD_eq_getElem?_getD, List.getD_eq_getElem?_getD, List.getElem?_append_right (by rw [List.length_take]; omega), List.length_take, Nat.min_eq_left (by omega), show i + 1 - k = (i - k) + 1 by omega, List.getElem?_cons_succ, List.getElem?_drop, show k + (i - k) = i by omega]
theorem plcP_lt {es : List (Nat → Int)} {p : Nat → Int} {n i : Nat} (h : i < plcP es p n) : ltP (fld es i) p := by
  unfold plcP at h
  split at h
  · rename_i hx
    have := ixOf_none hx i h
    simpa using this
  · rename_i k hk
    have := (ixOf_some hk).2.2 i h
    simpa using this
theorem plcP_at {es : List (Nat → Int)} {p : Nat → Int} {n : Nat} (h : plcP es p n < n) : ¬ ltP (fld es (plcP es p n)) p := by
  rcases hx : ixOf (fun i => !decide (ltP (fld es i) p)) n with _ | k
  · simp [plcP, hx] at h
  · have e : plcP es p n = k := by simp [plcP, hx]
    rw [e]
    have := (ixOf_some hx).2.1
    simpa using this
theorem ins_srt {es : List (Nat → Int)} {p : Nat → Int} {n : Nat} (hl : es.length = n) (h : Srt es n) : Srt (insL es (plcP es p n) p) (n + 1) := by
  have hp : plcP es p n ≤ n := plcP_le
  intro q hq
  rcases Nat.lt_trichotomy (q + 1) (plcP es p n) with h1 | h1 | h1
  · rw [fld_insL_lt h1 (by omega), fld_insL_lt (by omega) (by omega)]
    exact h q (by omega)
  · have h2 : ltP (fld es q) p := plcP_lt (n := n) (by omega)
    rw [h1, fld_insL_at (by omega), fld_insL_lt (by omega) (by omega)]
    exact ltP_asymm h2
  · rcases Nat.lt_or_ge (plcP es p n) q with h3 | h3
    · rw [fld_insL_gt (by omega) (by omega)]
      obtain ⟨r, rfl⟩ : ∃ r, q = r + 1 := ⟨q - 1, by omega⟩
      rw [fld_insL_gt (by omega) (by omega)]
      exact h r (by omega)
    · have h4 : q = plcP es p n := by omega
      rw [fld_insL_gt (by omega) (by omega)]
      have h5 : fld (insL es (plcP es p n) p) q = p := by rw [h4, fld_insL_at (by omega)]
      rw [h5, h4]
      exact plcP_at (by omega)
theorem sortL_srt (es : List (Nat → Int)) : ∀ k, Srt (sortL es k) k
  | 0 => fun q hq => absurd hq (by omega)
  | k + 1 => ins_srt (sortL_len es k) (sortL_srt es k)
open Classical in
/-- The pins of a wheel in order; none if it is not well. -/
noncomputable def pinsL (N : Nat) (S : Nat → Sp) : List (Nat → Int) := if WOK N S then sortL (allS S N) (tot S N) else []
theorem pinsL_yes {N : Nat} {S : Nat → Sp} (h : WOK N S) : pinsL N S = sortL (allS S N) (tot S N) := if_pos h
theorem pinsL_no {N : Nat} {S : Nat → Sp} (h : ¬ WOK N S) : pinsL N S = [] := if_neg h
theorem pinsL_len {N : Nat} {S : Nat → Sp} : (pinsL N S).length ≤ 10 := by
  by_cases h : WOK N S
  · rw [pinsL_yes h, sortL_len]
    exact h.2.1
  · rw [pinsL_no h]
    simp
theorem pinsL_sam {N : Nat} {S S' : Nat → Sp} (h : Sam N S S') : pinsL N S = pinsL N S' := by
  by_cases hw : WOK N S
  · rw [pinsL_yes hw, pinsL_yes (hw.sam h), allS_sam h (Nat.le_refl _), h.tot (Nat.le_refl _)]
  · rw [pinsL_no hw, pinsL_no (fun h2 => hw (h2.sam h.symm))]
theorem wok_nodup {N : Nat} {S : Nat → Sp} (hl : ∀ i, i < N → (S i).es.length = (S i).n) (h : WOK N S) : ((allS S N).map fun e => e 1).Nodup := by
  unfold List.Nodup
  rw [List.pairwise_iff_getElem]
  intro i j hi hj hij
  rw [List.length_map] at hi hj
  have hlen := allS_len hl
  have h1 := (h.2.2.1 j (by omega)).2 i hij
  rw [fld_get hi, fld_get hj] at h1
  simpa using h1
/-- Any list in order of the wheel's pins is the one. -/
theorem pinsL_of {N : Nat} {S : Nat → Sp} {es : List (Nat → Int)} (hl : ∀ i, i < N → (S i).es.length = (S i).n) (h : WOK N S) (hp : es.Perm (allS S N)) (hs : Srt es es.length) : es = pinsL N S := by
  rw [pinsL_yes h]
  have hlen := allS_len hl
  have h1 : (sortL (allS S N) (tot S N)).Perm (allS S N) := by
    have h2 := sortL_perm (es := allS S N) (k := tot S N) (by omega)
    rwa [List.take_of_length_le (by omega)] at h2
  refine srt_uniq hs (by rw [sortL_len]; exact sortL_srt _ _) (hp.trans h1.symm) ?_
  exact ((hp.map (fun e => e 1)).nodup_iff).2 (wok_nodup hl h)
end Go.Proofs.YtjlmcppkafjniaaGreat

namespace Go.Proofs.YtjlmcppkafjniaaGreat
open Go.RowKit

def SameR (N : Nat) (S : Nat → Sp) (N2 : Nat) (S2 : Nat → Sp) : Prop := WOK N S ∧ WOK N2 S2 ∧ SamL (pinsL N S) (pinsL N2 S2)
theorem SameR.sam {N N2 : Nat} {S S' S2 S2' : Nat → Sp} (h1 : Sam N S S') (h2 : Sam N2 S2 S2') (h : SameR N S N2 S2) : SameR N S' N2 S2' :=
  ⟨h.1.sam h1, h.2.1.sam h2, by rw [← pinsL_sam h1, ← pinsL_sam h2]; exact h.2.2⟩
end Go.Proofs.YtjlmcppkafjniaaGreat

namespace Go.Proofs.YtjlmcppkafjniaaGreat
open Go.RowKit

/-- Has the element this key? -/
def keyB (a b : Int) (e : Nat → Int) : Bool := (e 0 == a) && (e 1 == b)
theorem keyB_iff {a b : Int} {e : Nat → Int} : keyB a b e = true ↔ e 0 = a ∧ e 1 = b := by unfold keyB; simp
theorem keyB_self (e : Nat → Int) : keyB (e 0) (e 1) e = true := keyB_iff.2 ⟨rfl, rfl⟩
/-- The elements of every key are the same, in the same order. -/
def Stb (es' es : List (Nat → Int)) : Prop := ∀ a b, es'.filter (keyB a b) = es.filter (keyB a b)
theorem Stb.refl (es : List (Nat → Int)) : Stb es es := fun _ _ => rfl
theorem Stb.trans {e1 e2 e3 : List (Nat → Int)} (h : Stb e1 e2) (h2 : Stb e2 e3) : Stb e1 e3 := fun a b => (h a b).trans (h2 a b)
theorem Stb.symm {e1 e2 : List (Nat → Int)} (h : Stb e1 e2) : Stb e2 e1 := fun a b => (h a b).symm
theorem Stb.mem {e1 e2 : List (Nat → Int)} (h : Stb e1 e2) {x : Nat → Int} (hx : x ∈ e1) : x ∈ e2 := by
  have h1 : x ∈ e1.filter (keyB (x 0) (x 1)) := List.mem_filter.2 ⟨hx, keyB_self x⟩
  rw [h (x 0) (x 1)] at h1
  exact (List.mem_filter.1 h1).1

theorem ext_fld {l1 l2 : List (Nat → Int)} (hl : l1.length = l2.length) (h : ∀ i, i < l1.length → fld l1 i = fld l2 i) : l1 = l2 := by
  refine List.ext_getElem hl (fun i h1 h2 => ?_)
  rw [← fld_get h1, ← fld_get h2]
  exact h i h1
theorem fld_app_lt {l1 l2 : List (Nat → Int)} {i : Nat} (h : i < l1.length) : fld (l1 ++ l2) i = fld l1 i := by
  funext j
  unfold fld
  rw [List.getD_eq_getElem?_getD, List.getD_eq_getElem?_getD, List.getElem?_append_left h]
theorem fld_app_ge {l1 l2 : List (Nat → Int)} {i : Nat} (h : l1.length ≤ i) : fld (l1 ++ l2) i = fld l2 (i - l1.length) := by
  funext j
  unfold fld
  rw [List.getD_eq_getElem?_getD, List.getD_eq_getElem?_getD, List.getElem?_append_right h]
theorem fld_cons0 (x : Nat → Int) (l : List (Nat → Int)) : fld (x :: l) 0 = x := rfl
theorem fld_cons1 (x : Nat → Int) (l : List (Nat → Int)) (i : Nat) : fld (x :: l) (i + 1) = fld l i := rfl
theorem fld_takeF {es : List (Nat → Int)} {k i : Nat} (hi : i < k) : fld (es.take k) i = fld es i := funext fun _ => fld_take hi
theorem fld_dropF {es : List (Nat → Int)} {k i : Nat} : fld (es.drop k) i = fld es (k + i) := funext fun _ => fld_drop

/-- A row, parted at two neighbours. -/
theorem split_two {es : List (Nat → Int)} {m : Nat} (h : m + 1 < es.length) : es = es.take m ++ fld es m :: fld es (m + 1) :: es.drop (m + 2) := by
  refine ext_fld (by simp; omega) (fun i hi => ?_)
  have ht : (es.take m).length = m := by rw [List.length_take]; omega
  by_cases h1 : i < m
  · rw [fld_app_lt (by omega), fld_takeF h1]
  rw [fld_app_ge (by omega), ht]
  by_cases h2 : i = m
  · rw [show i - m = 0 by omega, fld_cons0, h2]
  by_cases h3 : i = m + 1
  · rw [show i - m = 0 + 1 by omega, fld_cons1, fld_cons0, h3]
  rw [show i - m = (i - m - 2) + 1 + 1 by omega, fld_cons1, fld_cons1, fld_dropF, show m + 2 + (i - m - 2) = i by omega]
theorem swp_two {es : List (Nat → Int)} {m : Nat} (h : m + 1 < es.length) : swp es (m + 1) = es.take m ++ fld es (m + 1) :: fld es m :: es.drop (m + 2) := by
  refine ext_fld (by rw [swp_len]; simp; omega) (fun i hi => ?_)
  rw [swp_len] at hi
  have ht : (es.take m).length = m := by rw [List.length_take]; omega
  by_cases h1 : i < m
  · rw [fld_app_lt (by omega), fld_takeF h1, swp_other (by omega) (by omega)]
  rw [fld_app_ge (by omega), ht]
  by_cases h2 : i = m
  · rw [show i - m = 0 by omega, fld_cons0, h2]
    exact swp_pred (j := m + 1) h
  by_cases h3 : i = m + 1
  · rw [show i - m = 0 + 1 by omega, fld_cons1, fld_cons0, h3]
    exact swp_at (j := m + 1) (by omega) h
  rw [show i - m = (i - m - 2) + 1 + 1 by omega, fld_cons1, fld_cons1, fld_dropF, show m + 2 + (i - m - 2) = i by omega, swp_other (by omega) (by omega)]
theorem filter_two {p : (Nat → Int) → Bool} {pre post : List (Nat → Int)} {x y : Nat → Int} (h : ¬ (p x = true ∧ p y = true)) : (pre ++ x :: y :: post).filter p = (pre ++ y :: x :: post).filter p := by
  rw [List.filter_append, List.filter_append]
  simp only [List.filter_cons]
  cases hx : p x <;> cases hy : p y <;> simp_all
/-- Two neighbours of different keys change places: stable. -/
theorem Stb.swp {es : List (Nat → Int)} {j : Nat} (h0 : 0 < j) (h : j < es.length) (hl : ltP (fld es j) (fld es (j - 1))) : Stb (swp es j) es := fun a b => by
  obtain ⟨m, rfl⟩ : ∃ m, j = m + 1 := ⟨j - 1, by omega⟩
  rw [show m + 1 - 1 = m by omega] at hl
  rw [swp_two h]
  conv => rhs; rw [split_two h]
  refine filter_two ?_
  rintro ⟨h1, h2⟩
  rw [keyB_iff] at h1 h2
  unfold ltP at hl
  omega

/-- In order: none stands behind one that it should stand ahead of. -/
def Pw (l : List (Nat → Int)) : Prop := l.Pairwise (fun a b => ¬ ltP b a)
theorem Pw.of_srt {es : List (Nat → Int)} (h : Srt es es.length) : Pw es := by
  unfold Pw
  rw [List.pairwise_iff_getElem]
  intro i j hi hj hij
  have h1 := Srt.pair h i j hij hj
  rw [fld_get hi, fld_get hj] at h1
  exact h1
theorem Pw.head {x y : Nat → Int} {t : List (Nat → Int)} (h : Pw (y :: t)) (hx : x ∈ y :: t) : ¬ ltP x y := by
  rcases List.mem_cons.1 hx with rfl | hx
  · intro h1; unfold ltP at h1; omega
  · exact (List.pairwise_cons.1 h).1 x hx
/-- Two rows in order whose keys have the same elements are one. -/
theorem stb_uniq : ∀ (l1 l2 : List (Nat → Int)), Pw l1 → Pw l2 → Stb l1 l2 → l1 = l2
  | [], [], _, _, _ => rfl
  | [], y :: t, _, _, h => by
    have h1 := h.symm.mem (List.mem_cons_self (a := y) (l := t))
    cases h1
  | x :: t, [], _, _, h => by
    have h1 := h.mem (List.mem_cons_self (a := x) (l := t))
    cases h1
  | x :: t1, y :: t2, h1, h2, h => by
    have hx := Pw.head h2 (h.mem (List.mem_cons_self (a := x) (l := t1)))
    have hy := Pw.head h1 (h.symm.mem (List.mem_cons_self (a := y) (l := t2)))
    have e0 : x 0 = y 0 ∧ x 1 = y 1 := by unfold ltP at hx hy; omega
    have hk := h (x 0) (x 1)
    have ky : keyB (x 0) (x 1) y = true := keyB_iff.2 ⟨e0.1.symm, e0.2.symm⟩
    rw [List.filter_cons, List.filter_cons, if_pos (keyB_self x), if_pos ky] at hk
    injection hk with hxy ht
    subst hxy
    rw [stb_uniq t1 t2 (List.pairwise_cons.1 h1).2 (List.pairwise_cons.1 h2).2 (fun a b => by
      have hab := h a b
      rw [List.filter_cons, List.filter_cons] at hab
      cases hb : keyB a b x
      · rw [hb] at hab
        simpa using hab
      · rw [hb] at hab
        simpa using hab)]

/-- An element is put ahead of the first that it need not stand behind. -/
def insF (e : Nat → Int) : List (Nat → Int) → List (Nat → Int)
  | [] => [e]
  | x :: l => if ltP x e then x :: insF e l else e :: x :: l
/-- The stable sort: the elements are put one by one, the last one first. -/
def sortR : List (Nat → Int) → List (Nat → Int)
  | [] => []
  | e :: l => insF e (sortR l)
theorem insF_mem {e x : Nat → Int} : ∀ {l : List (Nat → Int)}, x ∈ insF e l → x = e ∨ x ∈ l
  | [], h => by
    rcases List.mem_cons.1 h with h | h
    · exact .inl h
    · cases h
  | y :: l, h => by
    unfold insF at h
    split at h
    · rcases List.mem_cons.1 h with h | h
      · exact .inr (h ▸ List.mem_cons_self)
      · exact (insF_mem h).imp id (fun h => List.mem_cons_of_mem _ h)
    · rcases List.mem_cons.1 h with h | h
      · exact .inl h
      · exact .inr h
theorem insF_pw {e : Nat → Int} : ∀ {l : List (Nat → Int)}, Pw l → Pw (insF e l)
  | [], _ => by
    show Pw [e]
    unfold Pw
    simp
  | y :: l, h => by
    have h2 := List.pairwise_cons.1 h
    unfold insF
    split
    · rename_i hl
      refine List.pairwise_cons.2 ⟨fun x hx => ?_, insF_pw h2.2⟩
      rcases insF_mem hx with rfl | hx
      · exact ltP_asymm hl
      · exact h2.1 x hx
    · rename_i hl
      refine List.pairwise_cons.2 ⟨fun x hx => ?_, h⟩
      rcases List.mem_cons.1 hx with rfl | hx
      · exact hl
      · exact ltP_trans_not hl (h2.1 x hx)
theorem insF_stb {e : Nat → Int} : ∀ {l : List (Nat → Int)}, Stb (insF e l) (e :: l)
  | [], _, _ => rfl
  | y :: l, a, b => by
    unfold insF
    split
    · rename_i hl
      have h1 := insF_stb (e := e) (l := l) a b
      have h2 := filter_two (p := keyB a b) (pre := []) (post := l) (x := y) (y := e) (by
        rintro ⟨h1, h2⟩
        rw [keyB_iff] at h1 h2
        unfold ltP at hl
        omega)
      simp only [List.nil_append] at h2
      rw [← h2, List.filter_cons, h1, ← List.filter_cons]
    · rfl
theorem sortR_pw : ∀ l, Pw (sortR l)
  | [] => List.Pairwise.nil
  | _ :: l => insF_pw (sortR_pw l)
theorem sortR_stb : ∀ l, Stb (sortR l) l
  | [], _, _ => rfl
  | e :: l, a, b => by
    have h1 := insF_stb (e := e) (l := sortR l) a b
    have h2 := sortR_stb l a b
    show (insF e (sortR l)).filter (keyB a b) = _
    rw [h1, List.filter_cons, List.filter_cons, h2]
/-- Whatever sorts stably comes to the same row. -/
theorem sortR_of {es' es : List (Nat → Int)} (h : Pw es') (h2 : Stb es' es) : es' = sortR es :=
  stb_uniq _ _ h (sortR_pw es) (h2.trans (sortR_stb es).symm)
end Go.Proofs.YtjlmcppkafjniaaGreat
