/-
  Contracts of the functions that copy, compare, mark and check slices of integers. No conditions beyond those stated.
-/
import Derived.Test.YtjlmcppkafjniaaGreatPo
import Derived.Test.YtjlmcppkafjniaaGreatSe
import Derived.Test.YtjlmcppkafjniaaGreatWa
import Derived.Test.YtjlmcppkafjniaaGreatQa
import Derived.Test.YtjlmcppkafjniaaGreatEs
import Derived.Test.YtjlmcppkafjniaaGreatSl
namespace Go.Proofs.YtjlmcppkafjniaaGreat
open Go.RowKit

def SameR (N : Nat) (S : Nat → Sp) (N2 : Nat) (S2 : Nat → Sp) : Prop := WOK N S ∧ WOK N2 S2 ∧ SamL (pinsL N S) (pinsL N2 S2)
theorem SameR.sam {N N2 : Nat} {S S' S2 S2' : Nat → Sp} (h1 : Sam N S S') (h2 : Sam N2 S2 S2') (h : SameR N S N2 S2) : SameR N S' N2 S2' :=
  ⟨h.1.sam h1, h.2.1.sam h2, by rw [← pinsL_sam h1, ← pinsL_sam h2]; exact h.2.2⟩
end Go.Proofs.YtjlmcppkafjniaaGreat

namespace Go.Proofs.YtjlmcppkafjniaaGreat
open Go.RowKit

/-- Has the element this key? -/
def keyB (a b : Int) (e : Nat → Int) : Bool := (e 0 == a) && (e 1 == b)
theorem keyB_iff {a b : Int} {e : Nat → Int} : keyB a b e = true ↔ e 0 = a ∧ e 1 = b := by unfold keyB; simp
theorem keyB_self (e : Nat → Int) : keyB (e 0) (e 1) e = true := keyB_iff.2 ⟨rfl, rfl⟩
/-- The elements of every key are the same, in the same order. -/
def Stb (es' es : List (Nat → Int)) : Prop := ∀ a b, es'.filter (keyB a b) = es.filter (keyB a b)
theorem Stb.refl (es : List (Nat → Int)) : Stb es es := fun _ _ => rfl
theorem Stb.trans {e1 e2 e3 : List (Nat → Int)} (h : Stb e1 e2) (h2 : Stb e2 e3) : Stb e1 e3 := fun a b => (h a b).trans (h2 a b)
theorem Stb.symm {e1 e2 : List (Nat → Int)} (h : Stb e1 e2) : Stb e2 e1 := fun a b => (h a b).symm
theorem Stb.mem {e1 e2 : List (Nat → Int)} (h : Stb e1 e2) {x : Nat → Int} (hx : x ∈ e1) : x ∈ e2 := by
  have h1 : x ∈ e1.filter (keyB (x 0) (x 1)) := List.mem_filter.2 ⟨hx, keyB_self x⟩
  rw [h (x 0) (x 1)] at h1
  exact (List.mem_filter.1 h1).1

theorem ext_fld {l1 l2 : List (Nat → Int)} (hl : l1.length = l2.length) (h : ∀ i, i < l1.length → fld l1 i = fld l2 i) : l1 = l2 := by
  refine List.ext_getElem hl (fun i h1 h2 => ?_)
  rw [← fld_get h1, ← fld_get h2]
  exact h i h1
theorem fld_app_lt {l1 l2 : List (Nat → Int)} {i : Nat} (h : i < l1.length) : fld (l1 ++ l2) i = fld l1 i := by
  funext j
  unfold fld
  rw [List.getD_eq_getElem?_getD, List.getD_eq_getElem?_getD, List.getElem?_append_left h]
theorem fld_app_ge {l1 l2 : List (Nat → Int)} {i : Nat} (h : l1.length ≤ i) : fld (l1 ++ l2) i = fld l2 (i - l1.length) := by
  funext j
  unfold fld
  rw [List.getD_eq_getElem?_getD, List.getD_eq_getElem?_getD, List.getElem?_append_right h]
theorem fld_cons0 (x : Nat → Int) (l : List (Nat → Int)) : fld (x :: l) 0 = x := rfl
theorem fld_cons1 (x : Nat → Int) (l : List (Nat → Int)) (i : Nat) : fld (x :: l) (i + 1) = fld l i := rfl
theorem fld_takeF {es : List (Nat → Int)} {k i : Nat} (hi : i < k) : fld (es.take k) i = fld es i := funext fun _ => fld_take hi
theorem fld_dropF {es : List (Nat → Int)} {k i : Nat} : fld (es.drop k) i = fld es (k + i) := funext fun _ => fld_drop

/-- A row, parted at two neighbours. -/
theorem split_two {es : List (Nat → Int)} {m : Nat} (h : m + 1 < es.length) : es = es.take m ++ fld es m :: fld es (m + 1) :: es.drop (m + 2) := by
  refine ext_fld (by simp; omega) (fun i hi => ?_)
  have ht : (es.take m).length = m := by rw [List.length_take]; omega
  by_cases h1 : i < m
  · rw [fld_app_lt (by omega), fld_takeF h1]
  rw [fld_app_ge (by omega), ht]
  by_cases h2 : i = m
  · rw [show i - m = 0 by omega, fld_cons0, h2]
  by_cases h3 : i = m + 1
  · rw [show i - m = 0 + 1 by omega, fld_cons1, fld_cons0, h3]
  rw [show i - m = (i - m - 2) + 1 + 1 by omega, fld_cons1, fld_cons1, fld_dropF, show m + 2 + (i - m - 2) = i by omega]
theorem swp_two {es : List (Nat → Int)} {m : Nat} (h : m + 1 < es.length) : swp es (m + 1) = es.take m ++ fld es (m + 1) :: fld es m :: es.drop (m + 2) := by
  refine ext_fld (by rw [swp_len]; simp; omega) (fun i hi => ?_)
  rw [swp_len] at hi
  have ht : (es.take m).length = m := by rw [List.length_take]; omega
  by_cases h1 : i < m
  · rw [fld_app_lt (by omega), fld_takeF h1, swp_other (by omega) (by omega)]
  rw [fld_app_ge (by omega), ht]
  by_cases h2 : i = m
  · rw [show i - m = 0 by omega, fld_cons0, h2]
    exact swp_pred (j := m + 1) h
  by_cases h3 : i = m + 1
  · rw [show i - m = 0 + 1 by omega, fld_cons1, fld_cons0, h3]
    exact swp_at (j := m + 1) (by omega) h
  rw [show i - m = (i - m - 2) + 1 + 1 by omega, fld_cons1, fld_cons1, fld_dropF, show m + 2 + (i - m - 2) = i by omega, swp_other (by omega) (by omega)]
theorem filter_two {p : (Nat → Int) → Bool} {pre post : List (Nat → Int)} {x y : Nat → Int} (h : ¬ (p x = true ∧ p y = true)) : (pre ++ x :: y :: post).filter p = (pre ++ y :: x :: post).filter p := by
  rw [List.filter_append, List.filter_append]
  simp only [List.filter_cons]
  cases hx : p x <;> cases hy : p y <;> simp_all
/-- Two neighbours of different keys change places: stable. -/
theorem Stb.swp {es : List (Nat → Int)} {j : Nat} (h0 : 0 < j) (h : j < es.length) (hl : ltP (fld es j) (fld es (j - 1))) : Stb (swp es j) es := fun a b => by
  obtain ⟨m, rfl⟩ : ∃ m, j = m + 1 := ⟨j - 1, by omega⟩
  rw [show m + 1 - 1 = m by omega] at hl
  rw [swp_two h]
  conv => rhs; rw [split_two h]
  refine filter_two ?_
  rintro ⟨h1, h2⟩
  rw [keyB_iff] at h1 h2
  unfold ltP at hl
  omega

/-- In order: none stands behind one that it should stand ahead of. -/
def Pw (l : List (Nat → Int)) : Prop := l.Pairwise (fun a b => ¬ ltP b a)
theorem Pw.of_srt {es : List (Nat → Int)} (h : Srt es es.length) : Pw es := by
  unfold Pw
  rw [List.pairwise_iff_getElem]
  intro i j hi hj hij
  have h1 := Srt.pair h i j hij hj
  rw [fld_get hi, fld_get hj] at h1
  exact h1
theorem Pw.head {x y : Nat → Int} {t : List (Nat → Int)} (h : Pw (y :: t)) (hx : x ∈ y :: t) : ¬ ltP x y := by
  rcases List.mem_cons.1 hx with rfl | hx
  · intro h1; unfold ltP at h1; omega
  · exact (List.pairwise_cons.1 h).1 x hx
/-- Two rows in order whose keys have the same elements are one. -/
theorem stb_uniq : ∀ (l1 l2 : List (Nat → Int)), Pw l1 → Pw l2 → Stb l1 l2 → l1 = l2
  | [], [], _, _, _ => rfl
  | [], y :: t, _, _, h => by
    have h1 := h.symm.mem (List.mem_cons_self (a := y) (l := t))
    cases h1
  | x :: t, [], _, _, h => by
    have h1 := h.mem (List.mem_cons_self (a := x) (l := t))
    cases h1
  | x :: t1, y :: t2, h1, h2, h => by
    have hx := Pw.head h2 (h.mem (List.mem_cons_self (a := x) (l := t1)))
    have hy := Pw.head h1 (h.symm.mem (List.mem_cons_self (a := y) (l := t2)))
    have e0 : x 0 = y 0 ∧ x 1 = y 1 := by unfold ltP at hx hy; omega
    have hk := h (x 0) (x 1)
    have ky : keyB (x 0) (x 1) y = true := keyB_iff.2 ⟨e0.1.symm, e0.2.symm⟩
    rw [List.filter_cons, List.filter_cons, if_pos (keyB_self x), if_pos ky] at hk
    injection hk with hxy ht
    subst hxy
    rw [stb_uniq t1 t2 (List.pairwise_cons.1 h1).2 (List.pairwise_cons.1 h2).2 (fun a b => by
      have hab := h a b
      rw [List.filter_cons, List.filter_cons] at hab
      cases hb : keyB a b x
      · rw [hb] at hab
        simpa using hab
      · rw [hb] at hab
        simpa using hab)]

/-- An element is put ahead of the first that it need not stand behind. -/
def insF (e : Nat → Int) : List (Nat → Int) → List (Nat → Int)
  | [] => [e]
  | x :: l => if ltP x e then x :: insF e l else e :: x :: l
/-- The stable sort: the elements are put one by one, the last one first. -/
def sortR : List (Nat → Int) → List (Nat → Int)
  | [] => []
  | e :: l => insF e (sortR l)
theorem insF_mem {e x : Nat → Int} : ∀ {l : List (Nat → Int)}, x ∈ insF e l → x = e ∨ x ∈ l
  | [], h => by
    rcases List.mem_cons.1 h with h | h
    · exact .inl h
    · cases h
  | y :: l, h => by
    unfold insF at h
    split at h
    · rcases List.mem_cons.1 h with h | h
      · exact .inr (h ▸ List.mem_cons_self)
      · exact (insF_mem h).imp id (fun h => List.mem_cons_of_mem _ h)
    · rcases List.mem_cons.1 h with h | h
      · exact .inl h
      · exact .inr h
theorem insF_pw {e : Nat → Int} : ∀ {l : List (Nat → Int)}, Pw l → Pw (insF e l)
  | [], _ => by
    show Pw [e]
    unfold Pw
    simp
  | y :: l, h => by
    have h2 := List.pairwise_cons.1 h
    unfold insF
    split
    · rename_i hl
      refine List.pairwise_cons.2 ⟨fun x hx => ?_, insF_pw h2.2⟩
      rcases insF_mem hx with rfl | hx
      · exact ltP_asymm hl
      · exact h2.1 x hx
    · rename_i hl
      refine List.pairwise_cons.2 ⟨fun x hx => ?_, h⟩
      rcases List.mem_cons.1 hx with rfl | hx
      · exact hl
      · exact ltP_trans_not hl (h2.1 x hx)
theorem insF_stb {e : Nat → Int} : ∀ {l : List (Nat → Int)}, Stb (insF e l) (e :: l)
  | [], _, _ => rfl
  | y :: l, a, b => by
    unfold insF
    split
    · rename_i hl
      have h1 := insF_stb (e := e) (l := l) a b
      have h2 := filter_two (p := keyB a b) (pre := []) (post := l) (x := y) (y := e) (by
        rintro ⟨h1, h2⟩
        rw [keyB_iff] at h1 h2
        unfold ltP at hl
        omega)
      simp only [List.nil_append] at h2
      rw [← h2, List.filter_cons, h1, ← List.filter_cons]
    · rfl
theorem sortR_pw : ∀ l, Pw (sortR l)
  | [] => List.Pairwise.nil
  | _ :: l => insF_pw (sortR_pw l)
theorem sortR_stb : ∀ l, Stb (sortR l) l
  | [], _, _ => rfl
  | e :: l, a, b => by
    have h1 := insF_stb (e := e) (l := sortR l) a b
    have h2 := sortR_stb l a b
    show (insF e (sortR l)).filter (keyB a b) = _
    rw [h1, List.filter_cons, List.filter_cons, h2]
/-- Whatever sorts stably comes to the same row. -/
theorem sortR_of {es' es : List (Nat → Int)} (h : Pw es') (h2 : Stb es' es) : es' = sortR es :=
  stb_uniq _ _ h (sortR_pw es) (h2.trans (sortR_stb es).symm)
end Go.Proofs.YtjlmcppkafjniaaGreat

namespace Go.Proofs.YtjlmcppkafjniaaGreat
open Go.RowKit

end Go.Proofs.YtjlmcppkafjniaaGreat
