/-
  A gathered wheel with one spoke in another's place; what draws and stores elsewhere leave. No conditions.
-/
import Derived.Test.YtehmanlpgjccoaaWx
import Derived.Test.YtehmanlpgjccoaaDz
import Derived.Test.YtehmanlpgjccoaaWo
namespace Go.Proofs.Ytehmanlpgjccoaa
open Go.RowKit

theorem heap_set_obj {w : World} {b k : Nat} {cur : Array Value} {t : TypeId} {fr : Nat × Nat} (hh : w.heap[b]? = some (.cells cur t fr)) (v : Value) : (w.setCell ⟨b, k, none⟩ v).heap[b]? = some (.cells (cur.setIfInBounds k v) t fr) := by
  simp [World.setCell, Array.getElem?_modify, hh]
theorem row_set_ne {base : Nat} {w : World} {e : TypeId} {K n : Nat} {v : Value} {xs : List Value} (h : w.ownsRow base e K v n xs) {p : Addr} (hp : v.ownBlock ≠ some p.block) (u : Value) : (w.setCell p u).ownsRow base e K v n xs :=
  ⟨h.1, h.2.imp id fun ⟨g, cap, cur, h1, h2, hh, h3⟩ => ⟨g, cap, cur, h1, h2, (Below.heap_setCell w p u g (fun e => hp (by rw [h1, e]; rfl))).trans hh, h3⟩⟩
theorem Gat.set_ne {B k : Nat} {w : World} {v : Value} {S : Nat → Sp} (h : Gat B w v k S) {p : Addr} (hv : v.ownBlock ≠ some p.block) (hs : ∀ i, i < k → (S i).v.ownBlock ≠ some p.block) (u : Value) : Gat B (w.setCell p u) v k S :=
  ⟨row_set_ne h.row hv u, fun i hi => ⟨row_set_ne (h.own i hi).1 (hs i hi) u, (h.own i hi).2⟩, h.apart, h.nr⟩
theorem Gat.drew_c {B cb k : Nat} {w w' : World} {v : Value} {S : Nat → Sp} (h : Gat B w v k S) (d : Drew w cb w') (hcb : cb < B) : Gat B w' v k S :=
  ⟨row_drew h.row d hcb, fun i hi => ⟨row_drew (h.own i hi).1 d hcb, (h.own i hi).2⟩, h.apart, h.nr⟩
theorem Gat.putG {B N k c : Nat} {w w' : World} {A : Option Addr} {S : Nat → Sp} {s : Sp} (h : Gat B w (.slice A N c) N S) (hk : k < N) (hg : w.grownBy w' (S k).v.ownBlock) (ho : w'.ownsRow B 28 2 s.v s.n (flat 2 s.es)) (hl : s.es.length = s.n)
    (hloc : ∀ a, s.v.ownBlock = some a → (S k).v.ownBlock = some a ∨ w.heap.size ≤ a) :
    ∃ b, A = some ⟨b, 0, none⟩ ∧ b < w.heap.size ∧ B ≤ b ∧ (∃ u, w'.cell? ⟨b, k, none⟩ = some u) ∧ w'.frozen? ⟨b, k, none⟩ = false ∧ Gat B (w'.setCell ⟨b, k, none⟩ s.v) (.slice A N c) N (updS S k s) := by
  have hN : 0 < N := by omega
  have hrow0 := h.row
  rcases hrow0.2 with ⟨_, h0⟩ | ⟨b, cap, cur, hv, hgB, hh, hnc, hcm, hsz, htk⟩
  · omega
  injection hv with hv1 _ hv3
  have hbw : b < w.heap.size := (Array.getElem?_eq_some_iff.1 hh).1
  have hrow : ∀ i a, i < N → (S i).v.ownBlock = some a → a ≠ b := fun i a hi ha e => h.nr i a hi ha (by rw [hv1, e]; rfl)
  have hbk : some b ≠ (S k).v.ownBlock := fun e => hrow k b hk e.symm rfl
  have hh' : w'.heap[b]? = some (.cells cur 34 (0, 0)) := (hg.block b hbw hbk).trans hh
  have hnew : ∀ a, s.v.ownBlock = some a → a ≠ b := fun a ha e => by
    rcases hloc a ha with h1 | h1
    · exact hrow k a hk h1 e
    · omega
  have hlen : cur.toList.length = cap * 1 := by rw [Array.length_toList]; exact hsz
  have hckl : k < cur.toList.length := by omega
  refine ⟨b, hv1, hbw, hgB, ⟨cur[k]'(by simpa using hckl), ?_⟩, frozen_of_heap hh', ⟨?_, fun i hi => ?_, fun i j a a2 hi hj hij ha ha2 => ?_, fun i a hi ha => ?_⟩⟩
  · rw [cell_of_heap hh']
    simp [Array.getElem?_eq_getElem (show k < cur.size by simpa using hckl)]
  · refine ⟨by simp, .inr ⟨b, cap, cur.setIfInBounds k s.v, by rw [hv1, hv3], hgB, heap_set_obj hh' _, hnc, hcm, by rw [Array.size_setIfInBounds]; exact hsz, ?_⟩⟩
    refine List.ext_getElem? fun i => ?_
    rw [List.getElem?_take, List.getElem?_map]
    by_cases hi : i < N * 1
    · rw [if_pos hi, List.getElem?_range (by omega), Array.toList_setIfInBounds, List.getElem?_set]
      have h3 : ((List.range N).map fun i => (S i).v)[i]? = some (S i).v := by
        rw [List.getElem?_map, List.getElem?_range (by omega)]
        rfl
      rw [← htk, List.getElem?_take, if_pos (by omega)] at h3
      unfold updS
      by_cases hik : k = i
      · subst hik
        rw [if_pos rfl, if_pos hckl]
        simp
      · rw [if_neg hik, h3]
        have hik2 : ¬ i = k := fun e => hik e.symm
        simp [hik2]
    · rw [if_neg hi, List.getElem?_eq_none (by rw [List.length_range]; omega)]
      rfl
  · unfold updS
    by_cases hik : i = k
    · rw [if_pos hik]
      exact ⟨row_set_ne ho (fun e => hnew b e rfl) _, hl⟩
    · rw [if_neg hik]
      obtain ⟨h1, h2⟩ := h.own i hi
      exact ⟨row_set_ne (row_grown h1 hg fun a ha e => h.apart i k a a hi hk hik ha e.symm rfl) (fun e => hrow i b hi e rfl) _, h2⟩
  · unfold updS at ha ha2
    by_cases hik : i = k <;> by_cases hjk : j = k
    · omega
    · rw [if_pos hik] at ha
      rw [if_neg hjk] at ha2
      rcases hloc a ha with h5 | h5
      · exact h.apart k j a a2 hk hj (by omega) h5 ha2
      · have := row_lt (h.own j hj).1 _ ha2
        omega
    · rw [if_neg hik] at ha
      rw [if_pos hjk] at ha2
      rcases hloc a2 ha2 with h5 | h5
      · exact h.apart i k a a2 hi hk hik ha h5
      · have := row_lt (h.own i hi).1 _ ha
        omega
    · rw [if_neg hik] at ha
      rw [if_neg hjk] at ha2
      exact h.apart i j a a2 hi hj hij ha ha2
  · unfold updS at ha
    intro e
    have e2 : a = b := by
      rw [hv1] at e
      have : some b = some a := e
      injection this with this
      exact this.symm
    by_cases hik : i = k
    · rw [if_pos hik] at ha
      exact hnew a ha e2
    · rw [if_neg hik] at ha
      exact hrow i a hi ha e2
theorem put_tot {S S' : Nat → Sp} {p : Nat → Int} {E : Nat → List (Nat → Int)} {b : Bool} (h : PutR 9 S p E b) (h0 : tot S 9 ≤ 10) (hl : ∀ i, i < 9 → (S i).es.length = (S i).n) (hl' : ∀ i, i < 9 → (S' i).es.length = (S' i).n) (he : ∀ i, i < 9 → (S' i).es = E i) : tot S' 9 ≤ 10 := by
  cases b
  · rcases h with ⟨h1, _⟩ | ⟨_, _, h2⟩
    · cases h1
    · rw [tot_congr (S := S') (S' := S) fun i hi => by rw [← hl' i hi, ← hl i hi, he i hi, h2 i hi]]
      exact h0
  · exact put_ten h hl hl' he
end Go.Proofs.Ytehmanlpgjccoaa
