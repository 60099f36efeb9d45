/-
  Contracts of QueueCut of the program and of the reference. No conditions beyond those stated.
-/
import Derived.Test.YthideehlhhpkjaaCo
import Derived.Test.YthideehlhhpkjaaCu
import Derived.Test.YthideehlhhpkjaaDe
import Derived.Test.YthideehlhhpkjaaQa
import Derived.Test.YthideehlhhpkjaaMk
namespace Go.Proofs.Ythideehlhhpkjaa
open Go.RowKit

/-- The first index below n that satisfies p. -/
def ixOf (p : Nat → Bool) (n : Nat) : Option Nat := (List.range n).find? p
theorem ixOf_none {p : Nat → Bool} {n : Nat} (h : ixOf p n = none) : ∀ i, i < n → p i = false := fun i hi => by
  have := List.find?_eq_none.1 h i (List.mem_range.2 hi)
  simpa using this
theorem ixOf_some {p : Nat → Bool} {n k : Nat} (h : ixOf p n = some k) : k < n ∧ p k = true ∧ ∀ i, i < k → p i = false := by
  have h1 := List.find?_some h
  have h2 : k < n := List.mem_range.1 (List.mem_of_find?_eq_some h)
  refine ⟨h2, h1, fun i hi => ?_⟩
  unfold ixOf at h
  rw [List.find?_range_eq_some] at h
  have := h.2.2 i hi
  simpa using this
theorem ixOf_firstAt {p : Nat → Bool} {n : Nat} : FirstAt p n (match ixOf p n with | none => -1 | some k => (k : Int)) := by
  rcases h : ixOf p n with _ | k
  · exact .inr ⟨rfl, ixOf_none h⟩
  · obtain ⟨h1, h2, h3⟩ := ixOf_some h
    exact .inl ⟨k, h1, rfl, h2, h3⟩
/-- The list without its first element of which p holds. -/
def cutT (es : List (Nat → Int)) (p : Nat → Bool) (n : Nat) : List (Nat → Int) := match ixOf p n with | none => es | some k => cutL es k
def cutB (p : Nat → Bool) (n : Nat) : Bool := (ixOf p n).isSome

theorem wrap_add1 (k : Nat) (h : k ≤ 4611686018427387904) : IntKind.i64.wrap ((k : Int) + 1) = (k : Int) + 1 := by rw [IntKind.wrap_i64]; omega

set_option maxHeartbeats 1000000 in
theorem sQueueCut_n (A : Option Addr) (n c : Nat) (id : Int) (es : List (Nat → Int)) (w : World) (hn : n ≤ 4194304) (h : Rd w 4 A n es) (hall : ∀ i, i < n → hasId es id i = false) :
    Calls Try.prog 24 #[.slice A n c, .int .i64 id] w fun y w' => ∃ v, y = .returned (.tuple #[v, .bool false]) ∧ w'.ownsRow w.heap.size 41 4 v n (flat 4 es) ∧ Below w.heap.size w w' := by
  have H := Lib.hid h
  have HA := Lib.hid hall
  clear h hall
  go_enter Try.func24, Try.ntmps24
  go_wp2_with fail
  refine (sQueueAt_any A n c id es w hn H.out).mono ?_
  rintro y w1 ⟨r, hr, rfl, b1⟩
  obtain rfl : r = -1 := hr.uniq (.inr ⟨rfl, HA.out⟩)
  clear hr
  have s1 := b1.size
  go_wp2_with fail
  refine (l7Copy_any A n c es _ hn (H.out.below b1)).mono ?_
  rintro y w2 ⟨v, rfl, o2, b2⟩
  have O2 := Lib.hid (o2.lower s1)
  clear o2
  go_wp2
  go_ret2
  exact ⟨v, rfl, O2.out, by (repeat (first | with_reducible exact Below.refl _ _ | with_reducible refine Below.drew ?_ | with_reducible refine below_drewN ?_ _ | (with_reducible refine bel_alloc ?_ ?_ _; (first | omega | (simp; omega) | simp)) | (with_reducible refine bel_set ?_ ?_ _; (first | omega | (simp; omega) | simp)) | (with_reducible refine bel_tr (by assumption) ?_ ?_; (first | omega | (simp; omega) | simp))))⟩

set_option maxHeartbeats 2000000 in
theorem sQueueCut_y (A : Option Addr) (n c k : Nat) (id : Int) (es : List (Nat → Int)) (w : World) (hn : n ≤ 4194304) (hc : n ≤ c) (hcm : c ≤ 9223372036854775807) (h : Rd w 4 A n es) (hk : k < n) (hp : hasId es id k = true) (hb : ∀ i, i < k → hasId es id i = false) :
    Calls Try.prog 24 #[.slice A n c, .int .i64 id] w fun y w' => ∃ v, y = .returned (.tuple #[v, .bool true]) ∧ w'.ownsRow w.heap.size 41 4 v (k + (n - (k + 1))) (flat 4 (cutL es k)) ∧ Below w.heap.size w w' := by
  have H := Lib.hid h
  have HF : Hid (FirstAt (hasId es id) n (k : Int)) := .inl ⟨k, hk, rfl, hp, hb⟩
  obtain ⟨b, off, rfl, _, _⟩ := h.2.resolve_left (by omega)
  clear h hp hb
  obtain ⟨i0, hi0, hz0, hz1, hz2⟩ := info_parts copyEntries_info
  obtain ⟨A', hA', hsrc⟩ : ∃ A', (if c = k + 1 then some (⟨b, off, none⟩ : Addr) else some ⟨b, off + (k + 1) * 4, none⟩) = some A' ∧ Hid (∀ W : World, Below w.heap.size w W → Rd W 4 (some A') (n - (k + 1)) (es.drop (k + 1))) := by
    by_cases hck : c = k + 1
    · refine ⟨⟨b, off, none⟩, if_pos hck, fun W hW => ?_⟩
      rw [show n - (k + 1) = 0 by omega]
      exact (H.out.below hW).none_left (k := k + 1) (by omega)
    · exact ⟨⟨b, off + (k + 1) * 4, none⟩, if_neg hck, fun W hW => (H.out.below hW).drop (by omega)⟩
  have e1 := wrap_add1 k (by omega)
  have e2 : (0 : Int) ≤ (k : Int) + 1 := by omega
  have e3 : ((k : Int) + 1).toNat = k + 1 := by omega
  have hkc : k ≤ c := by omega
  have hkn : k + 1 ≤ n := by omega
  have hki : (k : Int) + 1 ≤ (n : Int) := by omega
  have hk0 : (0 : Int) ≤ (k : Int) := by omega
  go_enter Try.func24, Try.ntmps24
  go_wp2_with fail
  refine (sQueueAt_any _ n c id es w hn H.out).mono ?_
  rintro y w1 ⟨r, hr, rfl, b1⟩
  obtain rfl : r = (k : Int) := hr.uniq HF.out
  clear hr
  have s1 := b1.size
  go_wp2
  go_region_held3 (fun _ => True) (trivial) (first
    | (go_at_call 60; refine (l7Copy_any _ _ _ (es.take k) _ (by omega) ((H.out.below (by (repeat (first | with_reducible exact Below.refl _ _ | with_reducible refine Below.drew ?_ | with_reducible refine below_drewN ?_ _ | (with_reducible refine bel_alloc ?_ ?_ _; (first | omega | (simp; omega) | simp)) | (with_reducible refine bel_set ?_ ?_ _; (first | omega | (simp; omega) | simp)) | (with_reducible refine bel_tr (by assumption) ?_ ?_; (first | omega | (simp; omega) | simp)))))).take (by omega))).mono ?_; rintro y w2 ⟨v, rfl, o2, b2⟩; have s2 := b2.size; (try simp at s2); have O2 := Lib.hid o2; clear o2)
    | (refine step_append_rd _ (by rfl) _ _ 25 (by rfl) w1.heap.size 41 i0 _ 4 32 Try.underlying25 hi0 hz0 hz1 hz2 (by rfl) (by omega) _ k (es.take k) (by rfl) O2.out (some A') (n - (k + 1)) (c - (k + 1)) (es.drop (k + 1)) (by rfl) (hsrc.out _ (by (repeat (first | with_reducible exact Below.refl _ _ | with_reducible refine Below.drew ?_ | with_reducible refine below_drewN ?_ _ | (with_reducible refine bel_alloc ?_ ?_ _; (first | omega | (simp; omega) | simp)) | (with_reducible refine bel_set ?_ ?_ _; (first | omega | (simp; omega) | simp)) | (with_reducible refine bel_tr (by assumption) ?_ ?_; (first | omega | (simp; omega) | simp)))))) (by unfold maxLen; omega) (by omega) (by omega) ?_; intro v4 w4 hown4 hg4 hat4)
    )
  go_wp2
  go_ret2
  refine ⟨_, rfl, hown4.lower s1, Below.grown (show Below w.heap.size w w2 from by (repeat (first | with_reducible exact Below.refl _ _ | with_reducible refine Below.drew ?_ | with_reducible refine below_drewN ?_ _ | (with_reducible refine bel_alloc ?_ ?_ _; (first | omega | (simp; omega) | simp)) | (with_reducible refine bel_set ?_ ?_ _; (first | omega | (simp; omega) | simp)) | (with_reducible refine bel_tr (by assumption) ?_ ?_; (first | omega | (simp; omega) | simp))))) hg4 (by omega) (row_ge O2.out s1)⟩
set_option maxHeartbeats 1000000 in
theorem iQueueCut_n (A : Option Addr) (n c : Nat) (id : Int) (es : List (Nat → Int)) (w : World) (hn : n ≤ 4194304) (h : Rd w 4 A n es) (hall : ∀ i, i < n → hasId es id i = false) :
    Calls Try.prog 25 #[.slice A n c, .int .i64 id] w fun y w' => ∃ v, y = .returned (.tuple #[v, .bool false]) ∧ w'.ownsRow w.heap.size 41 4 v n (flat 4 es) ∧ Below w.heap.size w w' := by
  have H := Lib.hid h
  have HA := Lib.hid hall
  clear h hall
  go_enter Try.func25, Try.ntmps25
  go_wp2_with fail
  refine (copyEntries_any A n c es _ hn H.out).mono ?_
  rintro y w1 ⟨v, rfl, o1, b1⟩
  have s1 := b1.size
  have O1 := Lib.hid o1
  clear o1
  go_wp2_with fail
  refine (iQueueAt_any A n c id es _ hn (H.out.below b1)).mono ?_
  rintro y w2 ⟨r, hr, rfl, b2⟩
  obtain rfl : r = -1 := hr.uniq (.inr ⟨rfl, HA.out⟩)
  clear hr
  go_wp2
  go_ret2
  exact ⟨v, rfl, row_below O1.out b2, by (repeat (first | with_reducible exact Below.refl _ _ | with_reducible refine Below.drew ?_ | with_reducible refine below_drewN ?_ _ | (with_reducible refine bel_alloc ?_ ?_ _; (first | omega | (simp; omega) | simp)) | (with_reducible refine bel_set ?_ ?_ _; (first | omega | (simp; omega) | simp)) | (with_reducible refine bel_tr (by assumption) ?_ ?_; (first | omega | (simp; omega) | simp))))⟩

set_option maxHeartbeats 1000000 in
theorem iQueueCut_y (A : Option Addr) (n c k : Nat) (id : Int) (es : List (Nat → Int)) (w : World) (hn : n ≤ 4194304) (h : Rd w 4 A n es) (hk : k < n) (hp : hasId es id k = true) (hb : ∀ i, i < k → hasId es id i = false) :
    Calls Try.prog 25 #[.slice A n c, .int .i64 id] w fun y w' => ∃ A' c', y = .returned (.tuple #[.slice A' (n - 1) c', .bool true]) ∧ Own w.heap.size w' 4 A' (n - 1) (cutL es k) ∧ Below w.heap.size w w' := by
  have HL := Lib.hid h.1
  have H := Lib.hid h
  have HF : Hid (FirstAt (hasId es id) n (k : Int)) := .inl ⟨k, hk, rfl, hp, hb⟩
  clear h hp hb
  have e1 := wrap_add1 k (by omega)
  go_enter Try.func25, Try.ntmps25
  go_wp2_with fail
  refine (copyEntries_any A n c es _ hn H.out).mono ?_
  rintro y w1 ⟨v, rfl, o1, b1⟩
  have s1 := b1.size
  obtain ⟨g, cap, rfl, hnc, hcm, p1⟩ := row_pos (by omega) (by omega) HL.out o1
  have P1 := Lib.hid p1
  clear o1 p1
  go_wp2_with fail
  refine (iQueueAt_any A n c id es _ hn (H.out.below b1)).mono ?_
  rintro y w2 ⟨r, hr, rfl, b2⟩
  obtain rfl : r = (k : Int) := hr.uniq HF.out
  clear hr
  have s2 := b2.size
  go_wp2_with fail
  refine (delEntry_any w.heap.size g 0 cap n k es _ hk hnc hcm hn (P1.out.below b2)).mono ?_
  rintro y w3 ⟨rfl, o3, b3⟩
  have O3 := Lib.hid o3
  clear o3
  go_wp2
  go_ret2
  exact ⟨_, _, rfl, O3.out, by (repeat (first | with_reducible exact Below.refl _ _ | with_reducible refine Below.drew ?_ | with_reducible refine below_drewN ?_ _ | (with_reducible refine bel_alloc ?_ ?_ _; (first | omega | (simp; omega) | simp)) | (with_reducible refine bel_set ?_ ?_ _; (first | omega | (simp; omega) | simp)) | (with_reducible refine bel_tr (by assumption) ?_ ?_; (first | omega | (simp; omega) | simp))))⟩

theorem sCut (A : Option Addr) (n c N : Nat) (id : Int) (es T : List (Nat → Int)) (bv : Bool) (w : World) (hn : n ≤ 4194304) (hc : n ≤ c) (hcm : c ≤ 9223372036854775807) (hT : cutT es (hasId es id) n = T) (hN : T.length = N) (hB : cutB (hasId es id) n = bv) (h : Rd w 4 A n es) :
    Calls Try.prog 24 #[.slice A n c, .int .i64 id] w fun y w' => ∃ A' c', y = .returned (.tuple #[.slice A' N c', .bool bv]) ∧ Own w.heap.size w' 4 A' N T ∧ Below w.heap.size w w' := by
  subst hB hN hT
  have hl := h.1
  unfold cutT cutB
  rcases hx : ixOf (hasId es id) n with _ | k
  · refine (sQueueCut_n A n c id es w hn h (ixOf_none hx)).mono ?_
    rintro y w' ⟨v, rfl, h2, h3⟩
    obtain ⟨A', c', rfl, ho⟩ := own_of_row hl h2
    exact ⟨A', c', by simp [hl], by simpa [hl] using ho, h3⟩
  · obtain ⟨h1, h2, h3⟩ := ixOf_some hx
    refine (sQueueCut_y A n c k id es w hn hc hcm h h1 h2 h3).mono ?_
    rintro y w' ⟨v, rfl, h4, h5⟩
    have hcl := cutL_len hl h1
    have he : k + (n - (k + 1)) = n - 1 := by omega
    rw [he] at h4
    obtain ⟨A', c', rfl, ho⟩ := own_of_row hcl h4
    exact ⟨A', c', by simp [hcl], by simpa [hcl] using ho, h5⟩
theorem iCut (A : Option Addr) (n c N : Nat) (id : Int) (es T : List (Nat → Int)) (bv : Bool) (w : World) (hn : n ≤ 4194304) (hT : cutT es (hasId es id) n = T) (hN : T.length = N) (hB : cutB (hasId es id) n = bv) (h : Rd w 4 A n es) :
    Calls Try.prog 25 #[.slice A n c, .int .i64 id] w fun y w' => ∃ A' c', y = .returned (.tuple #[.slice A' N c', .bool bv]) ∧ Own w.heap.size w' 4 A' N T ∧ Below w.heap.size w w' := by
  subst hB hN hT
  have hl := h.1
  unfold cutT cutB
  rcases hx : ixOf (hasId es id) n with _ | k
  · refine (iQueueCut_n A n c id es w hn h (ixOf_none hx)).mono ?_
    rintro y w' ⟨v, rfl, h2, h3⟩
    obtain ⟨A', c', rfl, ho⟩ := own_of_row hl h2
    exact ⟨A', c', by simp [hl], by simpa [hl] using ho, h3⟩
  · obtain ⟨h1, h2, h3⟩ := ixOf_some hx
    refine (iQueueCut_y A n c k id es w hn h h1 h2 h3).mono ?_
    rintro y w' ⟨A', c', rfl, h4, h5⟩
    have hcl := cutL_len hl h1
    exact ⟨A', c', by simp [hcl], by simpa [hcl] using h4, h5⟩
theorem cutT_len {es : List (Nat → Int)} {n : Nat} {p : Nat → Bool} (h : es.length = n) : (cutT es p n).length ≤ n := by
  unfold cutT
  split
  · omega
  · rename_i k hk
    have := ixOf_some hk
    rw [cutL_len h this.1]
    omega
end Go.Proofs.Ythideehlhhpkjaa
