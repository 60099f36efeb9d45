/-
  Contracts of QueueCut of the program and of the reference. No conditions beyond those stated.
-/
import Derived.Test.YtfilagmboeeclaaCo
import Derived.Test.YtfilagmboeeclaaCu
import Derived.Test.YtfilagmboeeclaaDe
import Derived.Test.YtfilagmboeeclaaQa
import Derived.Test.YtfilagmboeeclaaMk
namespace Go.Proofs.Ytfilagmboeeclaa
open Go.RowKit

set_option maxHeartbeats 1000000 in
theorem iQueueCut_n (A : Option Addr) (n c : Nat) (id : Int) (es : List (Nat → Int)) (w : World) (hn : n ≤ 4194304) (h : Rd w 4 A n es) (hall : ∀ i, i < n → hasId es id i = false) :
    Calls Try.prog 8 #[.slice A n c, .int .i64 id] w fun y w' => ∃ v, y = .returned (.tuple #[v, .bool false]) ∧ w'.ownsRow w.heap.size 26 4 v n (flat 4 es) ∧ Below w.heap.size w w' := by
  have H := Lib.hid h
  have HA := Lib.hid hall
  clear h hall
  go_enter Try.func8, Try.ntmps8
  go_wp2_with fail
  refine (copyEntries_any A n c es _ hn H.out).mono ?_
  rintro y w1 ⟨v, rfl, o1, b1⟩
  have s1 := b1.size
  have O1 := Lib.hid o1
  clear o1
  go_wp2_with fail
  refine (iQueueAt_any A n c id es _ hn (H.out.below b1)).mono ?_
  rintro y w2 ⟨r, hr, rfl, b2⟩
  obtain rfl : r = -1 := hr.uniq (.inr ⟨rfl, HA.out⟩)
  clear hr
  go_wp2
  go_ret2
  exact ⟨v, rfl, row_below O1.out b2, by (repeat (first | with_reducible exact Below.refl _ _ | with_reducible refine Below.drew ?_ | with_reducible refine below_drewN ?_ _ | (with_reducible refine bel_alloc ?_ ?_ _; (first | omega | (simp; omega) | simp)) | (with_reducible refine bel_set ?_ ?_ _; (first | omega | (simp; omega) | simp)) | (with_reducible refine bel_tr (by assumption) ?_ ?_; (first | omega | (simp; omega) | simp))))⟩

set_option maxHeartbeats 1000000 in
theorem iQueueCut_y (A : Option Addr) (n c k : Nat) (id : Int) (es : List (Nat → Int)) (w : World) (hn : n ≤ 4194304) (h : Rd w 4 A n es) (hk : k < n) (hp : hasId es id k = true) (hb : ∀ i, i < k → hasId es id i = false) :
    Calls Try.prog 8 #[.slice A n c, .int .i64 id] w fun y w' => ∃ A' c', y = .returned (.tuple #[.slice A' (n - 1) c', .bool true]) ∧ Own w.heap.size w' 4 A' (n - 1) (cutL es k) ∧ Below w.heap.size w w' := by
  have HL := Lib.hid h.1
  have H := Lib.hid h
  have HF : Hid (FirstAt (hasId es id) n (k : Int)) := .inl ⟨k, hk, rfl, hp, hb⟩
  clear h hp hb
  have e1 := wrap_add1 k (by omega)
  go_enter Try.func8, Try.ntmps8
  go_wp2_with fail
  refine (copyEntries_any A n c es _ hn H.out).mono ?_
  rintro y w1 ⟨v, rfl, o1, b1⟩
  have s1 := b1.size
  obtain ⟨g, cap, rfl, hnc, hcm, p1⟩ := row_pos (by omega) (by omega) HL.out o1
  have P1 := Lib.hid p1
  clear o1 p1
  go_wp2_with fail
  refine (iQueueAt_any A n c id es _ hn (H.out.below b1)).mono ?_
  rintro y w2 ⟨r, hr, rfl, b2⟩
  obtain rfl : r = (k : Int) := hr.uniq HF.out
  clear hr
  have s2 := b2.size
  go_wp2_with fail
  refine (delEntry_any w.heap.size g 0 cap n k es _ hk hnc hcm hn (P1.out.below b2)).mono ?_
  rintro y w3 ⟨rfl, o3, b3⟩
  have O3 := Lib.hid o3
  clear o3
  go_wp2
  go_ret2
  exact ⟨_, _, rfl, O3.out, by (repeat (first | with_reducible exact Below.refl _ _ | with_reducible refine Below.drew ?_ | with_reducible refine below_drewN ?_ _ | (with_reducible refine bel_alloc ?_ ?_ _; (first | omega | (simp; omega) | simp)) | (with_reducible refine bel_set ?_ ?_ _; (first | omega | (simp; omega) | simp)) | (with_reducible refine bel_tr (by assumption) ?_ ?_; (first | omega | (simp; omega) | simp))))⟩

theorem iCut (A : Option Addr) (n c N : Nat) (id : Int) (es T : List (Nat → Int)) (bv : Bool) (w : World) (hn : n ≤ 4194304) (hT : cutT es (hasId es id) n = T) (hN : T.length = N) (hB : cutB (hasId es id) n = bv) (h : Rd w 4 A n es) :
    Calls Try.prog 8 #[.slice A n c, .int .i64 id] w fun y w' => ∃ A' c', y = .returned (.tuple #[.slice A' N c', .bool bv]) ∧ Own w.heap.size w' 4 A' N T ∧ Below w.heap.size w w' := by
  subst hB hN hT
  have hl := h.1
  unfold cutT cutB
  rcases hx : ixOf (hasId es id) n with _ | k
  · refine (iQueueCut_n A n c id es w hn h (ixOf_none hx)).mono ?_
    rintro y w' ⟨v, rfl, h2, h3⟩
    obtain ⟨A', c', rfl, ho⟩ := own_of_row hl h2
    exact ⟨A', c', by simp [hl], by simpa [hl] using ho, h3⟩
  · obtain ⟨h1, h2, h3⟩ := ixOf_some hx
    refine (iQueueCut_y A n c k id es w hn h h1 h2 h3).mono ?_
    rintro y w' ⟨A', c', rfl, h4, h5⟩
    have hcl := cutL_len hl h1
    exact ⟨A', c', by simp [hcl], by simpa [hcl] using h4, h5⟩
end Go.Proofs.Ytfilagmboeeclaa
