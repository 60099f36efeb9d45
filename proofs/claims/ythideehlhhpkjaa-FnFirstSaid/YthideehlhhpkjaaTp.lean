/-
  Contracts of TodoPut of the program and of the reference. No conditions beyond those stated.
-/
import Derived.Test.YthideehlhhpkjaaCo
import Derived.Test.YthideehlhhpkjaaFf
namespace Go.Proofs.Ythideehlhhpkjaa
open Go.RowKit

theorem own_ge {base : Nat} {w : World} {e : TypeId} {K n : Nat} {v : Value} {xs : List Value} (h : w.ownsRow base e K v n xs) : ∀ k, v.ownBlock = some k → base ≤ k := by
  intro k hk
  rcases h.2 with ⟨rfl, _⟩ | ⟨g, cap, cur, rfl, hg, _⟩
  · simp [Value.ownBlock] at hk
  · have : g = k := by simpa [Value.ownBlock] using hk
    omega
def one (x : Int) : Nat → Int := fun _ => x
theorem rd_one (w : World) (t : TypeId) (x : Int) : Rd (w.alloc (.cells #[.int .i64 x] t)) 1 (some ⟨w.heap.size, 0, none⟩) 1 [one x] :=
  ⟨rfl, .inr ⟨w.heap.size, 0, rfl, by simp, fun i hi j hj => by
    obtain rfl : i = 0 := by omega
    obtain rfl : j = 0 := by omega
    simp [fld, one]⟩⟩
/-- TodoPut: x behind the list, unless it is there. -/
def todo (es : List (Nat → Int)) (n : Nat) (x : Int) : List (Nat → Int) := if hasN es n x = true then es else es ++ [one x]

set_option maxHeartbeats 1000000 in
theorem iTodoPut_any (A : Option Addr) (n c : Nat) (x : Int) (es : List (Nat → Int)) (w : World) (hn : n ≤ 4194304) (h : Rd w 1 A n es) :
    Calls Try.prog 38 #[.slice A n c, .int .i64 x] w fun y w' => ∃ v, y = .returned v ∧ w'.ownsRow w.heap.size 3 1 v (todo es n x).length (flat 1 (todo es n x)) ∧ Below w.heap.size w w' := by
  obtain ⟨i0, hi0, hz0, hz1, hz2⟩ := info_parts copyInts_info
  have hl := h.1
  have H := Lib.hid h
  have HL := Lib.hid hl
  clear h hl
  rcases Bool.eq_false_or_eq_true (hasN es n x) with hh | hh
  · have HT : Hid (todo es n x = es) := by unfold Hid todo; rw [if_pos hh]
    go_enter Try.func38, Try.ntmps38
    go_wp2_with fail
    refine (copyInts_any A n c es w hn H.out).mono ?_
    rintro y w1 ⟨v, rfl, o1, b1⟩
    have s1 := b1.size
    have O1 := Lib.hid o1
    clear o1
    go_wp2_with fail
    refine (contains_any A n c x es _ hn (H.out.below b1)).mono ?_
    rintro y w2 ⟨rfl, rfl⟩
    go_wp2
    go_ret
    refine ⟨_, rfl, ?_, b1⟩
    rw [HT.out, HL.out]
    exact O1.out
  · have HT : Hid (todo es n x = es ++ [one x]) := by unfold Hid todo; rw [if_neg (by rw [hh]; exact Bool.false_ne_true)]
    go_enter Try.func38, Try.ntmps38
    go_wp2_with fail
    refine (copyInts_any A n c es w hn H.out).mono ?_
    rintro y w1 ⟨v, rfl, o1, b1⟩
    have s1 := b1.size
    have O1 := Lib.hid o1
    clear o1
    go_wp2_with fail
    refine (contains_any A n c x es _ hn (H.out.below b1)).mono ?_
    rintro y w2 ⟨rfl, rfl⟩
    have hg := own_ge O1.out
    go_wp2_with (at_builtin; go_must (refine wpList_append_rd _ rfl _ _ 29 rfl w.heap.size 3 i0 _ 1 8 Try.underlying29 hi0 hz0 hz1 hz2 rfl (by omega) v n es rfl (O1.out.alloc _) (some ⟨w1.heap.size, 0, none⟩) 1 1 [one x] rfl (rd_one w1 _ x) (by unfold maxLen; omega) (by omega) (by simp; omega) ?_); intro v2 w2 hown2 hg2 hat2)
    go_ret
    refine ⟨_, rfl, ?_, (b1.alloc s1 _).grown hg2 (by simp; omega) hg⟩
    rw [HT.out, List.length_append, HL.out]
    exact hown2

set_option maxHeartbeats 1000000 in
theorem sTodoPut_any (A : Option Addr) (n c : Nat) (x : Int) (es : List (Nat → Int)) (w : World) (hn : n ≤ 4194304) (h : Rd w 1 A n es) :
    Calls Try.prog 37 #[.slice A n c, .int .i64 x] w fun y w' => ∃ v, y = .returned v ∧ w'.ownsRow w.heap.size 3 1 v (todo es n x).length (flat 1 (todo es n x)) ∧ Below w.heap.size w w' := by
  obtain ⟨i0, hi0, hz0, hz1, hz2⟩ := info_parts copyInts_info
  have hl := h.1
  have H := Lib.hid h
  have HL := Lib.hid hl
  clear h hl
  have b0 : Below w.heap.size w (w.alloc (.cells #[] 3)) := (Below.refl _ _).alloc (Nat.le_refl _) _
  rcases Bool.eq_false_or_eq_true (hasN es n x) with hh | hh
  · have HT : Hid (todo es n x = es) := by unfold Hid todo; rw [if_pos hh]
    go_enter Try.func37, Try.ntmps37
    go_wp2_with (first
      | (at_builtin; go_must (refine wpList_append_rd _ rfl (.tmp 6) (.tmp 7) 29 rfl w.heap.size 3 i0 _ 1 8 Try.underlying29 hi0 hz0 hz1 hz2 rfl (by omega) (.slice (some ⟨w.heap.size, 0, none⟩) 0 0) 0 [] rfl (row_empty w _ 1) A n c es rfl (H.out.below b0) (by unfold maxLen; omega) (by omega) (by simp) ?_); intro v2 w2 hown2 hg2 hat2; have b2 : Below w.heap.size w w2 := (b0.grown hg2 (by simp) (by simp [Value.ownBlock])); have O2 := Lib.hid hown2; clear hown2)
      | (go_at_call 57; refine (l1Has_any A n c x es _ hn (H.out.below b2)).mono ?_; rintro y w3 ⟨rfl, rfl⟩))
    go_ret
    refine ⟨_, rfl, ?_, b2⟩
    rw [HT.out, HL.out]
    simpa using O2.out
  · have HT : Hid (todo es n x = es ++ [one x]) := by unfold Hid todo; rw [if_neg (by rw [hh]; exact Bool.false_ne_true)]
    go_enter Try.func37, Try.ntmps37
    go_wp2_with (first
      | (at_builtin; refine wpList_append_rd _ rfl (.tmp 6) (.tmp 7) 29 rfl w.heap.size 3 i0 _ 1 8 Try.underlying29 hi0 hz0 hz1 hz2 rfl (by omega) (.slice (some ⟨w.heap.size, 0, none⟩) 0 0) 0 [] rfl (row_empty w _ 1) A n c es rfl (H.out.below b0) (by unfold maxLen; omega) (by omega) (by simp) ?_; intro v2 w2 hown2 hg2 hat2; have b2 : Below w.heap.size w w2 := (b0.grown hg2 (by simp) (by simp [Value.ownBlock])); have s2 := b2.size; have O2 := Lib.hid hown2; have hg3 := own_ge hown2; clear hown2)
      | (go_at_call 57; refine (l1Has_any A n c x es _ hn (H.out.below b2)).mono ?_; rintro y w3 ⟨rfl, rfl⟩)
      | (at_builtin; go_must (refine wpList_append_rd _ rfl (.tmp 13) (.tmp 15) 29 rfl w.heap.size 3 i0 _ 1 8 Try.underlying29 hi0 hz0 hz1 hz2 rfl (by omega) v2 (0 + n) ([] ++ es) rfl (O2.out.alloc _) (some ⟨w2.heap.size, 0, none⟩) 1 1 [one x] rfl (rd_one w2 _ x) (by unfold maxLen; omega) (by omega) (by simp; omega) ?_); intro v4 w4 hown4 hg4 hat4))
    go_ret
    refine ⟨_, rfl, ?_, (b2.alloc s2 _).grown hg4 (by simp; omega) hg3⟩
    rw [HT.out, List.length_append, HL.out]
    simpa using hown4

end Go.Proofs.Ythideehlhhpkjaa
