/-
  Contracts of the functions that copy lists. No conditions beyond those stated.
-/
import Derived.Test.YtfilagmboeeclaaApp
import Derived.Test.YtfilagmboeeclaaBase
namespace Go.Proofs.Ytfilagmboeeclaa
open Go.RowKit

theorem copyEntries_info : (Try.prog.info? 26).map (fun i => (i.zero, i.size, i.bytes)) = some (some (.agg #[.int .i64 0, .int .i64 0, .int .i64 0, .int .i64 0]), 4, 32) := by kernel_rfl
set_option maxHeartbeats 1000000 in
theorem copyEntries_any (A : Option Addr) (n c : Nat) (es : List (Nat → Int)) (w : World) (hn : n ≤ 4194304) (h : Rd w 4 A n es) :
    Calls Try.prog 12 #[.slice A n c] w fun x w' => ∃ v, x = .returned v ∧ w'.ownsRow w.heap.size 26 4 v n (flat 4 es) ∧ Below w.heap.size w w' := by
  obtain ⟨i0, hi0, hz0, hz1, hz2⟩ := info_parts copyEntries_info
  have H := Lib.hid h
  clear h
  go_enter Try.func12, Try.ntmps12
  go_wp2_with (at_builtin; go_must (refine wpList_append_rd _ rfl _ _ 24 rfl w.heap.size 26 i0 _ 4 32 Try.underlying24 hi0 hz0 hz1 hz2 rfl (by omega) (.slice none 0 0) 0 [] rfl (World.ownsRow_nil _ _ _ _) A n c es rfl H.out (by unfold maxLen; omega) (by omega) (Nat.le_refl _) ?_); intro v1 w1 hown1 hg1 hat1)
  go_ret
  refine ⟨_, rfl, ?_, ?_⟩
  · simpa using hown1
  · exact (Below.refl _ _).grown hg1 (Nat.le_refl _) (by simp [Value.ownBlock])

theorem row_empty (w : World) (t : TypeId) (K : Nat) : (w.alloc (.cells #[] t)).ownsRow w.heap.size t K (.slice (some ⟨w.heap.size, 0, none⟩) 0 0) 0 (flat K []) :=
  ⟨by simp [flat], .inr ⟨w.heap.size, 0, #[], rfl, Nat.le_refl _, heap_alloc_new w _, Nat.le_refl _, Nat.zero_le _, by simp, by simp [flat]⟩⟩
set_option maxHeartbeats 1000000 in
theorem l7Copy_any (A : Option Addr) (n c : Nat) (es : List (Nat → Int)) (w : World) (hn : n ≤ 4194304) (h : Rd w 4 A n es) :
    Calls Try.prog 18 #[.slice A n c] w fun x w' => ∃ v, x = .returned v ∧ w'.ownsRow w.heap.size 26 4 v n (flat 4 es) ∧ Below w.heap.size w w' := by
  obtain ⟨i0, hi0, hz0, hz1, hz2⟩ := info_parts copyEntries_info
  have H := Lib.hid h
  clear h
  have b0 : Below w.heap.size w (w.alloc (.cells #[] 26)) := (Below.refl _ _).alloc (Nat.le_refl _) _
  go_enter Try.func18, Try.ntmps18
  go_wp2_with (at_builtin; go_must (refine wpList_append_rd _ rfl _ _ 24 rfl w.heap.size 26 i0 _ 4 32 Try.underlying24 hi0 hz0 hz1 hz2 rfl (by omega) (.slice (some ⟨w.heap.size, 0, none⟩) 0 0) 0 [] rfl (row_empty w _ 4) A n c es rfl (H.out.below b0) (by unfold maxLen; omega) (by omega) (by simp) ?_); intro v1 w1 hown1 hg1 hat1)
  go_ret
  refine ⟨_, rfl, ?_, b0.grown hg1 (by simp) (by simp [Value.ownBlock])⟩
  simpa using hown1

end Go.Proofs.Ytfilagmboeeclaa
