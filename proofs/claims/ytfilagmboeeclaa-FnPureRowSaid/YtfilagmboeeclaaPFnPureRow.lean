/-
  The law FnPureRow holds: results share no memory with arguments, for every draw. Conditions: none.
-/
import Derived.Test.YtfilagmboeeclaaRows
import Derived.Test.YtfilagmboeeclaaFrame
import Derived.Test.YtfilagmboeeclaaLawPr
namespace Go.Proofs.Ytfilagmboeeclaa
open Go.ChangeShapes Go.WideShapes Go.ChangeAt Go.RowKit

theorem Try.own : ownKnob Try.prog.godebug = none := by kernel_rfl
theorem Try.laidOut : laidOutB Try.prog = true := by kernel_rfl

set_option maxRecDepth 100000 in
theorem fnPureRow_lifted (os : Os) (started : os.Started) (H : Type) (enc : TypeId × Value → H) :
    ReturnsInHanded {} Try.checked os 3 .any (Rows.fnPureRowSpec.pre6 enc Try.prog Try.f3 Rows.fnPureRowRow.domain false) (Rows.fnPureRowSpec.post enc Try.prog Try.f3 false true false false) := by
  refine law_frame (C := Try.checked) (tb := 4) Try.own started (by kernel_rfl) Try.func3 Try.laidOut (by kernel_rfl) rfl Try.underlying4 rfl (fun ds h => ?_)
    (ChangeSpec.witness6 (enc := enc) (C := Try.checked) false ⟨#[], #[.slice none 0 0], []⟩ 8 (by kernel_rfl) (by kernel_rfl) (by kernel_rfl) (by kernel_rfl)) ?_
  · have e : ds.length = 1 := h
    obtain ⟨d0, rfl⟩ := len1 e
    rfl
  intro W base args ds ps hval0 hA0 hlt hz
  have hval : ∀ (j : Nat) t v, Try.f3.params[j]? = some t → args[j]? = some v → Value.okWide Try.prog W .any base t v := hval0
  have hA : DataW.TrodAll enc Try.prog W 0 (fun _ => true) true Try.f3.params.toList args.toList ds ps := hA0
  clear hval0 hA0 hlt hz
  rw [Try.params3] at hA hval
  obtain ⟨v0, d0, rfl, rfl, h0⟩ := trodAll_one hA
  obtain ⟨A0, n0, c0, rfl, hnc0, hcm0, hr0⟩ := open_sliceB Try.underlying22 Try.underlying5 (by kernel_rfl) (hval 0 22 v0 rfl rfl) h0
  have hm0 : n0 ≤ 9223372036854775807 := by unfold maxLen at hcm0; omega
  exact lawFnPureRow A0 n0 c0 W hm0 hr0

theorem fnPureRow_holds : Rows.FnPureRowSaid :=
  OpenClaim.holds_of_wide 3 Try.f3 rfl rfl rfl rfl rfl rfl rfl ⟨rfl, rfl, rfl, rfl, rfl⟩ rfl rfl rfl rfl rfl (by kernel_rfl) Try.func3 (by kernel_rfl)
    (of_decide_eq_true (by kernel_rfl)) (by unfold Func.isWrapper; first | (rw [if_pos (by decide +kernel)]; kernel_rfl) | (rw [if_neg (by decide +kernel)]; exact ⟨rfl, rfl⟩))
    (fun os started H enc _ => fnPureRow_lifted os started H enc)

end Go.Proofs.Ytfilagmboeeclaa
