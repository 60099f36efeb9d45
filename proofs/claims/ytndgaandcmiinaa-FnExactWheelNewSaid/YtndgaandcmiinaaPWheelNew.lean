/-
  The law FnExactWheelNew holds: the program and the reference agree on WheelNew. Conditions: none.
-/
import Derived.Test.YtndgaandcmiinaaRows
import Derived.Test.YtndgaandcmiinaaFrame
import Derived.Test.YtndgaandcmiinaaOpen
import Derived.Test.YtndgaandcmiinaaLawWn
namespace Go.Proofs.Ytndgaandcmiinaa
open Go.ChangeShapes Go.WideShapes Go.ChangeAt Go.RowKit

theorem Try.own : ownKnob Try.prog.godebug = none := by kernel_rfl
theorem Try.laidOut : laidOutB Try.prog = true := by kernel_rfl

set_option maxRecDepth 100000 in
theorem fnExactWheelNew_lifted (os : Os) (started : os.Started) (H : Type) (enc : TypeId × Value → H) :
    ReturnsInHanded {} Try.checked os 3 .any (Rows.fnExactWheelNewSpec.pre6 enc Try.prog Try.f3 Rows.fnExactWheelNewRow.domain false) (Rows.fnExactWheelNewSpec.post enc Try.prog Try.f3 false true false false) := by
  refine law_frame (C := Try.checked) (tb := 4) Try.own started (by kernel_rfl) Try.func3 Try.laidOut (by kernel_rfl) rfl Try.underlying4 rfl (fun ds h => ?_)
    (ChangeSpec.witness6 (enc := enc) (C := Try.checked) false ⟨#[], #[], []⟩ 8 (by kernel_rfl) (by kernel_rfl) (by kernel_rfl) (by kernel_rfl)) ?_
  · have e : ds.length = 0 := h
    obtain rfl := List.eq_nil_of_length_eq_zero e
    rfl
  intro W base args ds ps hval0 hA0 hlt hz
  have hval : ∀ (j : Nat) t v, Try.f3.params[j]? = some t → args[j]? = some v → Value.okWide Try.prog W .any base t v := hval0
  have hA : DataW.TrodAll enc Try.prog W 0 (fun _ => true) true Try.f3.params.toList args.toList ds ps := hA0
  clear hval0 hA0 hlt hz
  rw [Try.params3] at hA hval
  obtain ⟨hv, rfl, rfl⟩ := trodAll_nil hA
  obtain rfl : args = #[] := Array.toList_inj.1 hv
  exact lawWheelNew W

theorem fnExactWheelNew_holds : Rows.FnExactWheelNewSaid :=
  OpenClaim.holds_of_wide 3 Try.f3 rfl rfl rfl rfl rfl rfl rfl ⟨rfl, rfl, rfl, rfl, rfl⟩ rfl rfl rfl rfl rfl (by kernel_rfl) Try.func3 (by kernel_rfl)
    (of_decide_eq_true (by kernel_rfl)) (by unfold Func.isWrapper; first | (rw [if_pos (by decide +kernel)]; kernel_rfl) | (rw [if_neg (by decide +kernel)]; exact ⟨rfl, rfl⟩))
    (fun os started H enc _ => fnExactWheelNew_lifted os started H enc)

end Go.Proofs.Ytndgaandcmiinaa
