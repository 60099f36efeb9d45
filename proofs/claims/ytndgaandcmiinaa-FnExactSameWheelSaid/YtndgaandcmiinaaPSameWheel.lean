/-
  The law FnExactSameWheel holds: the program and the reference agree on SameWheel for every two wheels. Conditions: none.
-/
import Derived.Test.YtndgaandcmiinaaRows
import Derived.Test.YtndgaandcmiinaaFrame
import Derived.Test.YtndgaandcmiinaaOpen
import Derived.Test.YtndgaandcmiinaaLawSw
namespace Go.Proofs.Ytndgaandcmiinaa
open Go.ChangeShapes Go.WideShapes Go.ChangeAt Go.RowKit

theorem Try.own : ownKnob Try.prog.godebug = none := by kernel_rfl
theorem Try.laidOut : laidOutB Try.prog = true := by kernel_rfl

set_option maxRecDepth 100000 in
theorem fnExactSameWheel_lifted (os : Os) (started : os.Started) (H : Type) (enc : TypeId × Value → H) :
    ReturnsInHanded {} Try.checked os 10 .any (Rows.fnExactSameWheelSpec.pre6 enc Try.prog Try.f10 Rows.fnExactSameWheelRow.domain false) (Rows.fnExactSameWheelSpec.post enc Try.prog Try.f10 false true false false) := by
  refine law_frame (C := Try.checked) (tb := 4) Try.own started (by kernel_rfl) Try.func10 Try.laidOut (by kernel_rfl) rfl Try.underlying4 rfl (fun ds h => ?_)
    (ChangeSpec.witness6 (enc := enc) (C := Try.checked) false ⟨#[], #[.agg #[.slice none 0 0], .agg #[.slice none 0 0]], []⟩ 8 (by kernel_rfl) (by kernel_rfl) (by kernel_rfl) (by kernel_rfl)) ?_
  · have e : ds.length = 2 := h
    obtain ⟨d0, d1, rfl⟩ := len2 e
    rfl
  intro W base args ds ps hval0 hA0 hlt hz
  have hval : ∀ (j : Nat) t v, Try.f10.params[j]? = some t → args[j]? = some v → Value.okWide Try.prog W .any base t v := hval0
  have hA : DataW.TrodAll enc Try.prog W 0 (fun _ => true) true Try.f10.params.toList args.toList ds ps := hA0
  clear hval0 hA0 hlt hz
  rw [Try.params10] at hA hval
  obtain ⟨v0, v1, d0, d1, p0, p1, rfl, rfl, rfl, h0, h1⟩ := trodAll_two hA
  obtain ⟨A0, n0, c0, S0, rfl, hnc0, hcm0, hr0⟩ := open_wheel Try.underlying31 (by kernel_rfl) (by kernel_rfl) (by kernel_rfl) Try.underlying29 Try.underlying43 Try.underlying37 Try.underlying3 (by kernel_rfl) (by kernel_rfl) (by kernel_rfl) (by kernel_rfl) (by decide) (hval 0 31 v0 rfl rfl) h0
  have hm0 : n0 ≤ 9223372036854775807 := by unfold maxLen at hcm0; omega
  obtain ⟨A1, n1, c1, S1, rfl, hnc1, hcm1, hr1⟩ := open_wheel Try.underlying31 (by kernel_rfl) (by kernel_rfl) (by kernel_rfl) Try.underlying29 Try.underlying43 Try.underlying37 Try.underlying3 (by kernel_rfl) (by kernel_rfl) (by kernel_rfl) (by kernel_rfl) (by decide) (hval 1 31 v1 rfl rfl) h1
  have hm1 : n1 ≤ 9223372036854775807 := by unfold maxLen at hcm1; omega
  exact lawSameWheel A0 n0 c0 A1 n1 c1 S0 S1 W hm0 hm1 hr0 hr1

theorem fnExactSameWheel_holds : Rows.FnExactSameWheelSaid :=
  OpenClaim.holds_of_wide 10 Try.f10 rfl rfl rfl rfl rfl rfl rfl ⟨rfl, rfl, rfl, rfl, rfl⟩ rfl rfl rfl rfl rfl (by kernel_rfl) Try.func10 (by kernel_rfl)
    (of_decide_eq_true (by kernel_rfl)) (by unfold Func.isWrapper; first | (rw [if_pos (by decide +kernel)]; kernel_rfl) | (rw [if_neg (by decide +kernel)]; exact ⟨rfl, rfl⟩))
    (fun os started H enc _ => fnExactSameWheel_lifted os started H enc)

end Go.Proofs.Ytndgaandcmiinaa
