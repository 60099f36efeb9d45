/-
  The law FnExactSameCabin holds: the program and the reference agree on SameCabin for every two cabins. Conditions: none.
-/
import Derived.Test.YtkdafomnoeaboaaRows
import Derived.Test.YtkdafomnoeaboaaFrame
import Derived.Test.YtkdafomnoeaboaaOpC
import Derived.Test.YtkdafomnoeaboaaLawKs
namespace Go.Proofs.Ytkdafomnoeaboaa
open Go.ChangeShapes Go.WideShapes Go.ChangeAt Go.RowKit

theorem Try.own : ownKnob Try.prog.godebug = none := by kernel_rfl
theorem Try.laidOut : laidOutB Try.prog = true := by kernel_rfl

set_option maxRecDepth 100000 in
theorem fnExactSameCabin_lifted (os : Os) (started : os.Started) (H : Type) (enc : TypeId × Value → H) :
    ReturnsInHanded {} Try.checked os 4 .any (Rows.fnExactSameCabinSpec.pre6 enc Try.prog Try.f4 Rows.fnExactSameCabinRow.domain false) (Rows.fnExactSameCabinSpec.post enc Try.prog Try.f4 false true false false) := by
  refine law_frame (C := Try.checked) (tb := 4) Try.own started (by kernel_rfl) Try.func4 Try.laidOut (by kernel_rfl) rfl Try.underlying4 rfl (fun ds h => ?_)
    (ChangeSpec.witness6 (enc := enc) (C := Try.checked) false ⟨#[], #[.agg #[.int .i64 0, .int .i64 0, .int .i64 0, .int .i64 0, .int .i64 0, .slice none 0 0, .slice none 0 0], .agg #[.int .i64 0, .int .i64 0, .int .i64 0, .int .i64 0, .int .i64 0, .slice none 0 0, .slice none 0 0]], []⟩ 8 (by kernel_rfl) (by kernel_rfl) (by kernel_rfl) (by kernel_rfl)) ?_
  · have e : ds.length = 2 := h
    obtain ⟨d0, d1, rfl⟩ := len2 e
    rfl
  intro W base args ds ps hval0 hA0 hlt hz
  have hval : ∀ (j : Nat) t v, Try.f4.params[j]? = some t → args[j]? = some v → Value.okWide Try.prog W .any base t v := hval0
  have hA : DataW.TrodAll enc Try.prog W 0 (fun _ => true) true Try.f4.params.toList args.toList ds ps := hA0
  clear hval0 hA0 hlt hz
  rw [Try.params4] at hA hval
  obtain ⟨v0, v1, d0, d1, p0, p1, rfl, rfl, rfl, h0, h1⟩ := trodAll_two hA
  obtain ⟨xa0, xb0, xc0, xd0, xe0, AE0, n0, c0, es0, A0, N0, cw0, S0, rfl, hnc0, hcm0, hre0, hNc0, hNm0, hr0⟩ := open_cabin Try.underlying29 (by kernel_rfl) (by kernel_rfl) (by kernel_rfl) (by kernel_rfl) (by kernel_rfl) (by kernel_rfl) Try.underlying3 Try.underlying23 (by kernel_rfl) (by kernel_rfl) (by kernel_rfl) Try.underlying24 Try.underlying66 (by kernel_rfl) (by kernel_rfl) (by kernel_rfl) (by kernel_rfl) Try.underlying27 (by kernel_rfl) (by kernel_rfl) Try.underlying25 Try.underlying75 Try.underlying84 (by kernel_rfl) (by kernel_rfl) (by kernel_rfl) (by kernel_rfl) (by decide) (hval 0 29 v0 rfl rfl) h0
  obtain ⟨xa1, xb1, xc1, xd1, xe1, AE1, n1, c1, es1, A1, N1, cw1, S1, rfl, hnc1, hcm1, hre1, hNc1, hNm1, hr1⟩ := open_cabin Try.underlying29 (by kernel_rfl) (by kernel_rfl) (by kernel_rfl) (by kernel_rfl) (by kernel_rfl) (by kernel_rfl) Try.underlying3 Try.underlying23 (by kernel_rfl) (by kernel_rfl) (by kernel_rfl) Try.underlying24 Try.underlying66 (by kernel_rfl) (by kernel_rfl) (by kernel_rfl) (by kernel_rfl) Try.underlying27 (by kernel_rfl) (by kernel_rfl) Try.underlying25 Try.underlying75 Try.underlying84 (by kernel_rfl) (by kernel_rfl) (by kernel_rfl) (by kernel_rfl) (by decide) (hval 1 29 v1 rfl rfl) h1
  have hm0 : n0 ≤ 9223372036854775807 := by unfold maxLen at hcm0; omega
  have hM0 : N0 ≤ 9223372036854775807 := by unfold maxLen at hNm0; omega
  have hm1 : n1 ≤ 9223372036854775807 := by unfold maxLen at hcm1; omega
  have hM1 : N1 ≤ 9223372036854775807 := by unfold maxLen at hNm1; omega
  exact lawSameCabin xa0 xb0 xc0 xd0 xe0 AE0 n0 c0 es0 A0 N0 cw0 S0 xa1 xb1 xc1 xd1 xe1 AE1 n1 c1 es1 A1 N1 cw1 S1 W hm0 hM0 hm1 hM1 hre0 hr0 hre1 hr1

theorem fnExactSameCabin_holds : Rows.FnExactSameCabinSaid :=
  OpenClaim.holds_of_wide 4 Try.f4 rfl rfl rfl rfl rfl rfl rfl ⟨rfl, rfl, rfl, rfl, rfl⟩ rfl rfl rfl rfl rfl (by kernel_rfl) Try.func4 (by kernel_rfl)
    (of_decide_eq_true (by kernel_rfl)) (by unfold Func.isWrapper; first | (rw [if_pos (by decide +kernel)]; kernel_rfl) | (rw [if_neg (by decide +kernel)]; exact ⟨rfl, rfl⟩))
    (fun os started H enc _ => fnExactSameCabin_lifted os started H enc)

end Go.Proofs.Ytkdafomnoeaboaa
