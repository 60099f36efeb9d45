/-
  The law FnExactQueueOf holds: the program and the reference agree on QueueOf for all rules, lists of parties, cabins and ticks. Conditions: none.
-/
import Derived.Test.YtccabkmmlddenaaRows
import Derived.Test.YtccabkmmlddenaaFrame
import Derived.Test.YtccabkmmlddenaaOpR
import Derived.Test.YtccabkmmlddenaaSl
import Derived.Test.YtccabkmmlddenaaLawQe
namespace Go.Proofs.Ytccabkmmlddenaa
open Go.ChangeShapes Go.WideShapes Go.ChangeAt Go.RowKit

theorem Try.own : ownKnob Try.prog.godebug = none := by kernel_rfl
theorem Try.laidOut : laidOutB Try.prog = true := by kernel_rfl

set_option maxRecDepth 100000 in
theorem fnExactQueueOf_lifted (os : Os) (started : os.Started) (H : Type) (enc : TypeId × Value → H) :
    ReturnsInHanded {} Try.checked os 3 .any (Rows.fnExactQueueOfSpec.pre6 enc Try.prog Try.f3 Rows.fnExactQueueOfRow.domain false) (Rows.fnExactQueueOfSpec.post enc Try.prog Try.f3 false true false false) := by
  refine law_frame (C := Try.checked) (tb := 4) Try.own started (by kernel_rfl) Try.func3 Try.laidOut (by kernel_rfl) rfl Try.underlying4 rfl (fun ds h => ?_)
    (ChangeSpec.witness6 (enc := enc) (C := Try.checked) false ⟨#[], #[.agg #[.slice none 0 0, .int .i64 0, .int .i64 0, .int .i64 0, .int .i64 0, .int .i64 0, .int .i64 0, .int .i64 0, .int .i64 0], .slice none 0 0, .int .i64 0, .int .i64 0], []⟩ 8 (by kernel_rfl) (by kernel_rfl) (by kernel_rfl) (by kernel_rfl)) ?_
  · have e : ds.length = 4 := h
    obtain ⟨d0, d1, d2, d3, rfl⟩ := len4 e
    rfl
  intro W base args ds ps hval0 hA0 hlt hz
  have hval : ∀ (j : Nat) t v, Try.f3.params[j]? = some t → args[j]? = some v → Value.okWide Try.prog W .any base t v := hval0
  have hA : DataW.TrodAll enc Try.prog W 0 (fun _ => true) true Try.f3.params.toList args.toList ds ps := hA0
  clear hval0 hA0 hlt hz
  rw [Try.params3] at hA hval
  obtain ⟨v0, v1, v2, v3, d0, d1, d2, d3, p0, p1, p2, p3, rfl, rfl, rfl, h0, h1, h2, h3⟩ := trodAll_four hA
  obtain ⟨A0, n0, c0, es0, r0, rfl, hnc0, hcm0, hr0⟩ := open_rules Try.underlying24 Try.underlying3 Try.underlying22 (by kernel_rfl) (by kernel_rfl) (by kernel_rfl) (by kernel_rfl) (hval 0 24 v0 rfl rfl) h0
  have hm0 : n0 ≤ 9223372036854775807 := by unfold maxLen at hcm0; omega
  obtain ⟨A1, n1, c1, es1, rfl, hnc1, hcm1, hr1⟩ := open_sliceI Try.underlying25 Try.underlying61 Try.underlying3 (by kernel_rfl) (by kernel_rfl) (by kernel_rfl) (by decide) (hval 1 25 v1 rfl rfl) h1
  have hm1 : n1 ≤ 9223372036854775807 := by unfold maxLen at hcm1; omega
  obtain ⟨n2, rfl, rfl, rfl, wn2⟩ := open_int Try.underlying3 (hval 2 3 v2 rfl rfl) h2
  obtain ⟨n3, rfl, rfl, rfl, wn3⟩ := open_int Try.underlying3 (hval 3 3 v3 rfl rfl) h3
  exact lawQueueOf A0 n0 c0 es0 r0 A1 n1 c1 es1 n2 n3 W hm0 hm1 hr0 hr1

theorem fnExactQueueOf_holds : Rows.FnExactQueueOfSaid :=
  OpenClaim.holds_of_wide 3 Try.f3 rfl rfl rfl rfl rfl rfl rfl ⟨rfl, rfl, rfl, rfl, rfl⟩ rfl rfl rfl rfl rfl (by kernel_rfl) Try.func3 (by kernel_rfl)
    (of_decide_eq_true (by kernel_rfl)) (by unfold Func.isWrapper; first | (rw [if_pos (by decide +kernel)]; kernel_rfl) | (rw [if_neg (by decide +kernel)]; exact ⟨rfl, rfl⟩))
    (fun os started H enc _ => fnExactQueueOf_lifted os started H enc)

end Go.Proofs.Ytccabkmmlddenaa
