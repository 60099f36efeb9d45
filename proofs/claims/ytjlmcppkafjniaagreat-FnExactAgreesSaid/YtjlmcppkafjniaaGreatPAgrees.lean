/-
  The law FnExactAgrees holds: the program and the reference agree on Agrees for all rules, cabins, lists of parties, cabin numbers and ticks. Conditions: none.
-/
import Derived.Test.YtjlmcppkafjniaaGreatRows
import Derived.Test.YtjlmcppkafjniaaGreatSl
import Derived.Test.YtjlmcppkafjniaaGreatMk
import Derived.Test.YtjlmcppkafjniaaGreatLed
import Derived.Test.YtjlmcppkafjniaaGreatLawAg
namespace Go.Proofs.YtjlmcppkafjniaaGreat
open Go.ChangeShapes Go.WideShapes Go.ChangeAt Go.RowKit

theorem Tryz.own : ownKnob Tryz.prog.godebug = none := by kernel_rfl
theorem Tryz.laidOut : laidOutB Tryz.prog = true := by kernel_rfl

set_option maxRecDepth 100000 in
theorem fnExactAgrees_lifted (os : Os) (started : os.Started) (H : Type) (enc : TypeId × Value → H) :
    ReturnsInHanded {} Tryz.checked os 4 .any (Rows.fnExactAgreesSpec.pre6 enc Tryz.prog Tryz.f4 Rows.fnExactAgreesRow.domain false) (Rows.fnExactAgreesSpec.post enc Tryz.prog Tryz.f4 false true false false) := by
  refine law_frame (C := Tryz.checked) (tb := 4) Tryz.own started (by kernel_rfl) Tryz.func4 Tryz.laidOut (by kernel_rfl) rfl Tryz.underlying4 rfl (fun ds h => ?_)
    (ChangeSpec.witness6 (enc := enc) (C := Tryz.checked) false ⟨#[], #[.agg #[.slice none 0 0, .int .i64 0, .int .i64 0, .int .i64 0, .int .i64 0, .int .i64 0, .int .i64 0, .int .i64 0, .int .i64 0], .agg #[.int .i64 0, .int .i64 0, .int .i64 0, .int .i64 0, .int .i64 0, .slice none 0 0, .slice none 0 0], .slice none 0 0, .int .i64 0, .int .i64 0], []⟩ 8 (by kernel_rfl) (by kernel_rfl) (by kernel_rfl) (by kernel_rfl)) ?_
  · have e : ds.length = 5 := h
    obtain ⟨d0, d1, d2, d3, d4, rfl⟩ := len5 e
    rfl
  intro W base args ds ps hval0 hA0 hlt hz
  have hval : ∀ (j : Nat) t v, Tryz.f4.params[j]? = some t → args[j]? = some v → Value.okWide Tryz.prog W .any base t v := hval0
  have hA : DataW.TrodAll enc Tryz.prog W 0 (fun _ => true) true Tryz.f4.params.toList args.toList ds ps := hA0
  clear hval0 hA0 hlt hz
  rw [Tryz.params4] at hA hval
  obtain ⟨v0, v1, v2, v3, v4, d0, d1, d2, d3, d4, rfl, rfl, ⟨p0, h0⟩, ⟨p1, h1⟩, ⟨p2, h2⟩, ⟨p3, h3⟩, ⟨p4, h4⟩⟩ := trodAll_5 hA
  obtain ⟨A0, n0, c0, es0, r0, rfl, hnc0, hcm0, hr0⟩ := open_rules Tryz.underlying44 Tryz.underlying3 Tryz.underlying35 (by kernel_rfl) (by kernel_rfl) (by kernel_rfl) (by kernel_rfl) (hval 0 44 v0 rfl rfl) h0
  have hm0 : n0 ≤ 9223372036854775807 := by unfold maxLen at hcm0; omega
  obtain ⟨xa1, xb1, xc1, xd1, xe1, AE1, n1, c1, es1, A1, N1, cw1, S1, rfl, hnc1, hcm1, hre1, hNc1, hNm1, hr1⟩ := open_cabin Tryz.underlying51 (by kernel_rfl) (by kernel_rfl) (by kernel_rfl) (by kernel_rfl) (by kernel_rfl) (by kernel_rfl) Tryz.underlying3 Tryz.underlying45 (by kernel_rfl) (by kernel_rfl) (by kernel_rfl) Tryz.underlying46 Tryz.underlying129 (by kernel_rfl) (by kernel_rfl) (by kernel_rfl) (by kernel_rfl) Tryz.underlying49 (by kernel_rfl) (by kernel_rfl) Tryz.underlying47 Tryz.underlying146 Tryz.underlying168 (by kernel_rfl) (by kernel_rfl) (by kernel_rfl) (by kernel_rfl) (by decide) (hval 1 51 v1 rfl rfl) h1
  have hm1 : n1 ≤ 9223372036854775807 := by unfold maxLen at hcm1; omega
  have hM1 : N1 ≤ 9223372036854775807 := by unfold maxLen at hNm1; omega
  obtain ⟨A2, n2, c2, es2, rfl, hnc2, hcm2, hr2⟩ := open_sliceI Tryz.underlying52 Tryz.underlying99 Tryz.underlying3 (by kernel_rfl) (by kernel_rfl) (by kernel_rfl) (by decide) (hval 2 52 v2 rfl rfl) h2
  have hm2 : n2 ≤ 9223372036854775807 := by unfold maxLen at hcm2; omega
  obtain ⟨n3, rfl, rfl, rfl, wn3⟩ := open_int Tryz.underlying3 (hval 3 3 v3 rfl rfl) h3
  obtain ⟨n4, rfl, rfl, rfl, wn4⟩ := open_int Tryz.underlying3 (hval 4 3 v4 rfl rfl) h4
  exact lawAgrees A0 n0 c0 es0 r0 xa1 xb1 xc1 xd1 xe1 AE1 n1 c1 es1 A1 N1 cw1 S1 A2 n2 c2 es2 n3 n4 W hm0 hm1 hM1 hm2 hr0 hre1 hr1 hr2

theorem fnExactAgrees_holds : Rows.FnExactAgreesSaid :=
  OpenClaim.holds_of_wide 4 Tryz.f4 rfl rfl rfl rfl rfl rfl rfl ⟨rfl, rfl, rfl, rfl, rfl⟩ rfl rfl rfl rfl rfl (by kernel_rfl) Tryz.func4 (by kernel_rfl)
    (of_decide_eq_true (by kernel_rfl)) (by unfold Func.isWrapper; first | (rw [if_pos (by decide +kernel)]; kernel_rfl) | (rw [if_neg (by decide +kernel)]; exact ⟨rfl, rfl⟩))
    (fun os started H enc _ => fnExactAgrees_lifted os started H enc)

end Go.Proofs.YtjlmcppkafjniaaGreat
