/-
  The law FnExactPartyPut holds: the program and the reference agree on PartyPut for every list and party. Conditions: none.
-/
import Derived.Test.YtcainllgnbdkbaaRows
import Derived.Test.YtcainllgnbdkbaaFrame
import Derived.Test.YtcainllgnbdkbaaOpR
import Derived.Test.YtcainllgnbdkbaaSl
import Derived.Test.YtcainllgnbdkbaaLawPp
namespace Go.Proofs.Ytcainllgnbdkbaa
open Go.ChangeShapes Go.WideShapes Go.ChangeAt Go.RowKit

theorem Try.own : ownKnob Try.prog.godebug = none := by kernel_rfl
theorem Try.laidOut : laidOutB Try.prog = true := by kernel_rfl

set_option maxRecDepth 100000 in
theorem fnExactPartyPut_lifted (os : Os) (started : os.Started) (H : Type) (enc : TypeId × Value → H) :
    ReturnsInHanded {} Try.checked os 9 .any (Rows.fnExactPartyPutSpec.pre6 enc Try.prog Try.f9 Rows.fnExactPartyPutRow.domain false) (Rows.fnExactPartyPutSpec.post enc Try.prog Try.f9 false true false false) := by
  refine law_frame (C := Try.checked) (tb := 4) Try.own started (by kernel_rfl) Try.func9 Try.laidOut (by kernel_rfl) rfl Try.underlying4 rfl (fun ds h => ?_)
    (ChangeSpec.witness6 (enc := enc) (C := Try.checked) false ⟨#[], #[.slice none 0 0, .agg #[.int .i64 0, .int .i64 0, .int .i64 0, .int .i64 0, .int .i64 0, .int .i64 0, .int .i64 0, .int .i64 0, .int .i64 0, .int .i64 0]], []⟩ 8 (by kernel_rfl) (by kernel_rfl) (by kernel_rfl) (by kernel_rfl)) ?_
  · have e : ds.length = 2 := h
    obtain ⟨d0, d1, rfl⟩ := len2 e
    rfl
  intro W base args ds ps hval0 hA0 hlt hz
  have hval : ∀ (j : Nat) t v, Try.f9.params[j]? = some t → args[j]? = some v → Value.okWide Try.prog W .any base t v := hval0
  have hA : DataW.TrodAll enc Try.prog W 0 (fun _ => true) true Try.f9.params.toList args.toList ds ps := hA0
  clear hval0 hA0 hlt hz
  rw [Try.params9] at hA hval
  obtain ⟨v0, v1, d0, d1, p0, p1, rfl, rfl, rfl, h0, h1⟩ := trodAll_two hA
  obtain ⟨A0, n0, c0, es0, rfl, hnc0, hcm0, hr0⟩ := open_sliceI Try.underlying54 Try.underlying26 Try.underlying3 (by kernel_rfl) (by kernel_rfl) (by kernel_rfl) (by decide) (hval 0 54 v0 rfl rfl) h0
  have hm0 : n0 ≤ 9223372036854775807 := by unfold maxLen at hcm0; omega
  obtain ⟨zs1, rfl, hl1, hw1⟩ := open_structI Try.underlying26 Try.underlying3 (by kernel_rfl) (by kernel_rfl) (by kernel_rfl) (hval 1 26 v1 rfl rfl) h1
  obtain ⟨x10, x11, x12, x13, x14, x15, x16, x17, x18, x19, rfl⟩ := len10 hl1
  exact lawPartyPut A0 n0 c0 (fun j => [x10, x11, x12, x13, x14, x15, x16, x17, x18, x19].getD j 0) es0 W hm0 hr0

theorem fnExactPartyPut_holds : Rows.FnExactPartyPutSaid :=
  OpenClaim.holds_of_wide 9 Try.f9 rfl rfl rfl rfl rfl rfl rfl ⟨rfl, rfl, rfl, rfl, rfl⟩ rfl rfl rfl rfl rfl (by kernel_rfl) Try.func9 (by kernel_rfl)
    (of_decide_eq_true (by kernel_rfl)) (by unfold Func.isWrapper; first | (rw [if_pos (by decide +kernel)]; kernel_rfl) | (rw [if_neg (by decide +kernel)]; exact ⟨rfl, rfl⟩))
    (fun os started H enc _ => fnExactPartyPut_lifted os started H enc)

end Go.Proofs.Ytcainllgnbdkbaa
