/-
  The law FnNewCabin holds: a new cabin agrees exactly with the absence of parties, for every draw. Conditions: none.
-/
import Derived.Test.YtjlmcppkafjniaaGreatRows
import Derived.Test.YtjlmcppkafjniaaGreatSl
import Derived.Test.YtjlmcppkafjniaaGreatLawFc
namespace Go.Proofs.YtjlmcppkafjniaaGreat
open Go.ChangeShapes Go.WideShapes Go.ChangeAt Go.RowKit

theorem Tryz.own : ownKnob Tryz.prog.godebug = none := by kernel_rfl
theorem Tryz.laidOut : laidOutB Tryz.prog = true := by kernel_rfl

set_option maxRecDepth 100000 in
theorem fnNewCabin_lifted (os : Os) (started : os.Started) (H : Type) (enc : TypeId × Value → H) :
    ReturnsInHanded {} Tryz.checked os 3 .any (Rows.fnNewCabinSpec.pre6 enc Tryz.prog Tryz.f3 Rows.fnNewCabinRow.domain false) (Rows.fnNewCabinSpec.post enc Tryz.prog Tryz.f3 false true false false) := by
  refine law_frame (C := Tryz.checked) (tb := 4) Tryz.own started (by kernel_rfl) Tryz.func3 Tryz.laidOut (by kernel_rfl) rfl Tryz.underlying4 rfl (fun ds h => ?_)
    (ChangeSpec.witness6 (enc := enc) (C := Tryz.checked) false ⟨#[], #[.slice none 0 0], []⟩ 8 (by kernel_rfl) (by kernel_rfl) (by kernel_rfl) (by kernel_rfl)) ?_
  · have e : ds.length = 1 := h
    obtain ⟨d0, rfl⟩ := len1 e
    rfl
  intro W base args ds ps hval0 hA0 hlt hz
  have hval : ∀ (j : Nat) t v, Tryz.f3.params[j]? = some t → args[j]? = some v → Value.okWide Tryz.prog W .any base t v := hval0
  have hA : DataW.TrodAll enc Tryz.prog W 0 (fun _ => true) true Tryz.f3.params.toList args.toList ds ps := hA0
  clear hval0 hA0 hlt hz
  rw [Tryz.params3] at hA hval
  obtain ⟨v0, d0, rfl, rfl, h0⟩ := trodAll_one hA
  obtain ⟨A0, n0, c0, rfl, hnc0, hcm0, hr0⟩ := open_sliceB Tryz.underlying22 Tryz.underlying5 (by kernel_rfl) (hval 0 22 v0 rfl rfl) h0
  have hm0 : n0 ≤ 9223372036854775807 := by unfold maxLen at hcm0; omega
  exact lawFnNewCabin A0 n0 c0 W hm0 hr0

theorem fnNewCabin_holds : Rows.FnNewCabinSaid :=
  OpenClaim.holds_of_wide 3 Tryz.f3 rfl rfl rfl rfl rfl rfl rfl ⟨rfl, rfl, rfl, rfl, rfl⟩ rfl rfl rfl rfl rfl (by kernel_rfl) Tryz.func3 (by kernel_rfl)
    (of_decide_eq_true (by kernel_rfl)) (by unfold Func.isWrapper; first | (rw [if_pos (by decide +kernel)]; kernel_rfl) | (rw [if_neg (by decide +kernel)]; exact ⟨rfl, rfl⟩))
    (fun os started H enc _ => fnNewCabin_lifted os started H enc)

end Go.Proofs.YtjlmcppkafjniaaGreat
