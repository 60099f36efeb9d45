/-
  The law FnExactCabinNew holds: the program and the reference agree on CabinNew for every number. Conditions: none.
-/
import Derived.Test.YtndgaandcmiinaaRows
import Derived.Test.YtndgaandcmiinaaFrame
import Derived.Test.YtndgaandcmiinaaOpen
import Derived.Test.YtndgaandcmiinaaLawCn
namespace Go.Proofs.Ytndgaandcmiinaa
open Go.ChangeShapes Go.WideShapes Go.ChangeAt Go.RowKit

theorem Try.own : ownKnob Try.prog.godebug = none := by kernel_rfl
theorem Try.laidOut : laidOutB Try.prog = true := by kernel_rfl

set_option maxRecDepth 100000 in
theorem fnExactCabinNew_lifted (os : Os) (started : os.Started) (H : Type) (enc : TypeId × Value → H) :
    ReturnsInHanded {} Try.checked os 14 .any (Rows.fnExactCabinNewSpec.pre6 enc Try.prog Try.f14 Rows.fnExactCabinNewRow.domain false) (Rows.fnExactCabinNewSpec.post enc Try.prog Try.f14 false true false false) := by
  refine law_frame (C := Try.checked) (tb := 4) Try.own started (by kernel_rfl) Try.func14 Try.laidOut (by kernel_rfl) rfl Try.underlying4 rfl (fun ds h => ?_)
    (ChangeSpec.witness6 (enc := enc) (C := Try.checked) false ⟨#[], #[.int .i64 0], []⟩ 8 (by kernel_rfl) (by kernel_rfl) (by kernel_rfl) (by kernel_rfl)) ?_
  · have e : ds.length = 1 := h
    obtain ⟨d0, rfl⟩ := len1 e
    rfl
  intro W base args ds ps hval0 hA0 hlt hz
  have hval : ∀ (j : Nat) t v, Try.f14.params[j]? = some t → args[j]? = some v → Value.okWide Try.prog W .any base t v := hval0
  have hA : DataW.TrodAll enc Try.prog W 0 (fun _ => true) true Try.f14.params.toList args.toList ds ps := hA0
  clear hval0 hA0 hlt hz
  rw [Try.params14] at hA hval
  obtain ⟨v0, d0, rfl, rfl, h0⟩ := trodAll_one hA
  obtain ⟨n0, rfl, rfl, rfl, wn0⟩ := open_int Try.underlying3 (hval 0 3 v0 rfl rfl) h0
  exact lawCabinNew _ _

theorem fnExactCabinNew_holds : Rows.FnExactCabinNewSaid :=
  OpenClaim.holds_of_wide 14 Try.f14 rfl rfl rfl rfl rfl rfl rfl ⟨rfl, rfl, rfl, rfl, rfl⟩ rfl rfl rfl rfl rfl (by kernel_rfl) Try.func14 (by kernel_rfl)
    (of_decide_eq_true (by kernel_rfl)) (by unfold Func.isWrapper; first | (rw [if_pos (by decide +kernel)]; kernel_rfl) | (rw [if_neg (by decide +kernel)]; exact ⟨rfl, rfl⟩))
    (fun os started H enc _ => fnExactCabinNew_lifted os started H enc)

end Go.Proofs.Ytndgaandcmiinaa
