/-
  The function that draws a party that may be bent. No conditions beyond those stated.
-/
import Derived.Test.YtjlmcppkafjniaaGreatDt
import Derived.Deep.CutBlock
namespace Go.Proofs.YtjlmcppkafjniaaGreat
open Go.RowKit

theorem tfb_b {P : Program} {f : FuncId} {args : Array Value} {w : World} {A : Prop} {bo : Bool} (h : bo = true ↔ A) (c : Calls P f args w (TFB A w)) : Calls P f args w fun e w' => e = .returned (.bool bo) ∧ Below w.heap.size w w' := by
  cases bo
  · exact tn c (fun ha => by cases h.2 ha)
  · exact ty c (h.1 rfl)
theorem LR.below {w wx wy : World} {cb : Nat} {A : Option Addr} {n c : Nat} {r p : Nat → Int} (h : LR w wx cb A n c r p) (d : Below wx.heap.size wx wy) : LR w wy cb A n c r p :=
  ⟨h.1.below d, h.2.1.below d, h.2.2.1.below d, h.2.2.2.of_below d⟩

end Go.Proofs.YtjlmcppkafjniaaGreat
