/-
  Walks of the laws on moved seats: each returns true and leaves old memory alone.
-/
import Derived.Test.YtebmaibohpkfbaaMov
namespace Go.Proofs.Ytebmaibohpkfbaa
open Go.RowKit

theorem my {P : Program} {f : FuncId} {args : Array Value} {w : World} {A : Prop} {x y : List Int} (c : Calls P f args w (MV x y A w)) (h : A) : Calls P f args w fun e w' => e = .returned (.tuple #[.agg (y.map (Value.int .i64)).toArray, .bool true]) ∧ Below w.heap.size w w' :=
  c.mono fun _ _ x => x.elim (fun y => ⟨y.1, y.2.2⟩) (fun y => absurd h y.2.1)
theorem mn {P : Program} {f : FuncId} {args : Array Value} {w : World} {A : Prop} {x y : List Int} (c : Calls P f args w (MV x y A w)) (h : ¬ A) : Calls P f args w fun e w' => e = .returned (.tuple #[.agg (x.map (Value.int .i64)).toArray, .bool false]) ∧ Below w.heap.size w w' :=
  c.mono fun _ _ x => x.elim (fun y => absurd y.2.1 h) (fun y => ⟨y.1, y.2.2⟩)

end Go.Proofs.Ytebmaibohpkfbaa
