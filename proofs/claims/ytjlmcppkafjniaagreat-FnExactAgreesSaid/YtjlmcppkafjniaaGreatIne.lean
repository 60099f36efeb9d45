/-
  Contract of slices.Insert of one element into a slice of structs (Entry), wherever. Conditions: the row may be written, the element lies in a block of its own.
-/
import Derived.Test.YtjlmcppkafjniaaGreatIe
import Derived.Test.YtjlmcppkafjniaaGreatW2
namespace Go.Proofs.YtjlmcppkafjniaaGreat
open Go.RowKit

theorem shape_of_heap {w : World} {g : Nat} {cs : Array Value} {t : TypeId} {fz : Nat × Nat} (h : w.heap[g]? = some (.cells cs t fz)) : w.shape? g = some (t, cs.size) := by
  unfold World.shape?
  simp [h]

end Go.Proofs.YtjlmcppkafjniaaGreat
