/-
  Contract of slices.Insert of one element into a slice of structs (Entry), wherever. Conditions: the row may be written, the element lies in a block of its own.
-/
import Derived.Test.YtjlmcppkafjniaaGreatSe
import Derived.Test.YtjlmcppkafjniaaGreatSl
import Derived.Test.YtjlmcppkafjniaaGreatQa
namespace Go.Proofs.YtjlmcppkafjniaaGreat
open Go.RowKit

theorem insEntry_info : (Tryz.prog.info? 82).map (fun i => (i.zero, i.size, i.bytes)) = some (some (.agg #[.int .i64 0, .int .i64 0, .int .i64 0, .int .i64 0]), 4, 32) := by kernel_rfl
theorem insEntry_size : ∀ w, (Go.sizeOf 82).run Tryz.prog w = .ok 4 w := fun _ => by kernel_rfl

end Go.Proofs.YtjlmcppkafjniaaGreat


namespace Go.Proofs.YtjlmcppkafjniaaGreat
open Go.RowKit

theorem shape_of_heap {w : World} {g : Nat} {cs : Array Value} {t : TypeId} {fz : Nat × Nat} (h : w.heap[g]? = some (.cells cs t fz)) : w.shape? g = some (t, cs.size) := by
  unfold World.shape?
  simp [h]

end Go.Proofs.YtjlmcppkafjniaaGreat
