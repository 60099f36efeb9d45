/-
  Contract of slices.Insert of one element into a slice of structs (Entry). Conditions: the row may be written, the element lies in a block of its own.
-/
import Derived.Test.YtjlmcppkafjniaaGreatRg
import Derived.Test.YtjlmcppkafjniaaGreatMk
import Derived.Test.YtjlmcppkafjniaaGreatW2
namespace Go.Proofs.YtjlmcppkafjniaaGreat
open Go.RowKit

theorem insEntry_info : (Tryz.prog.info? 82).map (fun i => (i.zero, i.size, i.bytes)) = some (some (.agg #[.int .i64 0, .int .i64 0, .int .i64 0, .int .i64 0]), 4, 32) := by kernel_rfl
theorem insEntry_size : ∀ w, (Go.sizeOf 82).run Tryz.prog w = .ok 4 w := fun _ => by kernel_rfl

end Go.Proofs.YtjlmcppkafjniaaGreat
