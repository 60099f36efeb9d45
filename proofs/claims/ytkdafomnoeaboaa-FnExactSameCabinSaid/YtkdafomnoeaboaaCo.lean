/-
  Contracts of the functions that copy lists. No conditions beyond those stated.
-/
import Derived.Test.YtkdafomnoeaboaaApp
import Derived.Test.YtkdafomnoeaboaaBase
namespace Go.Proofs.Ytkdafomnoeaboaa
open Go.RowKit

end Go.Proofs.Ytkdafomnoeaboaa
