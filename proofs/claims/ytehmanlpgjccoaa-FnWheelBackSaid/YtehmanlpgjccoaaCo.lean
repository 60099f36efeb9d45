/-
  Contracts of the functions that copy lists. No conditions beyond those stated.
-/
import Derived.Test.YtehmanlpgjccoaaApp
import Derived.Test.YtehmanlpgjccoaaBase
namespace Go.Proofs.Ytehmanlpgjccoaa
open Go.RowKit

end Go.Proofs.Ytehmanlpgjccoaa
