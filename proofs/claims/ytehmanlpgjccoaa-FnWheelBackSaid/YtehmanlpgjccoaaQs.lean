/-
  Contracts of the functions that copy, compare, mark and check slices of structs. No conditions beyond those stated.
-/
import Derived.Test.YtehmanlpgjccoaaFill
import Derived.Test.YtehmanlpgjccoaaBase
namespace Go.Proofs.Ytehmanlpgjccoaa
open Go.RowKit

end Go.Proofs.Ytehmanlpgjccoaa
