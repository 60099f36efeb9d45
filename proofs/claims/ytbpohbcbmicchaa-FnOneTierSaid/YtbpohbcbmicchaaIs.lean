/-
  Contracts of the functions that copy, compare, mark and check slices of integers. No conditions beyond those stated.
-/
import Derived.Test.YtbpohbcbmicchaaFill
import Derived.Test.YtbpohbcbmicchaaBase
namespace Go.Proofs.Ytbpohbcbmicchaa
open Go.RowKit

end Go.Proofs.Ytbpohbcbmicchaa
