/-
  Contracts of the functions that copy, compare, mark and check slices of integers. No conditions beyond those stated.
-/
import Derived.Test.YtfilagmboeeclaaFill
import Derived.Test.YtfilagmboeeclaaBase
namespace Go.Proofs.Ytfilagmboeeclaa
open Go.RowKit

end Go.Proofs.Ytfilagmboeeclaa
