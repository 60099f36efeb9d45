/-
  Contracts of the functions that copy lists. No conditions beyond those stated.
-/
import Derived.Test.YtndgaandcmiinaaApp
import Derived.Test.YtndgaandcmiinaaBase
namespace Go.Proofs.Ytndgaandcmiinaa
open Go.RowKit

end Go.Proofs.Ytndgaandcmiinaa
