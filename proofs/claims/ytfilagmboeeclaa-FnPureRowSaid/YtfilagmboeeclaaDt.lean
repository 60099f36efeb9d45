/-
  The function that draws a right party. No conditions beyond those stated.
-/
import Derived.Test.YtfilagmboeeclaaDt0
namespace Go.Proofs.Ytfilagmboeeclaa
open Go.RowKit

end Go.Proofs.Ytfilagmboeeclaa
