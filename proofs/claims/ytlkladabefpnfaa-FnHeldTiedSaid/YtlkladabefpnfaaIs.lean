/-
  Contracts of the functions that copy, compare, mark and check slices of integers. No conditions beyond those stated.
-/
import Derived.Test.YtlkladabefpnfaaFill
import Derived.Test.YtlkladabefpnfaaBase
namespace Go.Proofs.Ytlkladabefpnfaa
open Go.RowKit

end Go.Proofs.Ytlkladabefpnfaa
