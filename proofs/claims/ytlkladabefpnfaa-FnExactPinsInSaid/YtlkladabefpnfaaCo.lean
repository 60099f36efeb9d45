/-
  Contracts of the functions that copy lists. No conditions beyond those stated.
-/
import Derived.Test.YtlkladabefpnfaaApp
import Derived.Test.YtlkladabefpnfaaBase
namespace Go.Proofs.Ytlkladabefpnfaa
open Go.RowKit

end Go.Proofs.Ytlkladabefpnfaa
