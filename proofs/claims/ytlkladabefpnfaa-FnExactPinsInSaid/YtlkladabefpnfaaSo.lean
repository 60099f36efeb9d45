/-
  What an insertion sort of pins keeps. No conditions.
-/
import Derived.Test.YtlkladabefpnfaaWa
import Derived.Test.YtlkladabefpnfaaLt
namespace Go.Proofs.Ytlkladabefpnfaa
end Go.Proofs.Ytlkladabefpnfaa
