/-
  Contracts of the functions that copy, compare, mark and check slices of structs. No conditions beyond those stated.
-/
import Derived.Test.YtjlmcppkafjniaaGreatEs
import Derived.Test.YtjlmcppkafjniaaGreatSl
namespace Go.Proofs.YtjlmcppkafjniaaGreat
open Go.RowKit

end Go.Proofs.YtjlmcppkafjniaaGreat
