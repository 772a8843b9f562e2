/- The reference's tests; Expr, Test. -/
import Derived.Test.YtndcajdameofjaaGreatDoorRipAN
namespace Go.Rip
open Go Go.Proofs
variable {GL : Glob}
end Go.Rip
