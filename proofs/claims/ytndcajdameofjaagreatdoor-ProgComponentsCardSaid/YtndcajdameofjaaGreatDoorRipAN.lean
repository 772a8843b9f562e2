/- The reference's tests; Expr, Test. -/
import Derived.Test.YtndcajdameofjaaGreatDoorRipAM
namespace Go.Rip
open Go Go.Proofs
variable {GL : Glob}
end Go.Rip
