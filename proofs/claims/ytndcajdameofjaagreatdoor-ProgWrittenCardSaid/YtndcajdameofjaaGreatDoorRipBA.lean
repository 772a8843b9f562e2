/- Numbers are sorted: pdqsort. -/
import Derived.Test.YtndcajdameofjaaGreatDoorRipAZ
namespace Go.Rip
open Go
set_option maxRecDepth 100000
variable {GL : Glob}
end Go.Rip
