/- The codes of functions, as the machine reads them. -/
import Derived.Test.YtndcajdameofjaaGreatDoorProg
import Derived.KernelRfl
import Derived.Test.YtndcajdameofjaaGreatDoorRipAI
namespace Go.Rip
open Go Go.Proofs
set_option maxRecDepth 100000
def c207 : ACode :=
 RG [E1 2 (.move (.c (.v (.slice none 0 0))))] (RG [E1 3 (.move (.c (.v (.slice none 0 0))))] (.seq (RG [MV 6 T0, E1 7 (.len .sl T6), MV 8 (CI 0)] (.block 0 (.loop (RG [E1 9 (.bin .lss .no T8 T7)] (.seq (.cond T9 .skip (.exit 0)) (.seq (.block 1 (RG [E1 10 (IA 4 T6 T8), E1 11 (LT 4 T10), E1 5 (.alloc 24 [.v (.int .i64 0), .v (.int .i64 0), .str [], .v (.slice none 0 0)]), E0 (.store 4 T5 T11)] (RG [E1 12 (FA 3 T5), E1 13 (LD T12), E1 14 (.call 207 [T13]), E1 15 (FA 3 T5), E0 (.store 1 T15 T14)] (.region [MV 16 T3, E1 17 (LT 4 T5), E1 18 (.buildSlice 24 4 (.agg [.v (.int .i64 0), .v (.int .i64 0), .str [], .v (.slice none 0 0)]) 1 [(0, T17)]), E1 19 (.append 24 4 56 T16 T18), MV 3 T19])))) (.region [E1 20 (.bin .add .no T8 (CI 1)), MV 8 T20]))))))) (RG [MV 21 T3, MV 2 T21] .ret)))
def r207 : List ARet := [.tmp 2]
theorem k207 : Coded Tryz.prog 207 c207 r207 22 := ⟨_, Tryz.func207, by kernel_rfl, by kernel_rfl, by kernel_rfl⟩
end Go.Rip
