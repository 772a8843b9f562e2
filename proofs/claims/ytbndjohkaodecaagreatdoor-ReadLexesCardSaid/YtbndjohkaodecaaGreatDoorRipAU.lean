/- The codes of functions, as the machine reads them. -/
import Derived.Test.YtbndjohkaodecaaGreatDoorProg
import Derived.KernelRfl
import Derived.Test.YtbndjohkaodecaaGreatDoorRipAK
namespace Go.Rip
open Go Go.Proofs
set_option maxRecDepth 100000
def c78 : ACode :=
 RG [MV 4 (CI 0), E1 5 (.move (.c (.v (.nilIface))))] (RG [MV 6 T0, E1 7 (.call 117 [T6])] (RG [MV 8 T0, MV 9 T0, E1 10 (.nilCheck T9), E1 11 (FA 1 T10), E1 12 (LD T11), MV 13 T1, E1 14 (.appendS 5 1 1 T12 T13), E1 15 (.nilCheck T8), E1 16 (FA 1 T15), E0 (.store 1 T16 T14)] (RG [MV 17 T1, E1 18 (.len .str T17), MV 4 T18, E1 5 (.move (.c (.v (.nilIface))))] .ret)))
def r78 : List ARet := [.tmp 4, .tmp 5]
def c80 : ACode :=
 RG [E1 4 (.move (.c (.v (.nilIface))))] (RG [MV 5 T0, E1 6 (.call 117 [T5])] (RG [MV 7 T0, MV 8 T0, E1 9 (.nilCheck T8), E1 10 (FA 1 T9), E1 11 (LD T10), MV 12 T1, E1 13 (.buildSlice 5 1 (.v (.int .u8 0)) 1 [(0, T12)]), E1 14 (.append 5 1 1 T11 T13), E1 15 (.nilCheck T7), E1 16 (FA 1 T15), E0 (.store 1 T16 T14)] (RG [E1 4 (.move (.c (.v (.nilIface))))] .ret)))
def r80 : List ARet := [.tmp 4]
def c81 : ACode :=
 RG [MV 2 (CI 0)] (RG [MV 3 T0, E1 4 (.nilCheck T3), E1 5 (FA 1 T4), E1 6 (LD T5), E1 7 (.len .sl T6), MV 2 T7] .ret)
def r81 : List ARet := [.tmp 2]
theorem k78 : Coded Tryz.prog 78 c78 r78 19 := ⟨_, Tryz.func78, by kernel_rfl, by kernel_rfl, by kernel_rfl⟩
theorem k80 : Coded Tryz.prog 80 c80 r80 17 := ⟨_, Tryz.func80, by kernel_rfl, by kernel_rfl, by kernel_rfl⟩
theorem k81 : Coded Tryz.prog 81 c81 r81 8 := ⟨_, Tryz.func81, by kernel_rfl, by kernel_rfl, by kernel_rfl⟩
end Go.Rip
