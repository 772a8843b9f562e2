/- The codes of functions, as the machine reads them. -/
import Derived.Test.YtndcajdameofjaaGreatDoorProg
import Derived.KernelRfl
import Derived.Test.YtndcajdameofjaaGreatDoorRipAI
namespace Go.Rip
open Go Go.Proofs
set_option maxRecDepth 100000
def c304 : ACode :=
 RG [E1 2 (.move (.c (.v (.int .u64 0))))] (RG [MV 3 T0, E1 4 (.conv .u64 T3), E1 5 (.call 239 [T4]), E1 6 (.bin .shl .sh (.c (.v (.int .u64 1))) T5), MV 2 T6] .ret)
def r304 : List ARet := [.tmp 2]
def c305 : ACode :=
 RG [E1 2 (.move (.c (.v (.int .u64 0))))] (RG [MV 3 T0, E1 4 (.nilCheck T3), E1 5 (LD T4), MV 6 T0, E1 7 (.nilCheck T6), E1 8 (LD T7), E1 9 (.bin .shl .sh T8 (.c (.v (.int .u64 13)))), E1 10 (.bin .xor .no T5 T9), E1 11 (.nilCheck T3), E0 (.store 1 T11 T10)] (RG [MV 12 T0, E1 13 (.nilCheck T12), E1 14 (LD T13), MV 15 T0, E1 16 (.nilCheck T15), E1 17 (LD T16), E1 18 (.bin .shr .sh T17 (.c (.v (.int .u64 7)))), E1 19 (.bin .xor .no T14 T18), E1 20 (.nilCheck T12), E0 (.store 1 T20 T19)] (RG [MV 21 T0, E1 22 (.nilCheck T21), E1 23 (LD T22), MV 24 T0, E1 25 (.nilCheck T24), E1 26 (LD T25), E1 27 (.bin .shl .sh T26 (.c (.v (.int .u64 17)))), E1 28 (.bin .xor .no T23 T27), E1 29 (.nilCheck T21), E0 (.store 1 T29 T28)] (RG [MV 30 T0, E1 31 (.nilCheck T30), E1 32 (LD T31), MV 2 T32] .ret))))
def r305 : List ARet := [.tmp 2]
def c239 : ACode :=
 RG [MV 2 (CI 0)] (.seq (.cond (CB false) (RG [MV 3 T0, E1 4 (.conv .u32 T3), E1 5 (.call 271 [T4]), MV 2 T5] .ret) .skip) (RG [MV 6 T0, E1 7 (.call 272 [T6]), MV 2 T7] .ret))
def r239 : List ARet := [.tmp 2]
def c241 : ACode :=
 RG [MV 2 (CB false)] (RG [MV 3 T0, MV 4 T0, E1 5 (.bin .neq .no T3 T4), MV 2 T5] .ret)
def r241 : List ARet := [.tmp 2]
def c272 : ACode :=
 RG [MV 2 (CI 0)] (.seq (RG [MV 3 T0, E1 4 (.bin .geq .no T3 (.c (.v (.int .u64 4294967296))))] (.cond T4 (RG [MV 5 T0, E1 6 (.bin .shr .sh T5 (.c (.v (.int .u64 32)))), MV 0 T6] (.region [MV 2 (CI 32)])) .skip)) (.seq (RG [MV 7 T0, E1 8 (.bin .geq .no T7 (.c (.v (.int .u64 65536))))] (.cond T8 (RG [MV 9 T0, E1 10 (.bin .shr .sh T9 (.c (.v (.int .u64 16)))), MV 0 T10] (.region [MV 11 T2, E1 12 (.bin .add .no T11 (CI 16)), MV 2 T12])) .skip)) (.seq (RG [MV 13 T0, E1 14 (.bin .geq .no T13 (.c (.v (.int .u64 256))))] (.cond T14 (RG [MV 15 T0, E1 16 (.bin .shr .sh T15 (.c (.v (.int .u64 8)))), MV 0 T16] (.region [MV 17 T2, E1 18 (.bin .add .no T17 (CI 8)), MV 2 T18])) .skip)) (RG [MV 19 T2, MV 20 T0, E1 21 (.conv .u8 T20),
  E1 22 (.indexStr (.c (.str [0, 1, 2, 2, 3, 3, 3, 3, 4, 4, 4, 4, 4, 4, 4, 4, 5, 5, 5, 5, 5, 5, 5, 5, 5, 5, 5, 5, 5, 5, 5, 5, 6, 6, 6, 6, 6, 6, 6, 6, 6, 6, 6, 6, 6, 6, 6, 6, 6, 6, 6, 6, 6, 6, 6, 6, 6, 6, 6, 6, 6, 6, 6, 6, 7, 7, 7, 7, 7, 7, 7, 7, 7, 7, 7, 7, 7, 7, 7, 7, 7, 7, 7, 7, 7, 7, 7, 7, 7, 7, 7, 7, 7, 7, 7, 7, 7, 7, 7, 7, 7, 7, 7, 7, 7, 7, 7, 7, 7, 7, 7, 7, 7, 7, 7, 7, 7, 7, 7, 7, 7, 7, 7, 7, 7, 7, 7, 7, 8, 8, 8, 8, 8, 8, 8, 8, 8, 8, 8, 8, 8, 8, 8, 8, 8, 8, 8, 8, 8, 8, 8, 8, 8, 8, 8, 8, 8, 8, 8, 8, 8, 8, 8, 8, 8, 8, 8, 8, 8, 8, 8, 8, 8, 8, 8, 8, 8, 8, 8, 8, 8, 8, 8, 8, 8, 8, 8, 8, 8, 8, 8, 8, 8, 8, 8, 8, 8, 8, 8, 8, 8, 8, 8, 8, 8, 8, 8, 8, 8, 8, 8, 8, 8, 8, 8, 8, 8, 8, 8, 8, 8, 8, 8, 8, 8, 8, 8, 8, 8, 8, 8, 8, 8, 8, 8, 8, 8, 8, 8, 8, 8, 8, 8, 8, 8, 8, 8, 8, 8, 8, 8, 8, 8, 8, 8, 8])) T21), E1 23 (.conv .i64 T22), E1 24 (.bin .add .no T19 T23), MV 2 T24] .ret))))
def r272 : List ARet := [.tmp 2]
theorem k304 : Coded Tryz.prog 304 c304 r304 7 := ⟨_, Tryz.func304, by kernel_rfl, by kernel_rfl, by kernel_rfl⟩
theorem k305 : Coded Tryz.prog 305 c305 r305 33 := ⟨_, Tryz.func305, by kernel_rfl, by kernel_rfl, by kernel_rfl⟩
theorem k239 : Coded Tryz.prog 239 c239 r239 8 := ⟨_, Tryz.func239, by kernel_rfl, by kernel_rfl, by kernel_rfl⟩
theorem k241 : Coded Tryz.prog 241 c241 r241 6 := ⟨_, Tryz.func241, by kernel_rfl, by kernel_rfl, by kernel_rfl⟩
theorem k272 : Coded Tryz.prog 272 c272 r272 25 := ⟨_, Tryz.func272, by kernel_rfl, by kernel_rfl, by kernel_rfl⟩
end Go.Rip
