/- The codes of functions, as the machine reads them. -/
import Derived.Test.YtndcajdameofjaaGreatDoorProg
import Derived.KernelRfl
import Derived.Test.YtndcajdameofjaaGreatDoorRipAJ
namespace Go.Rip
open Go Go.Proofs
set_option maxRecDepth 100000
def c227 : ACode :=
 RG [MV 3 T0, E1 4 (.len .sl T3), MV 2 T4] (.region [MV 5 T0, MV 6 T2, MV 7 T2, E1 8 (.conv .u64 T7), E1 9 (.call 239 [T8]), E1 10 (.call 258 [T5, CI 0, T6, T9])])
def r227 : List ARet := []
def c228 : ACode :=
 RG [E1 2 (.move (.c (.v (.slice none 0 0))))] (.seq (RG [MV 6 T0, E1 7 (.len .sl T6), E1 8 (.bin .lss .no T7 (CI 2))] (.cond T8 (RG [MV 9 T0, MV 2 T9] .ret) .skip)) (.seq (RG [MV 3 (CI 1)] (.block 0 (.loop (.seq (RG [MV 10 T3, MV 11 T0, E1 12 (.len .sl T11), E1 13 (.bin .lss .no T10 T12)] (.cond T13 .skip (.exit 0))) (.seq (.block 1 (RG [MV 16 T0, MV 17 T3, E1 18 (IA 1 T16 T17), E1 19 (LD T18), MV 20 T0, MV 21 T3, E1 22 (.bin .sub .no T21 (CI 1)), E1 23 (IA 1 T20 T22), E1 24 (LD T23), E1 25 (.bin .eql .no T19 T24)] (.cond T25 (RG [MV 26 T0, MV 27 T3, E1 28 (.slice 1 T26 (some T27) none none), MV 4 T28] (.seq (RG [MV 5 (CI 1)] (.block 2 (.loop (.seq (RG [MV 29 T5, MV 30 T4, E1 31 (.len .sl T30), E1 32 (.bin .lss .no T29 T31)] (.cond T32 .skip (.exit 2))) (.seq (.block 3 (RG [MV 35 T4, MV 36 T5, E1 37 (IA 1 T35 T36), E1 38 (LD T37), MV 39 T4, MV 40 T5, E1 41 (.bin .sub .no T40 (CI 1)), E1 42 (IA 1 T39 T41), E1 43 (LD T42), E1 44 (.bin .neq .no T38 T43)] (.cond T44 (RG [MV 45 T0,
  MV 46 T3, MV 47 T4, MV 48 T5, E1 49 (IA 1 T47 T48), E1 50 (LD T49), E1 51 (IA 1 T45 T46), E0 (.store 1 T51 T50)] (.region [MV 52 T3, E1 53 (.bin .add .no T52 (CI 1)), MV 3 T53])) .skip))) (.region [MV 33 T5, E1 34 (.bin .add .no T33 (CI 1)), MV 5 T34])))))) (RG [MV 54 T0, MV 55 T3, E1 56 (.slice 1 T54 (some T55) none none), E0 (.clear 3 1 (.v (.int .i64 0)) T56)] (RG [MV 57 T0, MV 58 T3, E1 59 (.slice 1 T57 none (some T58) none), MV 2 T59] .ret)))) .skip))) (.region [MV 14 T3, E1 15 (.bin .add .no T14 (CI 1)), MV 3 T15])))))) (RG [MV 60 T0, MV 2 T60] .ret)))
def r228 : List ARet := [.tmp 2]
def c298 : ACode :=
 RG [MV 4 (CB false)] (RG [MV 5 T0, E1 6 (.call 241 [T5]), MV 7 T6, E2 8 7 true (.move T1), E2 9 7 true (.call 241 [T8]), E2 10 7 true (.un .not T9), E1 11 (.pick T7 T10 (CB false)), MV 12 T11, E2 13 12 false (.move T0), E2 14 12 false (.move T1), E2 15 12 false (.bin .lss .no T13 T14), E1 16 (.pick T12 (CB true) T15), MV 4 T16] .ret)
def r298 : List ARet := [.tmp 4]
def c304 : ACode :=
 RG [E1 2 (.move (.c (.v (.int .u64 0))))] (RG [MV 3 T0, E1 4 (.conv .u64 T3), E1 5 (.call 239 [T4]), E1 6 (.bin .shl .sh (.c (.v (.int .u64 1))) T5), MV 2 T6] .ret)
def r304 : List ARet := [.tmp 2]
def c305 : ACode :=
 RG [E1 2 (.move (.c (.v (.int .u64 0))))] (RG [MV 3 T0, E1 4 (.nilCheck T3), E1 5 (LD T4), MV 6 T0, E1 7 (.nilCheck T6), E1 8 (LD T7), E1 9 (.bin .shl .sh T8 (.c (.v (.int .u64 13)))), E1 10 (.bin .xor .no T5 T9), E1 11 (.nilCheck T3), E0 (.store 1 T11 T10)] (RG [MV 12 T0, E1 13 (.nilCheck T12), E1 14 (LD T13), MV 15 T0, E1 16 (.nilCheck T15), E1 17 (LD T16), E1 18 (.bin .shr .sh T17 (.c (.v (.int .u64 7)))), E1 19 (.bin .xor .no T14 T18), E1 20 (.nilCheck T12), E0 (.store 1 T20 T19)] (RG [MV 21 T0, E1 22 (.nilCheck T21), E1 23 (LD T22), MV 24 T0, E1 25 (.nilCheck T24), E1 26 (LD T25), E1 27 (.bin .shl .sh T26 (.c (.v (.int .u64 17)))), E1 28 (.bin .xor .no T23 T27), E1 29 (.nilCheck T21), E0 (.store 1 T29 T28)] (RG [MV 30 T0, E1 31 (.nilCheck T30), E1 32 (LD T31), MV 2 T32] .ret))))
def r305 : List ARet := [.tmp 2]
def c239 : ACode :=
 RG [MV 2 (CI 0)] (.seq (.cond (CB false) (RG [MV 3 T0, E1 4 (.conv .u32 T3), E1 5 (.call 271 [T4]), MV 2 T5] .ret) .skip) (RG [MV 6 T0, E1 7 (.call 272 [T6]), MV 2 T7] .ret))
def r239 : List ARet := [.tmp 2]
def c241 : ACode :=
 RG [MV 2 (CB false)] (RG [MV 3 T0, MV 4 T0, E1 5 (.bin .neq .no T3 T4), MV 2 T5] .ret)
def r241 : List ARet := [.tmp 2]
def c272 : ACode :=
 RG [MV 2 (CI 0)] (.seq (RG [MV 3 T0, E1 4 (.bin .geq .no T3 (.c (.v (.int .u64 4294967296))))] (.cond T4 (RG [MV 5 T0, E1 6 (.bin .shr .sh T5 (.c (.v (.int .u64 32)))), MV 0 T6] (.region [MV 2 (CI 32)])) .skip)) (.seq (RG [MV 7 T0, E1 8 (.bin .geq .no T7 (.c (.v (.int .u64 65536))))] (.cond T8 (RG [MV 9 T0, E1 10 (.bin .shr .sh T9 (.c (.v (.int .u64 16)))), MV 0 T10] (.region [MV 11 T2, E1 12 (.bin .add .no T11 (CI 16)), MV 2 T12])) .skip)) (.seq (RG [MV 13 T0, E1 14 (.bin .geq .no T13 (.c (.v (.int .u64 256))))] (.cond T14 (RG [MV 15 T0, E1 16 (.bin .shr .sh T15 (.c (.v (.int .u64 8)))), MV 0 T16] (.region [MV 17 T2, E1 18 (.bin .add .no T17 (CI 8)), MV 2 T18])) .skip)) (RG [MV 19 T2, MV 20 T0, E1 21 (.conv .u8 T20),
  E1 22 (.indexStr (.c (.str [0, 1, 2, 2, 3, 3, 3, 3, 4, 4, 4, 4, 4, 4, 4, 4, 5, 5, 5, 5, 5, 5, 5, 5, 5, 5, 5, 5, 5, 5, 5, 5, 6, 6, 6, 6, 6, 6, 6, 6, 6, 6, 6, 6, 6, 6, 6, 6, 6, 6, 6, 6, 6, 6, 6, 6, 6, 6, 6, 6, 6, 6, 6, 6, 7, 7, 7, 7, 7, 7, 7, 7, 7, 7, 7, 7, 7, 7, 7, 7, 7, 7, 7, 7, 7, 7, 7, 7, 7, 7, 7, 7, 7, 7, 7, 7, 7, 7, 7, 7, 7, 7, 7, 7, 7, 7, 7, 7, 7, 7, 7, 7, 7, 7, 7, 7, 7, 7, 7, 7, 7, 7, 7, 7, 7, 7, 7, 7, 8, 8, 8, 8, 8, 8, 8, 8, 8, 8, 8, 8, 8, 8, 8, 8, 8, 8, 8, 8, 8, 8, 8, 8, 8, 8, 8, 8, 8, 8, 8, 8, 8, 8, 8, 8, 8, 8, 8, 8, 8, 8, 8, 8, 8, 8, 8, 8, 8, 8, 8, 8, 8, 8, 8, 8, 8, 8, 8, 8, 8, 8, 8, 8, 8, 8, 8, 8, 8, 8, 8, 8, 8, 8, 8, 8, 8, 8, 8, 8, 8, 8, 8, 8, 8, 8, 8, 8, 8, 8, 8, 8, 8, 8, 8, 8, 8, 8, 8, 8, 8, 8, 8, 8, 8, 8, 8, 8, 8, 8, 8, 8, 8, 8, 8, 8, 8, 8, 8, 8, 8, 8, 8, 8, 8, 8, 8, 8])) T21), E1 23 (.conv .i64 T22), E1 24 (.bin .add .no T19 T23), MV 2 T24] .ret))))
def r272 : List ARet := [.tmp 2]
theorem k227 : Coded Tryz.prog 227 c227 r227 11 := .of Tryz.func227 (by kernel_rfl)
theorem k228 : Coded Tryz.prog 228 c228 r228 61 := .of Tryz.func228 (by kernel_rfl)
theorem k298 : Coded Tryz.prog 298 c298 r298 17 := .of Tryz.func298 (by kernel_rfl)
theorem k304 : Coded Tryz.prog 304 c304 r304 7 := .of Tryz.func304 (by kernel_rfl)
theorem k305 : Coded Tryz.prog 305 c305 r305 33 := .of Tryz.func305 (by kernel_rfl)
theorem k239 : Coded Tryz.prog 239 c239 r239 8 := .of Tryz.func239 (by kernel_rfl)
theorem k241 : Coded Tryz.prog 241 c241 r241 6 := .of Tryz.func241 (by kernel_rfl)
theorem k272 : Coded Tryz.prog 272 c272 r272 25 := .of Tryz.func272 (by kernel_rfl)
end Go.Rip
