/- The codes of functions, as the machine reads them. -/
import Derived.Test.YtndcajdameofjaaGreatDoorProg
import Derived.KernelRfl
import Derived.Test.YtndcajdameofjaaGreatDoorRipAI
namespace Go.Rip
open Go Go.Proofs
set_option maxRecDepth 100000
def c42 : ACode :=
 RG [E1 2 (.box 37 T0), E1 4 (.move (.c (.v (.slice none 0 0)))), MV 5 (CI 0)] (RG [E1 9 (LT 1 T2), E1 10 (.call 116 [T9]), MV 8 T10, E1 11 (.extract T8 0), E1 12 (.extract T8 1), E1 6 (.alloc 153 [.v (.slice none 0 0), .v (.map none), .v (.map none)]), E0 (.store 3 T6 T11), MV 7 T12] (.seq (RG [MV 13 T7, E1 14 (.bin .neq .no T13 (CI 0))] (.cond T14 (RG [MV 15 T7, E1 4 (.move (.c (.v (.slice none 0 0)))), MV 5 T15] .ret) .skip)) (.seq (RG [MV 16 T1, E1 17 (.bin .lss .no T16 (CI 0)), MV 18 T17, E2 19 18 false (.move T1), E2 20 18 false (FA 0 T2), E2 21 18 false (LD T20), E2 22 18 false (.len .sl T21), E2 23 18 false (.bin .geq .no T19 T22), E1 24 (.pick T18 (CB true) T23)] (.cond T24 (RG [E1 4 (.move (.c (.v (.slice none 0 0)))), MV 5 (CI 1)] .ret) .skip)) (RG [E1 25 (LT 3 T6), MV 26 T1, E1 27 (.call 133 [T25, T26]), MV 4 T27, MV 5 (CI 0)] .ret))))
def r42 : List ARet := [.tmp 4, .tmp 5]
def c133 : ACode :=
 RG [E1 2 (.box 153 T0), E1 4 (.move (.c (.v (.slice none 0 0))))] (RG [E1 5 (.move (.c (.v (.slice none 0 0))))] (.seq (RG [E1 8 (FA 0 T2), E1 9 (FA 0 T8), E1 10 (LD T9), MV 11 T1, E1 12 (IA 3 T10 T11), E1 13 (FA 2 T12), E1 14 (LD T13), E1 15 (.len .sl T14), MV 16 (CI 0)] (.block 0 (.loop (RG [E1 17 (.bin .lss .no T16 T15)] (.seq (.cond T17 .skip (.exit 0)) (.seq (.block 1 (RG [E1 18 (IA 5 T14 T16), E1 19 (LT 5 T18), E1 7 (.alloc 68 [.v (.int .i64 0), .v (.int .i64 0), .v (.slice none 0 0), .v (.slice none 0 0), .v (.slice none 0 0)]), E0 (.store 5 T7 T19)] (.region [MV 20 T5, E1 21 (FA 4 T7), E1 22 (LD T21), E1 23 (.append 24 4 56 T20 T22), MV 5 T23]))) (.region [E1 24 (.bin .add .no T16 (CI 1)), MV 16 T24]))))))) (RG [E1 25 (LT 3 T2), MV 26 T5, E1 27 (.call 154 [T25, T26]), MV 4 T27] .ret)))
def r133 : List ARet := [.tmp 4]
def c154 : ACode :=
 RG [E1 2 (.box 153 T0), E1 4 (.move (.c (.v (.slice none 0 0))))] (RG [E1 5 (.move (.c (.v (.slice none 0 0))))] (.seq (RG [MV 10 T1, E1 11 (.call 226 [T10]), E1 12 (.len .sl T11), MV 13 (CI 0)] (.block 0 (.loop (RG [E1 14 (.bin .lss .no T13 T12)] (.seq (.cond T14 .skip (.exit 0)) (.seq (.block 1 (RG [E1 15 (IA 2 T11 T13), E1 16 (LT 2 T15), E1 7 (.alloc 26 [.str [], .v (.int .i64 0)]), E0 (.store 2 T7 T16)] (RG [E1 18 (FA 1 T2), E1 19 (LT 2 T18), E1 20 (LT 2 T7), E1 21 (.call 142 [T19, T20]), MV 17 T21, E1 22 (.extract T17 0), E1 23 (.extract T17 1), MV 8 T22, MV 9 T23] (.region [MV 24 T5, MV 25 T8, E1 26 (.buildSlice 3 1 (.v (.int .i64 0)) 1 [(0, T25)]), E1 27 (.appendM 3 1 8 T24 T26), MV 5 T27])))) (.region [E1 28 (.bin .add .no T13 (CI 1)), MV 13 T28]))))))) (RG [MV 29 T5, E1 30 (.call 227 [T29])] (RG [MV 31 T5, E1 32 (.call 228 [T31]), MV 4 T32] .ret))))
def r154 : List ARet := [.tmp 4]
theorem k42 : Coded Tryz.prog 42 c42 r42 28 := ⟨_, Tryz.func42, by kernel_rfl, by kernel_rfl, by kernel_rfl⟩
theorem k133 : Coded Tryz.prog 133 c133 r133 28 := ⟨_, Tryz.func133, by kernel_rfl, by kernel_rfl, by kernel_rfl⟩
theorem k154 : Coded Tryz.prog 154 c154 r154 33 := ⟨_, Tryz.func154, by kernel_rfl, by kernel_rfl, by kernel_rfl⟩
end Go.Rip
