/- The codes of functions, as the machine reads them. -/
import Derived.Test.YtndcajdameofjaaGreatDoorProg
import Derived.KernelRfl
import Derived.Test.YtndcajdameofjaaGreatDoorRipAI
namespace Go.Rip
open Go Go.Proofs
set_option maxRecDepth 100000
def c35 : ACode :=
 RG [MV 4 (CB false)] (.seq (RG [MV 7 T0, E1 8 (.len .sl T7), MV 9 T1, E1 10 (.len .sl T9), E1 11 (.bin .neq .no T8 T10)] (.cond T11 (RG [MV 4 (CB false)] .ret) .skip)) (.seq (RG [MV 5 (CI 0)] (.block 0 (.loop (.seq (RG [MV 12 T5, MV 13 T0, E1 14 (.len .sl T13), E1 15 (.bin .lss .no T12 T14)] (.cond T15 .skip (.exit 0))) (.seq (.block 1 (RG [MV 18 T0, MV 19 T5, E1 20 (IA 4 T18 T19), E1 21 (LT 4 T20), MV 22 T1, MV 23 T5, E1 24 (IA 4 T22 T23), E1 25 (LT 4 T24), E1 26 (.call 24 [T21, T25]), MV 6 T26] (RG [MV 27 T6, E1 28 (.un .not T27)] (.cond T28 (RG [MV 4 (CB false)] .ret) .skip)))) (.region [MV 16 T5, E1 17 (.bin .add .no T16 (CI 1)), MV 5 T17])))))) (RG [MV 4 (CB true)] .ret)))
def r35 : List ARet := [.tmp 4]
def c56 : ACode :=
 RG [E1 2 (.box 68 T0), E1 3 (.box 68 T1), MV 4 (CB false)] (RG [E1 5 (FA 0 T2), E1 6 (LD T5), E1 7 (FA 0 T3), E1 8 (LD T7), E1 9 (.bin .eql .no T6 T8), MV 10 T9, E2 11 10 true (FA 1 T2), E2 12 10 true (LD T11), E2 13 10 true (FA 1 T3), E2 14 10 true (LD T13), E2 15 10 true (.bin .eql .no T12 T14), E1 16 (.pick T10 T15 (CB false)), MV 17 T16, E2 18 17 true (FA 2 T2), E2 19 17 true (LD T18), E2 20 17 true (FA 2 T3), E2 21 17 true (LD T20), E2 22 17 true (.call 35 [T19, T21]), E1 23 (.pick T17 T22 (CB false)), MV 24 T23, E2 25 24 true (FA 3 T2), E2 26 24 true (LD T25), E2 27 24 true (FA 3 T3), E2 28 24 true (LD T27), E2 29 24 true (.call 35 [T26, T28]), E1 30 (.pick T24 T29 (CB false)), MV 31 T30, E2 32 31 true (FA 4 T2), E2 33 31 true (LD T32), E2 34 31 true (FA 4 T3), E2 35 31 true (LD T34), E2 36 31 true (.call 35 [T33, T35]), E1 37 (.pick T31 T36 (CB false)), MV 4 T37] .ret)
def r56 : List ARet := [.tmp 4]
def c207 : ACode :=
 RG [E1 2 (.move (.c (.v (.slice none 0 0))))] (RG [E1 3 (.move (.c (.v (.slice none 0 0))))] (.seq (RG [MV 6 T0, E1 7 (.len .sl T6), MV 8 (CI 0)] (.block 0 (.loop (RG [E1 9 (.bin .lss .no T8 T7)] (.seq (.cond T9 .skip (.exit 0)) (.seq (.block 1 (RG [E1 10 (IA 4 T6 T8), E1 11 (LT 4 T10), E1 5 (.alloc 24 [.v (.int .i64 0), .v (.int .i64 0), .str [], .v (.slice none 0 0)]), E0 (.store 4 T5 T11)] (RG [E1 12 (FA 3 T5), E1 13 (LD T12), E1 14 (.call 207 [T13]), E1 15 (FA 3 T5), E0 (.store 1 T15 T14)] (.region [MV 16 T3, E1 17 (LT 4 T5), E1 18 (.buildSlice 24 4 (.agg [.v (.int .i64 0), .v (.int .i64 0), .str [], .v (.slice none 0 0)]) 1 [(0, T17)]), E1 19 (.appendB 24 4 56 T16 T18), MV 3 T19])))) (.region [E1 20 (.bin .add .no T8 (CI 1)), MV 8 T20]))))))) (RG [MV 21 T3, MV 2 T21] .ret)))
def r207 : List ARet := [.tmp 2]
theorem k35 : Coded Tryz.prog 35 c35 r35 29 := ⟨_, Tryz.func35, by kernel_rfl, by kernel_rfl, by kernel_rfl⟩
theorem k56 : Coded Tryz.prog 56 c56 r56 38 := ⟨_, Tryz.func56, by kernel_rfl, by kernel_rfl, by kernel_rfl⟩
theorem k207 : Coded Tryz.prog 207 c207 r207 22 := ⟨_, Tryz.func207, by kernel_rfl, by kernel_rfl, by kernel_rfl⟩
end Go.Rip
