/- The codes of functions, as the machine reads them. -/
import Derived.Test.YtbndjohkaodecaaGreatDoorProg
import Derived.KernelRfl
import Derived.Test.YtbndjohkaodecaaGreatDoorRipAK
namespace Go.Rip
open Go Go.Proofs
set_option maxRecDepth 100000
def c24 : ACode :=
 RG [E1 2 (.box 31 T0), E1 3 (.box 31 T1), MV 4 (CB false)] (.seq (RG [E1 7 (FA 0 T2), E1 8 (LD T7), E1 9 (FA 0 T3), E1 10 (LD T9), E1 11 (.bin .neq .no T8 T10), MV 12 T11, E2 13 12 false (FA 1 T2), E2 14 12 false (LD T13), E2 15 12 false (FA 1 T3), E2 16 12 false (LD T15), E2 17 12 false (.bin .neq .no T14 T16), E1 18 (.pick T12 (CB true) T17), MV 19 T18, E2 20 19 false (FA 2 T2), E2 21 19 false (LD T20), E2 22 19 false (FA 2 T3), E2 23 19 false (LD T22), E2 24 19 false (.bin .neq .no T21 T23), E1 25 (.pick T19 (CB true) T24), MV 26 T25, E2 27 26 false (FA 3 T2), E2 28 26 false (LD T27), E2 29 26 false (.len .sl T28), E2 30 26 false (FA 3 T3), E2 31 26 false (LD T30), E2 32 26 false (.len .sl T31), E2 33 26 false (.bin .neq .no T29 T32), E1 34 (.pick T26 (CB true) T33)] (.cond T34 (RG [MV 4 (CB false)] .ret) .skip)) (.seq (RG [MV 5 (CI 0)] (.block 0 (.loop (.seq (RG [MV 35 T5, E1 36 (FA 3 T2), E1 37 (LD T36), E1 38 (.len .sl T37),
  E1 39 (.bin .lss .no T35 T38)] (.cond T39 .skip (.exit 0))) (.seq (.block 1 (RG [E1 42 (FA 3 T2), E1 43 (LD T42), MV 44 T5, E1 45 (IA 4 T43 T44), E1 46 (LT 4 T45), E1 47 (FA 3 T3), E1 48 (LD T47), MV 49 T5, E1 50 (IA 4 T48 T49), E1 51 (LT 4 T50), E1 52 (.call 24 [T46, T51]), MV 6 T52] (RG [MV 53 T6, E1 54 (.un .not T53)] (.cond T54 (RG [MV 4 (CB false)] .ret) .skip)))) (.region [MV 40 T5, E1 41 (.bin .add .no T40 (CI 1)), MV 5 T41])))))) (RG [MV 4 (CB true)] .ret)))
def r24 : List ARet := [.tmp 4]
def c76 : ACode :=
 RG [E1 1 (.box 31 T0), MV 2 (CI 0)] (RG [E1 3 (LT 4 T1), E1 4 (.buildSlice 31 4 (.agg [.v (.int .i64 0), .v (.int .i64 0), .str [], .v (.slice none 0 0)]) 1 [(0, T3)]), E1 5 (.call 113 [T4]), MV 2 T5] .ret)
def r76 : List ARet := [.tmp 2]
def c113 : ACode :=
 RG [MV 2 (CI 0)] (RG [E1 8 (.call 159 []), E1 4 (.alloc 165 [.v (.nilFunc), .v (.nilFunc), .v (.nilFunc), .v (.nilFunc), .v (.nilFunc), .v (.nilFunc), .v (.nilFunc)]), MV 3 (CI 4000), E0 (.store 7 T4 T8)] (.seq (RG [MV 9 T0, E1 10 (.len .sl T9), MV 11 (CI 0)] (.block 0 (.loop (RG [E1 12 (.bin .lss .no T11 T10)] (.seq (.cond T12 .skip (.exit 0)) (.seq (.block 1 (RG [E1 13 (IA 4 T9 T11), E1 14 (LT 4 T13), E1 6 (.alloc 31 [.v (.int .i64 0), .v (.int .i64 0), .str [], .v (.slice none 0 0)]), E0 (.store 4 T6 T14)] (RG [E1 15 (LT 4 T6), MV 16 T3, E1 17 (LT 7 T4), E1 18 (.call 160 [T15, T16, CI 600, T17]), MV 7 T18] (.seq (RG [MV 19 T7, MV 20 T3, E1 21 (.bin .gtr .no T19 T20)] (.cond T21 (RG [MV 2 (CI 3)] .ret) .skip)) (.region [MV 22 T3, MV 23 T7, E1 24 (.bin .sub .no T22 T23), MV 3 T24]))))) (.region [E1 25 (.bin .add .no T11 (CI 1)), MV 11 T25]))))))) (RG [MV 2 (CI 0)] .ret)))
def r113 : List ARet := [.tmp 2]
def c160 : ACode :=
 RG [E1 4 (.box 31 T0), E1 7 (.box 165 T3), MV 8 (CI 0)] (.seq (RG [MV 12 T2, E1 13 (.bin .lss .no T12 (CI 1)), MV 14 T13, E2 15 14 false (.move T1), E2 16 14 false (.bin .lss .no T15 (CI 1)), E1 17 (.pick T14 (CB true) T16), MV 18 T17, E2 19 18 false (FA 0 T4), E2 20 18 false (LD T19), E2 21 18 false (.bin .lss .no T20 (CI 1)), E1 22 (.pick T18 (CB true) T21), MV 23 T22, E2 24 23 false (FA 0 T4), E2 25 23 false (LD T24), E2 26 23 false (.bin .gtr .no T25 (CI 6)), E1 27 (.pick T23 (CB true) T26), MV 28 T27, E2 29 28 false (FA 0 T4), E2 30 28 false (LD T29), E2 31 28 false (.indexAddrArr 7 1 T7 T30), E2 32 28 false (LD T31), E2 33 28 false (LT 4 T4), E2 34 28 false (.callV T32 [T33]), E2 35 28 false (.un .not T34), E1 36 (.pick T28 (CB true) T35)] (.cond T36 (RG [MV 37 T1, E1 38 (.bin .add .no T37 (CI 1)), MV 8 T38] .ret) .skip)) (RG [MV 9 (CI 1)] (.seq (RG [E1 39 (FA 3 T4), E1 40 (LD T39), E1 41 (.len .sl T40),
  MV 42 (CI 0)] (.block 0 (.loop (RG [E1 43 (.bin .lss .no T42 T41)] (.seq (.cond T43 .skip (.exit 0)) (.seq (.block 1 (RG [E1 44 (IA 4 T40 T42), E1 45 (LT 4 T44), E1 11 (.alloc 31 [.v (.int .i64 0), .v (.int .i64 0), .str [], .v (.slice none 0 0)]), E0 (.store 4 T11 T45)] (RG [MV 46 T9, E1 47 (LT 4 T11), MV 48 T1, MV 49 T9, E1 50 (.bin .sub .no T48 T49), MV 51 T2, E1 52 (.bin .sub .no T51 (CI 1)), E1 53 (LT 7 T7), E1 54 (.call 160 [T47, T50, T52, T53]), E1 55 (.bin .add .no T46 T54), MV 9 T55] (RG [MV 56 T9, MV 57 T1, E1 58 (.bin .gtr .no T56 T57)] (.cond T58 (RG [MV 59 T1, E1 60 (.bin .add .no T59 (CI 1)), MV 8 T60] .ret) .skip))))) (.region [E1 61 (.bin .add .no T42 (CI 1)), MV 42 T61]))))))) (RG [MV 62 T9, MV 8 T62] .ret))))
def r160 : List ARet := [.tmp 8]
def c195 : ACode :=
 RG [E1 4 (.box 31 T0), MV 8 (CB false)] (RG [MV 9 T1, MV 10 T9, E2 11 10 false (FA 1 T4), E2 12 10 false (LD T11), E2 13 10 false (.bin .eql .no T12 (CI 0)), E1 14 (.pick T10 (CB true) T13), MV 15 T14, E2 16 15 true (.move T2), E2 17 15 true (.move T16), E2 18 17 false (FA 2 T4), E2 19 17 false (LD T18), E2 20 17 false (.bin .eql .no T19 (.c (.str []))), E2 21 15 true (.pick T17 (CB true) T20), E1 22 (.pick T15 T21 (CB false)), MV 23 T22, E2 24 23 true (.move T3), E2 25 23 true (.move T24), E2 26 25 false (FA 3 T4), E2 27 25 false (LD T26), E2 28 25 false (.len .sl T27), E2 29 25 false (.bin .eql .no T28 (CI 0)), E2 30 23 true (.pick T25 (CB true) T29), E1 31 (.pick T23 T30 (CB false)), MV 8 T31] .ret)
def r195 : List ARet := [.tmp 8]
def c196 : ACode :=
 RG [E1 2 (.box 31 T0), MV 3 (CB false)] (RG [E1 4 (LD T1), E1 5 (LT 4 T2), E1 6 (.callV T4 [T5, CB true, CB false, CB false]), MV 7 T6, E2 8 7 true (FA 1 T2), E2 9 7 true (LD T8), E2 10 7 true (.bin .geq .no T9 (CI 0)), E1 11 (.pick T7 T10 (CB false)), MV 12 T11, E2 13 12 true (FA 1 T2), E2 14 12 true (LD T13), E2 15 12 true (.bin .lss .no T14 (CI 100000)), E1 16 (.pick T12 T15 (CB false)), MV 3 T16] .ret)
def r196 : List ARet := [.tmp 3]
def c197 : ACode :=
 RG [E1 2 (.box 31 T0), MV 3 (CB false)] (RG [E1 4 (LD T1), E1 5 (LT 4 T2), E1 6 (.callV T4 [T5, CB true, CB false, CB false]), MV 7 T6, E2 8 7 true (FA 1 T2), E2 9 7 true (LD T8), E2 10 7 true (.bin .geq .no T9 (CI (-2147483647))), E1 11 (.pick T7 T10 (CB false)), MV 12 T11, E2 13 12 true (FA 1 T2), E2 14 12 true (LD T13), E2 15 12 true (.bin .leq .no T14 (CI 2147483647)), E1 16 (.pick T12 T15 (CB false)), MV 3 T16] .ret)
def r197 : List ARet := [.tmp 3]
def c198 : ACode :=
 RG [E1 2 (.box 31 T0), MV 3 (CB false)] (RG [E1 4 (LD T1), E1 5 (LT 4 T2), E1 6 (.callV T4 [T5, CB false, CB true, CB false]), MV 7 T6, E2 8 7 true (FA 2 T2), E2 9 7 true (LD T8), E2 10 7 true (.call 199 [T9]), E1 11 (.pick T7 T10 (CB false)), MV 3 T11] .ret)
def r198 : List ARet := [.tmp 3]
def c199 : ACode :=
 RG [MV 2 (CB false)] (RG [E1 3 (.move (.c (.fn (.func 219) [] [])))] (RG [MV 4 T0, E1 5 (.len .str T4), E1 6 (.bin .geq .no T5 (CI 1)), MV 7 T6, E2 8 7 true (.move T0), E2 9 7 true (.len .str T8), E2 10 7 true (.bin .leq .no T9 (CI 32)), E1 11 (.pick T7 T10 (CB false)), MV 12 T11, E2 13 12 true (.move T0), E2 14 12 true (.move T3), E2 15 12 true (.call 220 [T13, T14]), E2 16 12 true (.bin .lss .no T15 (CI 0)), E1 17 (.pick T12 T16 (CB false)), MV 2 T17] .ret))
def r199 : List ARet := [.tmp 2]
def c200 : ACode :=
 RG [E1 2 (.box 31 T0), MV 3 (CB false)] (RG [E1 4 (LD T1), E1 5 (LT 4 T2), E1 6 (.callV T4 [T5, CB false, CB true, CB false]), MV 7 T6, E2 8 7 true (FA 2 T2), E2 9 7 true (LD T8), E2 10 7 true (.len .str T9), E2 11 7 true (.bin .leq .no T10 (CI 255)), E1 12 (.pick T7 T11 (CB false)), MV 3 T12] .ret)
def r200 : List ARet := [.tmp 3]
def c201 : ACode :=
 RG [E1 2 (.box 31 T0), MV 3 (CB false)] (RG [E1 4 (LD T1), E1 5 (LT 4 T2), E1 6 (.callV T4 [T5, CB false, CB true, CB true]), MV 7 T6, E2 8 7 true (FA 2 T2), E2 9 7 true (LD T8), E2 10 7 true (.call 199 [T9]), E1 11 (.pick T7 T10 (CB false)), MV 12 T11, E2 13 12 true (FA 3 T2), E2 14 12 true (LD T13), E2 15 12 true (.len .sl T14), E2 16 12 true (.bin .geq .no T15 (CI 1)), E1 17 (.pick T12 T16 (CB false)), MV 18 T17, E2 19 18 true (FA 3 T2), E2 20 18 true (LD T19), E2 21 18 true (.len .sl T20), E2 22 18 true (.bin .leq .no T21 (CI 16)), E1 23 (.pick T18 T22 (CB false)), MV 3 T23] .ret)
def r201 : List ARet := [.tmp 3]
def c202 : ACode :=
 RG [E1 2 (.box 31 T0), MV 3 (CB false)] (RG [E1 4 (LD T1), E1 5 (LT 4 T2), E1 6 (.callV T4 [T5, CB false, CB false, CB true]), MV 7 T6, E2 8 7 true (FA 3 T2), E2 9 7 true (LD T8), E2 10 7 true (.len .sl T9), E2 11 7 true (.bin .leq .no T10 (CI 64)), E1 12 (.pick T7 T11 (CB false)), MV 3 T12] .ret)
def r202 : List ARet := [.tmp 3]
def c219 : ACode :=
 RG [MV 2 (CB false)] (RG [MV 3 T0, E1 4 (.bin .lss .no T3 (.c (.v (.int .i32 32)))), MV 5 T4, E2 6 5 false (.move T0), E2 7 5 false (.bin .gtr .no T6 (.c (.v (.int .i32 126)))), E1 8 (.pick T5 (CB true) T7), MV 2 T8] .ret)
def r219 : List ARet := [.tmp 2]
def c220 : ACode :=
 RG [MV 4 (CI 0)] (RG [MV 5 T0, MV 6 T1, E1 7 (.call 234 [T5, T6, CB true]), MV 4 T7] .ret)
def r220 : List ARet := [.tmp 4]
def c234 : ACode :=
 RG [MV 6 (CI 0)] (.seq (RG [MV 9 T0, E1 10 (.rangeStr T9)] (.block 0 (.loop (RG [E1 11 (.nextStr T10), E1 12 (.extract T11 0)] (.seq (.cond T12 .skip (.exit 0)) (.block 1 (RG [E1 13 (.extract T11 1), E1 14 (.extract T11 2), MV 7 T13, MV 8 T14] (RG [MV 15 T1, MV 16 T8, E1 17 (.callV T15 [T16]), MV 18 T2, E1 19 (.bin .eql .bl T17 T18)] (.cond T19 (RG [MV 20 T7, MV 6 T20] .ret) .skip))))))))) (RG [E1 6 (.move (CI (-1)))] .ret))
def r234 : List ARet := [.tmp 6]
theorem k24 : Coded Tryz.prog 24 c24 r24 55 := ⟨_, Tryz.func24, by kernel_rfl, by kernel_rfl, by kernel_rfl⟩
theorem k76 : Coded Tryz.prog 76 c76 r76 6 := ⟨_, Tryz.func76, by kernel_rfl, by kernel_rfl, by kernel_rfl⟩
theorem k113 : Coded Tryz.prog 113 c113 r113 26 := ⟨_, Tryz.func113, by kernel_rfl, by kernel_rfl, by kernel_rfl⟩
theorem k160 : Coded Tryz.prog 160 c160 r160 63 := ⟨_, Tryz.func160, by kernel_rfl, by kernel_rfl, by kernel_rfl⟩
theorem k195 : Coded Tryz.prog 195 c195 r195 32 := ⟨_, Tryz.func195, by kernel_rfl, by kernel_rfl, by kernel_rfl⟩
theorem k196 : Coded Tryz.prog 196 c196 r196 17 := ⟨_, Tryz.func196, by kernel_rfl, by kernel_rfl, by kernel_rfl⟩
theorem k197 : Coded Tryz.prog 197 c197 r197 17 := ⟨_, Tryz.func197, by kernel_rfl, by kernel_rfl, by kernel_rfl⟩
theorem k198 : Coded Tryz.prog 198 c198 r198 12 := ⟨_, Tryz.func198, by kernel_rfl, by kernel_rfl, by kernel_rfl⟩
theorem k199 : Coded Tryz.prog 199 c199 r199 18 := ⟨_, Tryz.func199, by kernel_rfl, by kernel_rfl, by kernel_rfl⟩
theorem k200 : Coded Tryz.prog 200 c200 r200 13 := ⟨_, Tryz.func200, by kernel_rfl, by kernel_rfl, by kernel_rfl⟩
theorem k201 : Coded Tryz.prog 201 c201 r201 24 := ⟨_, Tryz.func201, by kernel_rfl, by kernel_rfl, by kernel_rfl⟩
theorem k202 : Coded Tryz.prog 202 c202 r202 13 := ⟨_, Tryz.func202, by kernel_rfl, by kernel_rfl, by kernel_rfl⟩
theorem k219 : Coded Tryz.prog 219 c219 r219 9 := ⟨_, Tryz.func219, by kernel_rfl, by kernel_rfl, by kernel_rfl⟩
theorem k220 : Coded Tryz.prog 220 c220 r220 8 := ⟨_, Tryz.func220, by kernel_rfl, by kernel_rfl, by kernel_rfl⟩
theorem k234 : Coded Tryz.prog 234 c234 r234 21 := ⟨_, Tryz.func234, by kernel_rfl, by kernel_rfl, by kernel_rfl⟩
end Go.Rip
