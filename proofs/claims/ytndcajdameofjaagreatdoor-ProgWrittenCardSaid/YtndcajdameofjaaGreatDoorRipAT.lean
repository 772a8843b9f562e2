/- The codes of functions, as the machine reads them. -/
import Derived.Test.YtndcajdameofjaaGreatDoorProg
import Derived.KernelRfl
import Derived.Test.YtndcajdameofjaaGreatDoorRipAI
namespace Go.Rip
open Go Go.Proofs
set_option maxRecDepth 100000
def c27 : ACode :=
 RG [E1 1 (.box 37 T0), MV 2 (CB false)] (RG [E1 3 (.alloc 3 [.v (.int .i64 0)]), E0 (.store 1 T3 (CI 5000)), MV 4 (CI 0)] (.seq (RG [E1 13 (FA 0 T1), E1 14 (LD T13), E1 15 (.len .sl T14), E1 16 (.bin .gtr .no T15 (CI 80))] (.cond T16 (RG [MV 2 (CB false)] .ret) .skip)) (.seq (RG [E1 17 (FA 0 T1), E1 18 (LD T17), E1 19 (.len .sl T18), MV 20 (CI 0)] (.block 0 (.loop (RG [E1 21 (.bin .lss .no T20 T19)] (.seq (.cond T21 .skip (.exit 0)) (.seq (.block 1 (RG [E1 22 (IA 3 T18 T20), E1 23 (LT 3 T22), E1 6 (.alloc 60 [.str [], .v (.int .i64 0), .v (.slice none 0 0)]), E0 (.store 3 T6 T23)] (RG [MV 24 T4, E1 25 (FA 2 T6), E1 26 (LD T25), E1 27 (.len .sl T26), E1 28 (.bin .add .no T24 T27), MV 4 T28] (.seq (RG [MV 29 T4, E1 30 (.bin .gtr .no T29 (CI 120)), MV 31 T30, E2 32 31 false (FA 0 T6), E2 33 31 false (LD T32), E2 34 31 false (.len .str T33), E2 35 31 false (.bin .gtr .no T34 (CI 500)), E1 36 (.pick T31 (CB true) T35)] (.cond T36 (RG [MV 2 (CB false)] .ret) .skip)) (RG [E1 37 (FA 2 T6),
  E1 38 (LD T37), E1 39 (.len .sl T38), MV 40 (CI 0)] (.block 2 (.loop (RG [E1 41 (.bin .lss .no T40 T39)] (.seq (.cond T41 .skip (.exit 2)) (.seq (.block 3 (RG [E1 42 (IA 5 T38 T40), E1 43 (LT 5 T42), E1 8 (.alloc 68 [.v (.int .i64 0), .v (.int .i64 0), .v (.slice none 0 0), .v (.slice none 0 0), .v (.slice none 0 0)]), E0 (.store 5 T8 T43)] (RG [E1 44 (FA 2 T8), E1 45 (LD T44), E1 46 (FA 3 T8), E1 47 (LD T46), E1 48 (FA 4 T8), E1 49 (LD T48), E1 50 (.buildSlice 22 1 (.v (.slice none 0 0)) 3 [(0, T45), (1, T47), (2, T49)]), E1 51 (.len .sl T50), MV 52 (CI 0)] (.block 4 (.loop (RG [E1 53 (.bin .lss .no T52 T51)] (.seq (.cond T53 .skip (.exit 4)) (.seq (.block 5 (RG [E1 54 (IA 1 T50 T52), E1 55 (LD T54), MV 10 T55] (RG [MV 56 T10, E1 57 (.len .sl T56), MV 58 (CI 0)] (.block 6 (.loop (RG [E1 59 (.bin .lss .no T58 T57)] (.seq (.cond T59 .skip (.exit 6)) (.seq (.block 7 (RG [E1 60 (IA 4 T56 T58), E1 61 (LT 4 T60),
  E1 12 (.alloc 24 [.v (.int .i64 0), .v (.int .i64 0), .str [], .v (.slice none 0 0)]), E0 (.store 4 T12 T61)] (RG [E1 62 (LT 4 T12), E1 63 (.call 94 [T62, T3, CI 1]), E1 64 (.un .not T63)] (.cond T64 (RG [MV 2 (CB false)] .ret) .skip)))) (.region [E1 65 (.bin .add .no T58 (CI 1)), MV 58 T65]))))))))) (.region [E1 66 (.bin .add .no T52 (CI 1)), MV 52 T66]))))))))) (.region [E1 67 (.bin .add .no T40 (CI 1)), MV 40 T67]))))))))))) (.region [E1 68 (.bin .add .no T20 (CI 1)), MV 20 T68]))))))) (RG [MV 2 (CB true)] .ret))))
def r27 : List ARet := [.tmp 2]
def c32 : ACode :=
 RG [E1 1 (.box 37 T0), MV 2 (CI 0)] (RG [E1 6 (LT 1 T1), E1 7 (.call 116 [T6]), MV 5 T7, E1 8 (.extract T5 0), E1 9 (.extract T5 1), E1 3 (.alloc 153 [.v (.slice none 0 0), .v (.map none), .v (.map none)]), E0 (.store 3 T3 T8), MV 4 T9] (RG [MV 10 T4, MV 2 T10] .ret))
def r32 : List ARet := [.tmp 2]
def c43 : ACode :=
 RG [MV 4 (CB false)] (RG [MV 5 T0, MV 6 T1, E1 7 (.call 134 [T5, T6]), E1 8 (.bin .geq .no T7 (CI 0)), MV 4 T8] .ret)
def r43 : List ARet := [.tmp 4]
def c61 : ACode :=
 RG [MV 4 (CB false)] (RG [MV 5 T0, MV 6 T1, E1 7 (.call 150 [T5, T6]), E1 8 (.bin .geq .no T7 (CI 0)), MV 4 T8] .ret)
def r61 : List ARet := [.tmp 4]
def c116 : ACode :=
 RG [E1 1 (.box 37 T0), E1 2 (.alloc 153 [.v (.slice none 0 0), .v (.map none), .v (.map none)]), MV 3 (CI 0)] (RG [E1 7 (LT 1 T1), E1 8 (.call 197 [T7]), MV 6 T8, E1 9 (.extract T6 0), E1 10 (.extract T6 1), E1 4 (.alloc 151 [.v (.map none), .v (.map none)]), E0 (.store 2 T4 T9), MV 5 T10] (.seq (RG [MV 11 T5, E1 12 (.un .not T11), MV 13 T12, E2 14 13 false (LT 2 T4), E2 15 13 false (LT 1 T1), E2 16 13 false (.call 198 [T14, T15]), E2 17 13 false (.un .not T16), E1 18 (.pick T13 (CB true) T17)] (.cond T18 (RG [E1 19 (.build [.v (.slice none 0 0), .v (.map none), .v (.map none)] []), E0 (.store 3 T2 T19), MV 3 (CI 5)] .ret) .skip)) (RG [E1 20 (LT 1 T1), E1 21 (LT 2 T4), E1 22 (.build [.v (.slice none 0 0), .v (.map none), .v (.map none)] [(0, 1, T20), (1, 2, T21)]), E0 (.store 3 T2 T22), MV 3 (CI 0)] .ret)))
def r116 : List ARet := [.cell 2 true 3, .tmp 3]
def c134 : ACode :=
 RG [MV 4 (CI 0)] (.seq (RG [MV 6 T0, E1 7 (.len .sl T6), MV 8 (CI 0)] (.block 0 (.loop (RG [E1 9 (.bin .lss .no T8 T7)] (.seq (.cond T9 .skip (.exit 0)) (.seq (.block 1 (RG [MV 10 T8, MV 5 T10] (RG [MV 11 T1, MV 12 T0, MV 13 T5, E1 14 (IA 1 T12 T13), E1 15 (LD T14), E1 16 (.bin .eql .no T11 T15)] (.cond T16 (RG [MV 17 T5, MV 4 T17] .ret) .skip)))) (.region [E1 18 (.bin .add .no T8 (CI 1)), MV 8 T18]))))))) (RG [E1 4 (.move (CI (-1)))] .ret))
def r134 : List ARet := [.tmp 4]
def c139 : ACode :=
 RG [E1 2 (.box 68 T0), MV 4 (CB false)] (.seq (RG [E1 12 (FA 0 T2), E1 13 (LD T12), E1 14 (.bin .lss .no T13 (CI 0)), MV 15 T14, E2 16 15 false (FA 0 T2), E2 17 15 false (LD T16), E2 18 15 false (.bin .gtr .no T17 (CI 2)), E1 19 (.pick T15 (CB true) T18), MV 20 T19, E2 21 20 false (FA 2 T2), E2 22 20 false (LD T21), E2 23 20 false (.len .sl T22), E2 24 20 false (.move T1), E2 25 20 false (.bin .neq .no T23 T24), E1 26 (.pick T20 (CB true) T25), MV 27 T26, E2 28 27 false (FA 3 T2), E2 29 27 false (LD T28), E2 30 27 false (.len .sl T29), E2 31 27 false (.bin .gtr .no T30 (CI 8)), E1 32 (.pick T27 (CB true) T31), MV 33 T32, E2 34 33 false (FA 4 T2), E2 35 33 false (LD T34), E2 36 33 false (.len .sl T35), E2 37 33 false (.bin .gtr .no T36 (CI 16)), E1 38 (.pick T33 (CB true) T37)] (.cond T38 (RG [MV 4 (CB false)] .ret) .skip)) (RG [E1 39 (LT 5 T2), E1 40 (.call 140 [T39]), MV 5 T40] (.seq (RG [MV 41 T5, E1 42 (.call 181 [T41]), E1 43 (.bin .neq .no T42 (CI 0)), MV 44 T43,
  E2 45 44 false (.move T5), E2 46 44 false (.call 203 [T45]), E2 47 44 false (.bin .gtr .no T46 (CI 400)), E1 48 (.pick T44 (CB true) T47)] (.cond T48 (RG [MV 4 (CB false)] .ret) .skip)) (RG [MV 50 T5, E1 51 (.call 211 [T50]), MV 49 T51, E1 52 (.extract T49 0), E1 53 (.extract T49 1), MV 6 T52, MV 7 T53] (RG [E1 55 (FA 2 T2), E1 56 (LD T55), E1 57 (.call 211 [T56]), MV 54 T57, E1 58 (.extract T54 0), E1 59 (.extract T54 1), E1 8 (.alloc 61 [.v (.slice none 0 0)]), E0 (.store 1 T8 T58), MV 9 T59] (RG [E1 61 (FA 3 T2), E1 62 (LD T61), E1 63 (.call 211 [T62]), MV 60 T63, E1 64 (.extract T60 0), E1 65 (.extract T60 1), MV 10 T64, MV 11 T65] (RG [MV 66 T6, E1 67 (.len .sl T66), E1 68 (.bin .leq .no T67 (CI 64)), MV 69 T68, E2 70 69 true (.move T10), E2 71 69 true (.mkFunc 215 [] [T8]), E2 72 69 true (.call 61 [T70, T71]), E2 73 69 true (.un .not T72), E1 74 (.pick T69 T73 (CB false)), MV 75 T74, E2 76 75 true (FA 3 T2), E2 77 75 true (LD T76),
  E2 78 75 true (.call 188 [T77, .c (.fn (.func 216) [] [])]), E2 79 75 true (.un .not T78), E1 80 (.pick T75 T79 (CB false)), MV 81 T80, E2 82 81 true (FA 4 T2), E2 83 81 true (LD T82), E2 84 81 true (.call 188 [T83, .c (.fn (.func 217) [] [])]), E2 85 81 true (.un .not T84), E1 86 (.pick T81 T85 (CB false)), MV 4 T86] .ret)))))))
def r139 : List ARet := [.tmp 4]
def c140 : ACode :=
 RG [E1 1 (.box 68 T0), E1 2 (.move (.c (.v (.slice none 0 0))))] (RG [E1 3 (FA 2 T1), E1 4 (LD T3), E1 5 (FA 3 T1), E1 6 (LD T5), E1 7 (FA 4 T1), E1 8 (LD T7), E1 9 (.buildSlice 22 1 (.v (.slice none 0 0)) 3 [(0, T4), (1, T6), (2, T8)]), E1 10 (.call 218 [T9]), MV 2 T10] .ret)
def r140 : List ARet := [.tmp 2]
def c142 : ACode :=
 RG [E1 2 (.box 151 T0), E1 3 (.box 26 T1), MV 4 (CI 0), MV 5 (CB false)] (.seq (RG [E1 9 (FA 0 T2), E1 10 (LD T9), E1 11 (LT 2 T3), E1 12 (.lookup (.st [.str, .int .i64]) (.v (.int .i64 0)) T10 T11 true), MV 8 T12, E1 13 (.extract T8 0), E1 14 (.extract T8 1), MV 6 T13, MV 7 T14] (RG [MV 15 T7] (.cond T15 (RG [MV 16 T6, MV 4 T16, MV 5 (CB true)] .ret) .skip))) (RG [E1 17 (FA 1 T2), E1 18 (LD T17), E1 19 (LT 2 T3), E1 20 (.lookup (.st [.str, .int .i64]) (.v (.bool false)) T18 T19 false), E1 4 (.move (CI (-1))), MV 5 T20] .ret))
def r142 : List ARet := [.tmp 4, .tmp 5]
def c143 : ACode :=
 RG [E1 2 (.box 68 T0), MV 4 (CB false)] (RG [E1 5 (LT 5 T2), MV 6 T1, E1 7 (.call 139 [T5, T6]), MV 8 T7, E2 9 8 true (LT 5 T2), E2 11 8 true (FA 1 T2), E2 12 8 true (LD T11), E2 10 8 true (.call 140 [T9]), (none, some (8, true), .chk (some 12) (LD T11)), E2 13 8 true (.call 204 [T10, T12]), E1 14 (.pick T8 T13 (CB false)), MV 4 T14] .ret)
def r143 : List ARet := [.tmp 4]
def c150 : ACode :=
 RG [MV 4 (CI 0)] (.seq (RG [MV 6 T0, E1 7 (.len .sl T6), MV 8 (CI 0)] (.block 0 (.loop (RG [E1 9 (.bin .lss .no T8 T7)] (.seq (.cond T9 .skip (.exit 0)) (.seq (.block 1 (RG [MV 10 T8, MV 5 T10] (RG [MV 11 T1, MV 12 T0, MV 13 T5, E1 14 (IA 1 T12 T13), E1 15 (LD T14), E1 16 (.callV T11 [T15])] (.cond T16 (RG [MV 17 T5, MV 4 T17] .ret) .skip)))) (.region [E1 18 (.bin .add .no T8 (CI 1)), MV 8 T18]))))))) (RG [E1 4 (.move (CI (-1)))] .ret))
def r150 : List ARet := [.tmp 4]
def c197 : ACode :=
 RG [E1 1 (.box 37 T0), E1 2 (.alloc 151 [.v (.map none), .v (.map none)]), MV 3 (CB false)] (RG [E1 10 .mkMap, E1 11 (.build [.v (.map none), .v (.map none)] [(0, 1, T10)]), E1 4 (.alloc 151 [.v (.map none), .v (.map none)]), E0 (.store 2 T4 T11)] (.seq (RG [E1 12 (FA 0 T1), E1 13 (LD T12), E1 14 (.len .sl T13), E1 15 (.bin .gtr .no T14 (CI 64))] (.cond T15 (RG [E1 16 (LT 2 T4), E0 (.store 2 T2 T16), MV 3 (CB false)] .ret) .skip)) (.seq (RG [E1 17 (FA 0 T1), E1 18 (LD T17), E1 19 (.len .sl T18), MV 20 (CI 0)] (.block 0 (.loop (RG [E1 21 (.bin .lss .no T20 T19)] (.seq (.cond T21 .skip (.exit 0)) (.seq (.block 1 (RG [MV 22 T20, E1 23 (IA 3 T18 T20), E1 24 (LT 3 T23), E1 6 (.alloc 60 [.str [], .v (.int .i64 0), .v (.slice none 0 0)]), MV 5 T22, E0 (.store 3 T6 T24)] (RG [E1 25 (FA 0 T6), E1 26 (LD T25), E1 27 (FA 1 T6), E1 28 (LD T27), E1 29 (.build [.str [], .v (.int .i64 0)] [(0, 1, T26), (1, 1, T28)]), E1 7 (.alloc 26 [.str [], .v (.int .i64 0)]),
  E0 (.store 2 T7 T29)] (.seq (RG [E1 31 (FA 0 T4), E1 32 (LD T31), E1 33 (LT 2 T7), E1 34 (.lookup (.st [.str, .int .i64]) (.v (.int .i64 0)) T32 T33 true), MV 30 T34, E1 35 (.extract T30 0), E1 36 (.extract T30 1), MV 8 T35, MV 9 T36] (RG [MV 37 T9, MV 38 T37, E2 39 38 false (FA 0 T6), E2 40 38 false (LD T39), E2 41 38 false (.call 229 [T40]), E2 42 38 false (.un .not T41), E1 43 (.pick T38 (CB true) T42), MV 44 T43, E2 45 44 false (FA 1 T6), E2 46 44 false (LD T45), E2 47 44 false (.bin .lss .no T46 (CI 0)), E1 48 (.pick T44 (CB true) T47), MV 49 T48, E2 50 49 false (FA 1 T6), E2 51 49 false (LD T50), E2 52 49 false (.bin .gtr .no T51 (CI 16)), E1 53 (.pick T49 (CB true) T52), MV 54 T53, E2 55 54 false (LT 2 T7), E2 56 54 false (.call 25 [T55]), E1 57 (.pick T54 (CB true) T56), MV 58 T57, E2 59 58 false (FA 2 T6), E2 60 58 false (LD T59), E2 61 58 false (.len .sl T60), E2 62 58 false (.bin .gtr .no T61 (CI 32)), E1 63 (.pick T58 (CB true) T62)] (.cond T63 (RG [E1 64 (LT 2 T4),
  E0 (.store 2 T2 T64), MV 3 (CB false)] .ret) .skip))) (.region [E1 65 (FA 0 T4), E1 66 (LD T65), E1 67 (LT 2 T7), MV 68 T5, E0 (.mapUpdate (.st [.str, .int .i64]) T66 T67 T68)]))))) (.region [E1 69 (.bin .add .no T20 (CI 1)), MV 20 T69]))))))) (RG [E1 70 (LT 2 T4), E0 (.store 2 T2 T70), MV 3 (CB true)] .ret))))
def r197 : List ARet := [.cell 2 true 2, .tmp 3]
def c198 : ACode :=
 RG [E1 2 (.box 151 T0), E1 3 (.box 37 T1), MV 4 (CB false)] (.seq (RG [E1 9 (FA 0 T3), E1 10 (LD T9), E1 11 (.len .sl T10), MV 12 (CI 0)] (.block 0 (.loop (RG [E1 13 (.bin .lss .no T12 T11)] (.seq (.cond T13 .skip (.exit 0)) (.seq (.block 1 (RG [E1 14 (IA 3 T10 T12), E1 15 (LT 3 T14), E1 6 (.alloc 60 [.str [], .v (.int .i64 0), .v (.slice none 0 0)]), E0 (.store 3 T6 T15)] (RG [E1 16 (FA 2 T6), E1 17 (LD T16), E1 18 (.len .sl T17), MV 19 (CI 0)] (.block 2 (.loop (RG [E1 20 (.bin .lss .no T19 T18)] (.seq (.cond T20 .skip (.exit 2)) (.seq (.block 3 (RG [E1 21 (IA 5 T17 T19), E1 22 (LT 5 T21), E1 8 (.alloc 68 [.v (.int .i64 0), .v (.int .i64 0), .v (.slice none 0 0), .v (.slice none 0 0), .v (.slice none 0 0)]), E0 (.store 5 T8 T22)] (RG [E1 23 (LT 5 T8), E1 24 (FA 1 T6), E1 25 (LD T24), E1 26 (.call 143 [T23, T25]), E1 27 (.un .not T26), MV 28 T27, E2 29 28 false (LT 2 T2), E2 30 28 false (FA 4 T8), E2 31 28 false (LD T30), E2 32 28 false (.call 220 [T29, T31]),
  E2 33 28 false (.un .not T32), E1 34 (.pick T28 (CB true) T33)] (.cond T34 (RG [MV 4 (CB false)] .ret) .skip)))) (.region [E1 35 (.bin .add .no T19 (CI 1)), MV 19 T35]))))))))) (.region [E1 36 (.bin .add .no T12 (CI 1)), MV 12 T36]))))))) (RG [MV 4 (CB true)] .ret))
def r198 : List ARet := [.tmp 4]
def c203 : ACode :=
 RG [MV 2 (CI 0)] (RG [MV 3 (CI 0)] (.seq (RG [MV 8 T0, E1 9 (.len .sl T8), MV 10 (CI 0)] (.block 0 (.loop (RG [E1 11 (.bin .lss .no T10 T9)] (.seq (.cond T11 .skip (.exit 0)) (.seq (.block 1 (RG [E1 12 (IA 4 T8 T10), E1 13 (LT 4 T12), E1 5 (.alloc 24 [.v (.int .i64 0), .v (.int .i64 0), .str [], .v (.slice none 0 0)]), E0 (.store 4 T5 T13)] (RG [E1 15 (LT 4 T5), E1 16 (.call 248 [T15]), MV 14 T16, E1 17 (.extract T14 0), E1 18 (.extract T14 1), MV 6 T17, MV 7 T18] (.region [MV 19 T3, MV 20 T6, E1 21 (.bin .add .no T19 T20), MV 3 T21])))) (.region [E1 22 (.bin .add .no T10 (CI 1)), MV 10 T22]))))))) (RG [MV 23 T3, MV 2 T23] .ret)))
def r203 : List ARet := [.tmp 2]
def c204 : ACode :=
 RG [MV 4 (CB false)] (RG [MV 10 T0, E1 11 (.call 211 [T10]), MV 9 T11, E1 12 (.extract T9 0), E1 13 (.extract T9 1), MV 5 T12, MV 6 T13] (.seq (RG [MV 14 T5, E1 15 (.len .sl T14), MV 16 (CI 0)] (.block 0 (.loop (RG [E1 17 (.bin .lss .no T16 T15)] (.seq (.cond T17 .skip (.exit 0)) (.seq (.block 1 (RG [MV 18 T16, E1 19 (IA 1 T14 T16), E1 20 (LD T19), MV 7 T18, MV 8 T20] (RG [MV 21 T8, MV 22 T7, E1 23 (.bin .neq .no T21 T22)] (.cond T23 (RG [MV 4 (CB false)] .ret) .skip)))) (.region [E1 24 (.bin .add .no T16 (CI 1)), MV 16 T24]))))))) (RG [MV 25 T5, E1 26 (.len .sl T25), MV 27 T1, E1 28 (.bin .eql .no T26 T27), MV 4 T28] .ret)))
def r204 : List ARet := [.tmp 4]
def c211 : ACode :=
 RG [E1 2 (.move (.c (.v (.slice none 0 0)))), MV 3 (CI 0)] (.seq (RG [MV 5 T0, E1 6 (.call 181 [T5]), MV 4 T6] (RG [MV 7 T4, E1 8 (.bin .neq .no T7 (CI 0))] (.cond T8 (RG [MV 9 T4, E1 2 (.move (.c (.v (.slice none 0 0)))), MV 3 T9] .ret) .skip))) (RG [MV 10 T0, E1 11 (.call 249 [T10]), MV 2 T11, MV 3 (CI 0)] .ret))
def r211 : List ARet := [.tmp 2, .tmp 3]
def c215 : ACode :=
 RG [MV 3 (CB false)] (RG [E1 4 (LD T1), MV 5 T0, E1 6 (.call 43 [T4, T5]), E1 7 (.un .not T6), MV 3 T7] .ret)
def r215 : List ARet := [.tmp 3]
def c216 : ACode :=
 RG [E1 1 (.box 24 T0), MV 2 (CB false)] (RG [E1 3 (LT 4 T1), E1 4 (.call 101 [T3]), E1 5 (.un .not T4), MV 2 T5] .ret)
def r216 : List ARet := [.tmp 2]
def c217 : ACode :=
 RG [E1 1 (.box 24 T0), MV 2 (CB false)] (RG [E1 7 (LT 4 T1), E1 8 (.call 96 [T7]), MV 6 T8, E1 9 (.extract T6 0), E1 10 (.extract T6 1), E1 11 (.extract T6 2), E1 5 (.alloc 24 [.v (.int .i64 0), .v (.int .i64 0), .str [], .v (.slice none 0 0)]), MV 3 T9, MV 4 T10, E0 (.store 4 T5 T11)] (RG [MV 12 T3, E1 13 (.bin .eql .no T12 (CI 0)), MV 2 T13] .ret))
def r217 : List ARet := [.tmp 2]
def c218 : ACode :=
 RG [E1 2 (.move (.c (.v (.slice none 0 0))))] (RG [MV 3 (CI 0)] (.seq (RG [MV 9 T0, E1 10 (.len .sl T9), MV 11 (CI 0)] (.block 0 (.loop (RG [E1 12 (.bin .lss .no T11 T10)] (.seq (.cond T12 .skip (.exit 0)) (.seq (.block 1 (RG [E1 13 (IA 1 T9 T11), E1 14 (LD T13), MV 5 T14] (RG [MV 15 T3, MV 16 T5, E1 17 (.len .sl T16), E1 18 (.bin .add .no T15 T17), MV 3 T18] (RG [MV 19 T3, E1 20 (.bin .lss .no T19 (CI 0))] (.cond T20 (.region [E1 21 (.mkIface 9 (.c (.str [108, 101, 110, 32, 111, 117, 116, 32, 111, 102, 32, 114, 97, 110, 103, 101]))), E0 (.panic T21)]) .skip))))) (.region [E1 22 (.bin .add .no T11 (CI 1)), MV 11 T22]))))))) (RG [MV 23 T3, E1 24 (.call 253 [.c (.v (.slice none 0 0)), T23]), MV 6 T24] (.seq (RG [MV 25 T0, E1 26 (.len .sl T25), MV 27 (CI 0)] (.block 2 (.loop (RG [E1 28 (.bin .lss .no T27 T26)] (.seq (.cond T28 .skip (.exit 2)) (.seq (.block 3 (RG [E1 29 (IA 1 T25 T27), E1 30 (LD T29), MV 8 T30] (.region [MV 31 T6, MV 32 T8, E1 33 (.append 24 4 56 T31 T32),
  MV 6 T33]))) (.region [E1 34 (.bin .add .no T27 (CI 1)), MV 27 T34]))))))) (RG [MV 35 T6, MV 2 T35] .ret)))))
def r218 : List ARet := [.tmp 2]
def c220 : ACode :=
 RG [E1 2 (.box 151 T0), MV 4 (CB false)] (RG [MV 5 T1, E1 6 (.call 226 [T5]), E1 7 (.mkFunc 255 [] [T2]), E1 8 (.call 254 [T6, T7]), E1 9 (.un .not T8), MV 4 T9] .ret)
def r220 : List ARet := [.tmp 4]
def c223 : ACode :=
 RG [E1 1 (.box 24 T0), E1 2 (.move (.c (.v (.nilFunc))))] (RG [E1 3 (.mkFunc 256 [] [T1]), MV 2 T3] .ret)
def r223 : List ARet := [.tmp 2]
def c226 : ACode :=
 RG [E1 2 (.move (.c (.v (.slice none 0 0))))] (RG [E1 3 (.move (.c (.v (.slice none 0 0))))] (.seq (RG [MV 11 T0, E1 12 (.len .sl T11), MV 13 (CI 0)] (.block 0 (.loop (RG [E1 14 (.bin .lss .no T13 T12)] (.seq (.cond T14 .skip (.exit 0)) (.seq (.block 1 (RG [E1 15 (IA 4 T11 T13), E1 16 (LT 4 T15), E1 5 (.alloc 24 [.v (.int .i64 0), .v (.int .i64 0), .str [], .v (.slice none 0 0)]), E0 (.store 4 T5 T16)] (RG [E1 18 (LT 4 T5), E1 19 (.call 96 [T18]), MV 17 T19, E1 20 (.extract T17 0), E1 21 (.extract T17 1), E1 22 (.extract T17 2), E1 8 (.alloc 24 [.v (.int .i64 0), .v (.int .i64 0), .str [], .v (.slice none 0 0)]), MV 6 T20, MV 7 T21, E0 (.store 4 T8 T22)] (RG [MV 23 T6, E1 24 (.bin .eql .no T23 (CI 1))] (.cond T24 (RG [E1 26 (LT 4 T8), E1 27 (.call 234 [T26]), MV 25 T27, E1 28 (.extract T25 0), E1 29 (.extract T25 1), E1 9 (.alloc 26 [.str [], .v (.int .i64 0)]), E0 (.store 2 T9 T28), MV 10 T29] (.region [MV 30 T3, E1 31 (LT 2 T9),
  E1 32 (.buildSlice 26 2 (.agg [.str [], .v (.int .i64 0)]) 1 [(0, T31)]), E1 33 (.append 26 2 24 T30 T32), MV 3 T33])) .skip))))) (.region [E1 34 (.bin .add .no T13 (CI 1)), MV 13 T34]))))))) (RG [MV 35 T3, MV 2 T35] .ret)))
def r226 : List ARet := [.tmp 2]
def c229 : ACode :=
 RG [MV 2 (CB false)] (RG [MV 3 T0, E1 4 (.len .str T3), E1 5 (.bin .geq .no T4 (CI 1)), MV 6 T5, E2 7 6 true (.move T0), E2 8 6 true (.len .str T7), E2 9 6 true (.bin .leq .no T8 (CI 32)), E1 10 (.pick T6 T9 (CB false)), MV 11 T10, E2 12 11 true (.move T0), E2 13 11 true (.call 259 [T12, .c (.fn (.func 260) [] [])]), E2 14 11 true (.un .not T13), E1 15 (.pick T11 T14 (CB false)), MV 2 T15] .ret)
def r229 : List ARet := [.tmp 2]
def c248 : ACode :=
 RG [E1 1 (.box 24 T0), MV 2 (CI 0), MV 3 (CI 0)] (RG [MV 4 (CI 1), MV 5 (CI 0)] (.seq (RG [E1 10 (FA 3 T1), E1 11 (LD T10), E1 12 (.len .sl T11), MV 13 (CI 0)] (.block 0 (.loop (RG [E1 14 (.bin .lss .no T13 T12)] (.seq (.cond T14 .skip (.exit 0)) (.seq (.block 1 (RG [E1 15 (IA 4 T11 T13), E1 16 (LT 4 T15), E1 7 (.alloc 24 [.v (.int .i64 0), .v (.int .i64 0), .str [], .v (.slice none 0 0)]), E0 (.store 4 T7 T16)] (RG [E1 18 (LT 4 T7), E1 19 (.call 248 [T18]), MV 17 T19, E1 20 (.extract T17 0), E1 21 (.extract T17 1), MV 8 T20, MV 9 T21] (.region [MV 22 T4, MV 23 T8, E1 24 (.bin .add .no T22 T23), MV 25 T5, MV 26 T9, E1 27 (.max T25 T26), MV 4 T24, MV 5 T27])))) (.region [E1 28 (.bin .add .no T13 (CI 1)), MV 13 T28]))))))) (RG [MV 29 T4, MV 30 T5, E1 31 (.bin .add .no T30 (CI 1)), MV 2 T29, MV 3 T31] .ret)))
def r248 : List ARet := [.tmp 2, .tmp 3]
def ra249_0 : ACode :=
 .region [E1 7 (.alloc 24 [.v (.int .i64 0), .v (.int .i64 0), .str [], .v (.slice none 0 0)]), E0 (.store 4 T7 T17)]
def rb249_0 : ACode :=
 .block 3 (RG [E1 18 (FA 0 T7), E1 19 (LD T18), E1 20 (.bin .eql .no T19 (CI 1)), MV 21 T20, E2 22 21 true (LD T4), E2 23 21 true (FA 1 T7), E2 24 21 true (LD T23), E2 25 21 true (.lookup (.one (.int .i64)) (.v (.bool false)) T22 T24 false), E2 26 21 true (.un .not T25), E1 27 (.pick T21 T26 (CB false))] (.cond T27 (RG [E1 28 (LD T4), E1 29 (FA 1 T7), E1 30 (LD T29), E0 (.mapUpdate (.one (.int .i64)) T28 T30 (CB true))] (.region [E1 31 (LD T3), E1 32 (FA 1 T7), E1 33 (LD T32), E1 34 (.buildSlice 3 1 (.v (.int .i64 0)) 1 [(0, T33)]), E1 35 (.append 3 1 8 T31 T34), E0 (.store 1 T3 T35)])) .skip))
-- RF 249 0 38
noncomputable def c249 : ACode :=
 RG [E1 2 (.move (.c (.v (.slice none 0 0))))] (RG [E1 3 (.alloc 61 [.v (.slice none 0 0)])] (RG [E1 8 .mkMap, E1 4 (.alloc 288 [.v (.map none)]), E0 (.store 1 T4 T8)] (.seq (RG [MV 9 T0, E1 10 (.len .sl T9), MV 11 (CI 0)] (.block 0 (.loop (RG [E1 12 (.bin .lss .no T11 T10)] (.seq (.cond T12 .skip (.exit 0)) (.seq (.block 1 (RG [E1 13 (IA 4 T9 T11), E1 14 (LT 4 T13), E1 6 (.alloc 24 [.v (.int .i64 0), .v (.int .i64 0), .str [], .v (.slice none 0 0)]), E0 (.store 4 T6 T14)] (RG [E1 15 (LT 4 T6), E1 16 (.call 223 [T15])] (.block 2 (.rangeFunc 38 T16 [17] (rfAt Tryz.prog Tryz.f249 0).1 (rfAt Tryz.prog Tryz.f249 0).2))))) (.region [E1 36 (.bin .add .no T11 (CI 1)), MV 11 T36]))))))) (RG [E1 37 (LD T3), MV 2 T37] .ret))))
def r249 : List ARet := [.tmp 2]
def c253 : ACode :=
 RG [E1 4 (.move (.c (.v (.slice none 0 0))))] (.seq (RG [MV 5 T1, E1 6 (.bin .lss .no T5 (CI 0))] (.cond T6 (.region [E1 7 (.mkIface 9 (.c (.str [99, 97, 110, 110, 111, 116, 32, 98, 101, 32, 110, 101, 103, 97, 116, 105, 118, 101]))), E0 (.panic T7)]) .skip)) (.seq (RG [MV 8 T1, MV 9 T0, E1 10 (.cap T9), MV 11 T0, E1 12 (.len .sl T11), E1 13 (.bin .sub .no T10 T12), E1 14 (.bin .sub .no T8 T13), MV 1 T14] (RG [MV 15 T1, E1 16 (.bin .gtr .no T15 (CI 0))] (.cond T16 (.region [MV 17 T0, MV 18 T0, E1 19 (.cap T18), E1 20 (.slice 4 T17 none (some T19) none), MV 21 T1, E1 22 (.appendZ 24 4 56 (.agg [.v (.int .i64 0), .v (.int .i64 0), .str [], .v (.slice none 0 0)]) T20 T21), MV 23 T0, E1 24 (.len .sl T23), E1 25 (.slice 4 T22 none (some T24) none), MV 0 T25]) .skip))) (RG [MV 26 T0, MV 4 T26] .ret)))
def r253 : List ARet := [.tmp 4]
def c254 : ACode :=
 RG [MV 4 (CB false)] (RG [MV 5 T0, MV 6 T1, E1 7 (.call 291 [T5, T6]), E1 8 (.bin .geq .no T7 (CI 0)), MV 4 T8] .ret)
def r254 : List ARet := [.tmp 4]
def c255 : ACode :=
 RG [E1 2 (.box 26 T0), MV 3 (CB false)] (RG [E1 7 (LT 2 T1), E1 8 (LT 2 T2), E1 9 (.call 142 [T7, T8]), MV 6 T9, E1 10 (.extract T6 0), E1 11 (.extract T6 1), MV 4 T10, MV 5 T11] (RG [MV 12 T5, E1 13 (.un .not T12), MV 3 T13] .ret))
def r255 : List ARet := [.tmp 3]
def c256 : ACode :=
 .region [E1 3 (LT 4 T1), MV 4 T0, E1 5 (.call 257 [T3, T4])]
def r256 : List ARet := []
def c257 : ACode :=
 RG [E1 2 (.box 24 T0), MV 4 (CB false)] (.seq (RG [MV 7 T1, E1 8 (LT 4 T2), E1 9 (.callV T7 [T8]), E1 10 (.un .not T9)] (.cond T10 (RG [MV 4 (CB false)] .ret) .skip)) (.seq (RG [E1 11 (FA 3 T2), E1 12 (LD T11), E1 13 (.len .sl T12), MV 14 (CI 0)] (.block 0 (.loop (RG [E1 15 (.bin .lss .no T14 T13)] (.seq (.cond T15 .skip (.exit 0)) (.seq (.block 1 (RG [E1 16 (IA 4 T12 T14), E1 17 (LT 4 T16), E1 6 (.alloc 24 [.v (.int .i64 0), .v (.int .i64 0), .str [], .v (.slice none 0 0)]), E0 (.store 4 T6 T17)] (RG [E1 18 (LT 4 T6), MV 19 T1, E1 20 (.call 257 [T18, T19]), E1 21 (.un .not T20)] (.cond T21 (RG [MV 4 (CB false)] .ret) .skip)))) (.region [E1 22 (.bin .add .no T14 (CI 1)), MV 14 T22]))))))) (RG [MV 4 (CB true)] .ret)))
def r257 : List ARet := [.tmp 4]
def c259 : ACode :=
 RG [MV 4 (CB false)] (RG [MV 5 T0, MV 6 T1, E1 7 (.call 301 [T5, T6]), E1 8 (.bin .geq .no T7 (CI 0)), MV 4 T8] .ret)
def r259 : List ARet := [.tmp 4]
def c260 : ACode :=
 RG [MV 2 (CB false)] (RG [MV 3 T0, E1 4 (.bin .lss .no T3 (.c (.v (.int .i32 32)))), MV 5 T4, E2 6 5 false (.move T0), E2 7 5 false (.bin .gtr .no T6 (.c (.v (.int .i32 126)))), E1 8 (.pick T5 (CB true) T7), MV 2 T8] .ret)
def r260 : List ARet := [.tmp 2]
def c291 : ACode :=
 RG [MV 4 (CI 0)] (.seq (RG [MV 6 T0, E1 7 (.len .sl T6), MV 8 (CI 0)] (.block 0 (.loop (RG [E1 9 (.bin .lss .no T8 T7)] (.seq (.cond T9 .skip (.exit 0)) (.seq (.block 1 (RG [MV 10 T8, MV 5 T10] (RG [MV 11 T1, MV 12 T0, MV 13 T5, E1 14 (IA 2 T12 T13), E1 15 (LT 2 T14), E1 16 (.callV T11 [T15])] (.cond T16 (RG [MV 17 T5, MV 4 T17] .ret) .skip)))) (.region [E1 18 (.bin .add .no T8 (CI 1)), MV 8 T18]))))))) (RG [E1 4 (.move (CI (-1)))] .ret))
def r291 : List ARet := [.tmp 4]
theorem kra249_0 : comp Tryz.prog (38, []) (rfAt Tryz.prog Tryz.f249 0).1 = some ra249_0 := by kernel_rfl
theorem krb249_0 : comp Tryz.prog (38, []) (rfAt Tryz.prog Tryz.f249 0).2 = some rb249_0 := by kernel_rfl
theorem k27 : Coded Tryz.prog 27 c27 r27 69 := ⟨_, Tryz.func27, by kernel_rfl, by kernel_rfl, by kernel_rfl⟩
theorem k32 : Coded Tryz.prog 32 c32 r32 11 := ⟨_, Tryz.func32, by kernel_rfl, by kernel_rfl, by kernel_rfl⟩
theorem k43 : Coded Tryz.prog 43 c43 r43 9 := ⟨_, Tryz.func43, by kernel_rfl, by kernel_rfl, by kernel_rfl⟩
theorem k61 : Coded Tryz.prog 61 c61 r61 9 := ⟨_, Tryz.func61, by kernel_rfl, by kernel_rfl, by kernel_rfl⟩
theorem k116 : Coded Tryz.prog 116 c116 r116 23 := ⟨_, Tryz.func116, by kernel_rfl, by kernel_rfl, by kernel_rfl⟩
theorem k134 : Coded Tryz.prog 134 c134 r134 19 := ⟨_, Tryz.func134, by kernel_rfl, by kernel_rfl, by kernel_rfl⟩
theorem k139 : Coded Tryz.prog 139 c139 r139 87 := ⟨_, Tryz.func139, by kernel_rfl, by kernel_rfl, by kernel_rfl⟩
theorem k140 : Coded Tryz.prog 140 c140 r140 11 := ⟨_, Tryz.func140, by kernel_rfl, by kernel_rfl, by kernel_rfl⟩
theorem k142 : Coded Tryz.prog 142 c142 r142 21 := ⟨_, Tryz.func142, by kernel_rfl, by kernel_rfl, by kernel_rfl⟩
theorem k143 : Coded Tryz.prog 143 c143 r143 15 := ⟨_, Tryz.func143, by kernel_rfl, by kernel_rfl, by kernel_rfl⟩
theorem k150 : Coded Tryz.prog 150 c150 r150 19 := ⟨_, Tryz.func150, by kernel_rfl, by kernel_rfl, by kernel_rfl⟩
theorem k197 : Coded Tryz.prog 197 c197 r197 71 := ⟨_, Tryz.func197, by kernel_rfl, by kernel_rfl, by kernel_rfl⟩
theorem k198 : Coded Tryz.prog 198 c198 r198 37 := ⟨_, Tryz.func198, by kernel_rfl, by kernel_rfl, by kernel_rfl⟩
theorem k203 : Coded Tryz.prog 203 c203 r203 24 := ⟨_, Tryz.func203, by kernel_rfl, by kernel_rfl, by kernel_rfl⟩
theorem k204 : Coded Tryz.prog 204 c204 r204 29 := ⟨_, Tryz.func204, by kernel_rfl, by kernel_rfl, by kernel_rfl⟩
theorem k211 : Coded Tryz.prog 211 c211 r211 12 := ⟨_, Tryz.func211, by kernel_rfl, by kernel_rfl, by kernel_rfl⟩
theorem k215 : Coded Tryz.prog 215 c215 r215 8 := ⟨_, Tryz.func215, by kernel_rfl, by kernel_rfl, by kernel_rfl⟩
theorem k216 : Coded Tryz.prog 216 c216 r216 6 := ⟨_, Tryz.func216, by kernel_rfl, by kernel_rfl, by kernel_rfl⟩
theorem k217 : Coded Tryz.prog 217 c217 r217 14 := ⟨_, Tryz.func217, by kernel_rfl, by kernel_rfl, by kernel_rfl⟩
theorem k218 : Coded Tryz.prog 218 c218 r218 36 := ⟨_, Tryz.func218, by kernel_rfl, by kernel_rfl, by kernel_rfl⟩
theorem k220 : Coded Tryz.prog 220 c220 r220 10 := ⟨_, Tryz.func220, by kernel_rfl, by kernel_rfl, by kernel_rfl⟩
theorem k223 : Coded Tryz.prog 223 c223 r223 4 := ⟨_, Tryz.func223, by kernel_rfl, by kernel_rfl, by kernel_rfl⟩
theorem k226 : Coded Tryz.prog 226 c226 r226 36 := ⟨_, Tryz.func226, by kernel_rfl, by kernel_rfl, by kernel_rfl⟩
theorem k229 : Coded Tryz.prog 229 c229 r229 16 := ⟨_, Tryz.func229, by kernel_rfl, by kernel_rfl, by kernel_rfl⟩
theorem k248 : Coded Tryz.prog 248 c248 r248 32 := ⟨_, Tryz.func248, by kernel_rfl, by kernel_rfl, by kernel_rfl⟩
theorem k249 : Coded Tryz.prog 249 c249 r249 38 := ⟨_, Tryz.func249, by kernel_rfl, by kernel_rfl, by kernel_rfl⟩
theorem k253 : Coded Tryz.prog 253 c253 r253 27 := ⟨_, Tryz.func253, by kernel_rfl, by kernel_rfl, by kernel_rfl⟩
theorem k254 : Coded Tryz.prog 254 c254 r254 9 := ⟨_, Tryz.func254, by kernel_rfl, by kernel_rfl, by kernel_rfl⟩
theorem k255 : Coded Tryz.prog 255 c255 r255 14 := ⟨_, Tryz.func255, by kernel_rfl, by kernel_rfl, by kernel_rfl⟩
theorem k256 : Coded Tryz.prog 256 c256 r256 6 := ⟨_, Tryz.func256, by kernel_rfl, by kernel_rfl, by kernel_rfl⟩
theorem k257 : Coded Tryz.prog 257 c257 r257 23 := ⟨_, Tryz.func257, by kernel_rfl, by kernel_rfl, by kernel_rfl⟩
theorem k259 : Coded Tryz.prog 259 c259 r259 9 := ⟨_, Tryz.func259, by kernel_rfl, by kernel_rfl, by kernel_rfl⟩
theorem k260 : Coded Tryz.prog 260 c260 r260 9 := ⟨_, Tryz.func260, by kernel_rfl, by kernel_rfl, by kernel_rfl⟩
theorem k291 : Coded Tryz.prog 291 c291 r291 19 := ⟨_, Tryz.func291, by kernel_rfl, by kernel_rfl, by kernel_rfl⟩
end Go.Rip
