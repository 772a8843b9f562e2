/- The codes of functions, as the machine reads them. -/
import Derived.Test.YtndcajdameofjaaGreatDoorProg
import Derived.KernelRfl
import Derived.Test.YtndcajdameofjaaGreatDoorRipAI
namespace Go.Rip
open Go Go.Proofs
set_option maxRecDepth 100000
def c17 : ACode :=
 RG [E1 2 (.box 3 T0), MV 4 (CB false)] (.seq (RG [MV 9 T1, E1 10 (.len .sl T9), MV 11 (CI 0)] (.block 0 (.loop (RG [E1 12 (.bin .lss .no T11 T10)] (.seq (.cond T12 .skip (.exit 0)) (.seq (.block 1 (RG [E1 13 (IA 1 T9 T11), E1 14 (LD T13), MV 6 T14] (RG [MV 15 T6, E1 16 (.len .sl T15), MV 17 (CI 0)] (.block 2 (.loop (RG [E1 18 (.bin .lss .no T17 T16)] (.seq (.cond T18 .skip (.exit 2)) (.seq (.block 3 (RG [E1 19 (IA 4 T15 T17), E1 20 (LT 4 T19), E1 8 (.alloc 24 [.v (.int .i64 0), .v (.int .i64 0), .str [], .v (.slice none 0 0)]), E0 (.store 4 T8 T20)] (RG [E1 21 (LT 4 T8), E1 22 (.call 94 [T21, T2, CI 1]), E1 23 (.un .not T22)] (.cond T23 (RG [MV 4 (CB false)] .ret) .skip)))) (.region [E1 24 (.bin .add .no T17 (CI 1)), MV 17 T24]))))))))) (.region [E1 25 (.bin .add .no T11 (CI 1)), MV 11 T25]))))))) (RG [MV 4 (CB true)] .ret))
def r17 : List ARet := [.tmp 4]
def c24 : ACode :=
 RG [E1 2 (.box 24 T0), E1 3 (.box 24 T1), MV 4 (CB false)] (.seq (RG [E1 7 (FA 0 T2), E1 8 (LD T7), E1 9 (FA 0 T3), E1 10 (LD T9), E1 11 (.bin .neq .no T8 T10), MV 12 T11, E2 13 12 false (FA 1 T2), E2 14 12 false (LD T13), E2 15 12 false (FA 1 T3), E2 16 12 false (LD T15), E2 17 12 false (.bin .neq .no T14 T16), E1 18 (.pick T12 (CB true) T17), MV 19 T18, E2 20 19 false (FA 2 T2), E2 21 19 false (LD T20), E2 22 19 false (FA 2 T3), E2 23 19 false (LD T22), E2 24 19 false (.bin .neq .no T21 T23), E1 25 (.pick T19 (CB true) T24), MV 26 T25, E2 27 26 false (FA 3 T2), E2 28 26 false (LD T27), E2 29 26 false (.len .sl T28), E2 30 26 false (FA 3 T3), E2 31 26 false (LD T30), E2 32 26 false (.len .sl T31), E2 33 26 false (.bin .neq .no T29 T32), E1 34 (.pick T26 (CB true) T33)] (.cond T34 (RG [MV 4 (CB false)] .ret) .skip)) (.seq (RG [MV 5 (CI 0)] (.block 0 (.loop (.seq (RG [MV 35 T5, E1 36 (FA 3 T2), E1 37 (LD T36), E1 38 (.len .sl T37),
  E1 39 (.bin .lss .no T35 T38)] (.cond T39 .skip (.exit 0))) (.seq (.block 1 (RG [E1 42 (FA 3 T2), E1 43 (LD T42), MV 44 T5, E1 45 (IA 4 T43 T44), E1 46 (LT 4 T45), E1 47 (FA 3 T3), E1 48 (LD T47), MV 49 T5, E1 50 (IA 4 T48 T49), E1 51 (LT 4 T50), E1 52 (.call 24 [T46, T51]), MV 6 T52] (RG [MV 53 T6, E1 54 (.un .not T53)] (.cond T54 (RG [MV 4 (CB false)] .ret) .skip)))) (.region [MV 40 T5, E1 41 (.bin .add .no T40 (CI 1)), MV 5 T41])))))) (RG [MV 4 (CB true)] .ret)))
def r24 : List ARet := [.tmp 4]
def c25 : ACode :=
 RG [E1 1 (.box 26 T0), MV 2 (CB false)] (RG [E1 7 (FA 0 T1), E1 8 (LD T7), E1 6 (.call 103 []), E0 (.chk (some 8) (LD T7)), E1 9 (.lookup (.one (.str)) (.v (.int .i64 0)) T6 T8 true), MV 5 T9, E1 10 (.extract T5 0), E1 11 (.extract T5 1), MV 3 T10, MV 4 T11] (RG [MV 12 T4, MV 13 T12, E2 14 13 true (.move T3), E2 15 13 true (FA 1 T1), E2 16 13 true (LD T15), E2 17 13 true (.bin .eql .no T14 T16), E1 18 (.pick T13 T17 (CB false)), MV 19 T18, E2 21 19 false (LT 2 T1), E2 20 19 false (.call 104 []), (none, some (19, false), .chk (some 21) (LT 2 T1)), E2 22 19 false (.lookup (.st [.str, .int .i64]) (.v (.bool false)) T20 T21 false), E1 23 (.pick T19 (CB true) T22), MV 2 T23] .ret))
def r25 : List ARet := [.tmp 2]
def c94 : ACode :=
 RG [E1 3 (.box 24 T0), MV 6 (CB false)] (RG [MV 9 T1, E1 10 (.nilCheck T9), E1 11 (LD T10), E1 12 (.bin .sub .no T11 (CI 1)), E1 13 (.nilCheck T9), E0 (.store 1 T13 T12)] (.seq (RG [MV 14 T1, E1 15 (.nilCheck T14), E1 16 (LD T15), E1 17 (.bin .lss .no T16 (CI 0)), MV 18 T17, E2 19 18 false (.move T2), E2 20 18 false (.bin .gtr .no T19 (CI 650)), E1 21 (.pick T18 (CB true) T20), MV 22 T21, E2 23 22 false (FA 2 T3), E2 24 22 false (LD T23), E2 25 22 false (.len .str T24), E2 26 22 false (.bin .gtr .no T25 (CI 500)), E1 27 (.pick T22 (CB true) T26)] (.cond T27 (RG [MV 6 (CB false)] .ret) .skip)) (.seq (RG [E1 28 (FA 3 T3), E1 29 (LD T28), E1 30 (.len .sl T29), MV 31 (CI 0)] (.block 0 (.loop (RG [E1 32 (.bin .lss .no T31 T30)] (.seq (.cond T32 .skip (.exit 0)) (.seq (.block 1 (RG [E1 33 (IA 4 T29 T31), E1 34 (LT 4 T33), E1 8 (.alloc 24 [.v (.int .i64 0), .v (.int .i64 0), .str [], .v (.slice none 0 0)]), E0 (.store 4 T8 T34)] (RG [E1 35 (LT 4 T8), MV 36 T1, MV 37 T2,
  E1 38 (.bin .add .no T37 (CI 1)), E1 39 (.call 94 [T35, T36, T38]), E1 40 (.un .not T39)] (.cond T40 (RG [MV 6 (CB false)] .ret) .skip)))) (.region [E1 41 (.bin .add .no T31 (CI 1)), MV 31 T41]))))))) (RG [MV 6 (CB true)] .ret))))
def r94 : List ARet := [.tmp 6]
def c95 : ACode :=
 RG [E1 1 (.box 24 T0), MV 2 (CI 0)] (RG [E1 3 (LT 4 T1), E1 4 (.buildSlice 24 4 (.agg [.v (.int .i64 0), .v (.int .i64 0), .str [], .v (.slice none 0 0)]) 1 [(0, T3)]), E1 5 (.call 181 [T4]), MV 2 T5] .ret)
def r95 : List ARet := [.tmp 2]
def c96 : ACode :=
 RG [E1 1 (.box 24 T0), MV 2 (CI 0), MV 3 (CI 0), E1 4 (.alloc 24 [.v (.int .i64 0), .v (.int .i64 0), .str [], .v (.slice none 0 0)])] (RG [MV 5 (CI 0)] (.seq (RG [E1 8 (LT 4 T1), E1 9 (.call 182 [T8, .c (.str [64]), CI 2])] (.cond T9 (RG [E1 10 (FA 3 T1), E1 11 (LD T10), E1 12 (IA 4 T11 (CI 1)), E1 13 (LT 4 T12), E1 6 (.alloc 24 [.v (.int .i64 0), .v (.int .i64 0), .str [], .v (.slice none 0 0)]), E0 (.store 4 T6 T13)] (.seq (RG [E1 14 (FA 0 T6), E1 15 (LD T14), E1 16 (.bin .neq .no T15 (CI 2)), MV 17 T16, E2 18 17 false (FA 1 T6), E2 19 17 false (LD T18), E2 20 17 false (.bin .lss .no T19 (CI 0)), E1 21 (.pick T17 (CB true) T20), MV 22 T21, E2 23 22 false (FA 1 T6), E2 24 22 false (LD T23), E2 25 22 false (.bin .gtr .no T24 (CI 15)), E1 26 (.pick T22 (CB true) T25)] (.cond T26 (RG [E1 27 (.build [.v (.int .i64 0), .v (.int .i64 0), .str [], .v (.slice none 0 0)] []), MV 2 (CI 0), MV 3 (CI 0), E0 (.store 4 T4 T27)] .ret) .skip)) (.region [E1 28 (FA 3 T1), E1 29 (LD T28),
  E1 30 (IA 4 T29 (CI 0)), E1 31 (LT 4 T30), E1 32 (FA 1 T6), E1 33 (LD T32), E0 (.store 4 T1 T31), E0 (.chk (some 33) (LD T32)), MV 5 T33]))) .skip)) (RG [E1 34 (LT 4 T1), E1 35 (.call 183 [T34]), MV 7 T35] (.seq (RG [MV 36 T7, E1 37 (.bin .eql .no T36 (CI 0))] (.cond T37 (RG [E1 38 (.build [.v (.int .i64 0), .v (.int .i64 0), .str [], .v (.slice none 0 0)] []), MV 2 (CI 0), MV 3 (CI 0), E0 (.store 4 T4 T38)] .ret) .skip)) (RG [MV 39 T7, MV 40 T5, E1 41 (LT 4 T1), MV 2 T39, MV 3 T40, E0 (.store 4 T4 T41)] .ret)))))
def r96 : List ARet := [.tmp 2, .tmp 3, .cell 4 true 4]
def c99 : ACode :=
 RG [E1 1 (.box 24 T0), MV 2 (CB false)] (.seq (RG [E1 4 (FA 0 T1), E1 5 (LD T4)] (.block 0 (.seq (RG [E1 7 (.bin .eql .no T5 (CI 2)), MV 6 T7] (.cond T6 .skip (.region [E1 8 (.bin .eql .no T5 (CI 1)), MV 6 T8]))) (.cond T6 (RG [MV 2 (CB true)] .ret) (RG [E1 10 (.bin .eql .no T5 (CI 5)), MV 9 T10] (.cond T9 (RG [E1 11 (.sliceArr 6 1 (.g 0) none (some (CI 5))), E1 12 (FA 2 T1), E1 13 (LD T12), E1 14 (.call 187 [T11, T13]), MV 3 T14] (RG [MV 15 T3, E1 16 (.bin .geq .no T15 (CI 0)), MV 17 T16, E2 18 17 true (FA 3 T1), E2 19 17 true (LD T18), E2 20 17 true (.len .sl T19), E2 21 17 true (.bin .eql .no T20 (CI 2)), E2 22 17 true (.move T21), E2 23 22 false (FA 3 T1), E2 24 22 false (LD T23), E2 25 22 false (.len .sl T24), E2 26 22 false (.bin .eql .no T25 (CI 1)), E2 27 22 false (.move T26), E2 28 27 true (FA 2 T1), E2 29 27 true (LD T28), E2 30 27 true (.bin .eql .no T29 (.c (.str [45]))), E2 31 22 false (.pick T27 T30 (CB false)), E2 32 17 true (.pick T22 (CB true) T31),
  E1 33 (.pick T17 T32 (CB false)), MV 34 T33, E2 35 34 true (FA 3 T1), E2 36 34 true (LD T35), E2 37 34 true (.call 188 [T36, .c (.fn (.func 189) [] [])]), E2 38 34 true (.un .not T37), E1 39 (.pick T34 T38 (CB false)), MV 2 T39] .ret)) .skip)))))) (RG [MV 2 (CB false)] .ret))
def r99 : List ARet := [.tmp 2]
def c101 : ACode :=
 RG [E1 1 (.box 24 T0), MV 2 (CB false)] (.seq (RG [E1 5 (LT 4 T1), E1 6 (.call 190 [T5, .c (.str [116, 114, 117, 101])])] (.cond T6 (RG [MV 2 (CB true)] .ret) .skip)) (.seq (RG [E1 7 (FA 0 T1), E1 8 (LD T7), E1 9 (.bin .neq .no T8 (CI 5))] (.cond T9 (RG [MV 2 (CB false)] .ret) .skip)) (.seq (RG [E1 12 (FA 2 T1), E1 13 (LD T12), E1 11 (.call 191 []), E0 (.chk (some 13) (LD T12)), E1 14 (.lookup (.one (.str)) (.v (.int .i64 0)) T11 T13 true), MV 10 T14, E1 15 (.extract T10 0), E1 16 (.extract T10 1), MV 3 T15, MV 4 T16] (RG [MV 17 T4] (.cond T17 (RG [E1 18 (FA 3 T1), E1 19 (LD T18), E1 20 (.len .sl T19), MV 21 T3, E1 22 (.bin .eql .no T20 T21), MV 2 T22] .ret) .skip))) (RG [E1 24 (FA 2 T1), E1 25 (LD T24), E1 23 (.call 192 []), E0 (.chk (some 25) (LD T24)), E1 26 (.lookup (.one (.str)) (.v (.bool false)) T23 T25 false), MV 27 T26, E2 28 27 true (FA 3 T1), E2 29 27 true (LD T28), E2 30 27 true (.len .sl T29), E2 31 27 true (.bin .eql .no T30 (CI 2)), E1 32 (.pick T27 T31 (CB false)),
  MV 33 T32, E2 34 33 true (FA 3 T1), E2 35 33 true (LD T34), E2 36 33 true (IA 4 T35 (CI 0)), E2 37 33 true (LT 4 T36), E2 38 33 true (.call 99 [T37]), E1 39 (.pick T33 T38 (CB false)), MV 40 T39, E2 41 40 true (FA 3 T1), E2 42 40 true (LD T41), E2 43 40 true (IA 4 T42 (CI 1)), E2 44 40 true (LT 4 T43), E2 45 40 true (.call 99 [T44]), E1 46 (.pick T40 T45 (CB false)), MV 2 T46] .ret))))
def r101 : List ARet := [.tmp 2]
def c104 : ACode :=
 RG [E1 0 (.move (.c (.v (.map none))))] (.seq (.drawn [(E1 1 .mkMap, []), (E1 2 (.build [.str [], .v (.int .i64 0)] [(0, 1, .c (.str [116, 114, 117, 101]))]), []), (E0 (.mapUpdate (.st [.str, .int .i64]) T1 T2 (CB true)), [0, 1]), (E1 3 (.build [.str [], .v (.int .i64 0)] [(0, 1, .c (.str [61])), (1, 1, CI 2)]), []), (E0 (.mapUpdate (.st [.str, .int .i64]) T1 T3 (CB true)), [0, 3]), (E1 4 (.build [.str [], .v (.int .i64 0)] [(0, 1, .c (.str [58, 61])), (1, 1, CI 2)]), []), (E0 (.mapUpdate (.st [.str, .int .i64]) T1 T4 (CB true)), [0, 5]), (E1 5 (.build [.str [], .v (.int .i64 0)] [(0, 1, .c (.str [64])), (1, 1, CI 2)]), []), (E0 (.mapUpdate (.st [.str, .int .i64]) T1 T5 (CB true)), [0, 7]), (E1 6 (.build [.str [], .v (.int .i64 0)] [(0, 1, .c (.str [58, 45])), (1, 1, CI 2)]), []), (E0 (.mapUpdate (.st [.str, .int .i64]) T1 T6 (CB true)), [0, 9]), (E1 7 (.build [.str [], .v (.int .i64 0)] [(0, 1, .c (.str [58, 45])), (1, 1, CI 1)]), []), (E0 (.mapUpdate
  (.st [.str, .int .i64]) T1 T7 (CB true)), [0, 11]), (E1 8 (.build [.str [], .v (.int .i64 0)] [(0, 1, .c (.str [44])), (1, 1, CI 2)]), []), (E0 (.mapUpdate (.st [.str, .int .i64]) T1 T8 (CB true)), [0, 13]), (E1 9 (.build [.str [], .v (.int .i64 0)] [(0, 1, .c (.str [124])), (1, 1, CI 2)]), []), (E0 (.mapUpdate (.st [.str, .int .i64]) T1 T9 (CB true)), [0, 15]), (E1 10 (.build [.str [], .v (.int .i64 0)] [(0, 1, .c (.str [111, 116, 104, 101, 114, 119, 105, 115, 101]))]), []), (E0 (.mapUpdate (.st [.str, .int .i64]) T1 T10 (CB true)), [0, 17]), (E1 11 (.build [.str [], .v (.int .i64 0)] [(0, 1, .c (.str [97, 108, 116, 101, 114, 110, 97, 116, 105, 118, 101, 108, 121]))]), []), (E0 (.mapUpdate (.st [.str, .int .i64]) T1 T11 (CB true)), [0, 19]), (MV 12 T1, [0, 1, 2, 3, 4, 5, 6, 7, 8, 9, 10, 11, 12, 13, 14, 15, 16, 17, 18, 19, 20]), (MV 0 T12, [21, 0, 1, 2, 3, 4, 5, 6, 7, 8, 9, 10, 11, 12, 13, 14, 15, 16, 17, 18, 19, 20, 21])]) .ret)
def r104 : List ARet := [.tmp 0]
def c110 : ACode :=
 RG [MV 4 (CI 0)] (.seq (RG [MV 6 T0, E1 7 (.len .sl T6), MV 8 (CI 0)] (.block 0 (.loop (RG [E1 9 (.bin .lss .no T8 T7)] (.seq (.cond T9 .skip (.exit 0)) (.seq (.block 1 (RG [MV 10 T8, MV 5 T10] (RG [MV 11 T1, MV 12 T0, MV 13 T5, E1 14 (IA 4 T12 T13), E1 15 (LT 4 T14), E1 16 (.callV T11 [T15])] (.cond T16 (RG [MV 17 T5, MV 4 T17] .ret) .skip)))) (.region [E1 18 (.bin .add .no T8 (CI 1)), MV 8 T18]))))))) (RG [E1 4 (.move (CI (-1)))] .ret))
def r110 : List ARet := [.tmp 4]
def c181 : ACode :=
 RG [MV 2 (CI 0)] (RG [E1 8 (.call 243 []), E1 4 (.alloc 256 [.v (.nilFunc), .v (.nilFunc), .v (.nilFunc), .v (.nilFunc), .v (.nilFunc), .v (.nilFunc), .v (.nilFunc)]), MV 3 (CI 4000), E0 (.store 7 T4 T8)] (.seq (RG [MV 9 T0, E1 10 (.len .sl T9), MV 11 (CI 0)] (.block 0 (.loop (RG [E1 12 (.bin .lss .no T11 T10)] (.seq (.cond T12 .skip (.exit 0)) (.seq (.block 1 (RG [E1 13 (IA 4 T9 T11), E1 14 (LT 4 T13), E1 6 (.alloc 24 [.v (.int .i64 0), .v (.int .i64 0), .str [], .v (.slice none 0 0)]), E0 (.store 4 T6 T14)] (RG [E1 15 (LT 4 T6), MV 16 T3, E1 17 (LT 7 T4), E1 18 (.call 244 [T15, T16, CI 600, T17]), MV 7 T18] (.seq (RG [MV 19 T7, MV 20 T3, E1 21 (.bin .gtr .no T19 T20)] (.cond T21 (RG [MV 2 (CI 3)] .ret) .skip)) (.region [MV 22 T3, MV 23 T7, E1 24 (.bin .sub .no T22 T23), MV 3 T24]))))) (.region [E1 25 (.bin .add .no T11 (CI 1)), MV 11 T25]))))))) (RG [MV 2 (CI 0)] .ret)))
def r181 : List ARet := [.tmp 2]
def c182 : ACode :=
 RG [E1 3 (.box 24 T0), MV 6 (CB false)] (RG [E1 7 (FA 0 T3), E1 8 (LD T7), E1 9 (.bin .eql .no T8 (CI 5)), MV 10 T9, E2 11 10 true (FA 2 T3), E2 12 10 true (LD T11), E2 13 10 true (.move T1), E2 14 10 true (.bin .eql .no T12 T13), E1 15 (.pick T10 T14 (CB false)), MV 16 T15, E2 17 16 true (FA 3 T3), E2 18 16 true (LD T17), E2 19 16 true (.len .sl T18), E2 20 16 true (.move T2), E2 21 16 true (.bin .eql .no T19 T20), E1 22 (.pick T16 T21 (CB false)), MV 6 T22] .ret)
def r182 : List ARet := [.tmp 6]
def c183 : ACode :=
 RG [E1 1 (.box 24 T0), MV 2 (CI 0)] (RG [E1 8 (LT 4 T1), E1 9 (.call 234 [T8]), MV 7 T9, E1 10 (.extract T7 0), E1 11 (.extract T7 1), E1 3 (.alloc 26 [.str [], .v (.int .i64 0)]), E0 (.store 2 T3 T10), MV 4 T11] (.seq (RG [E1 14 (FA 2 T1), E1 15 (LD T14), E1 13 (.call 103 []), E0 (.chk (some 15) (LD T14)), E1 16 (.lookup (.one (.str)) (.v (.int .i64 0)) T13 T15 true), MV 12 T16, E1 17 (.extract T12 0), E1 18 (.extract T12 1), MV 5 T17, MV 6 T18] (.block 0 (RG [MV 20 T4, E1 21 (.un .not T20), MV 19 T21] (.cond T19 (RG [MV 2 (CI 0)] .ret) (RG [E1 23 (LT 4 T1), E1 24 (.call 190 [T23, .c (.str [116, 114, 117, 101])]), MV 22 T24] (.cond T22 (RG [MV 2 (CI 2)] .ret) (RG [E1 26 (LT 4 T1), E1 27 (.call 182 [T26, .c (.str [61]), CI 2]), MV 25 T27] (.cond T25 (RG [MV 2 (CI 3)] .ret) (RG [E1 29 (LT 4 T1), E1 30 (.call 182 [T29, .c (.str [58, 61]), CI 2]), MV 28 T30] (.cond T28 (RG [MV 2 (CI 4)] .ret) (RG [MV 32 T6, MV 33 T32, E2 34 33 true (.move T5), E2 35 33 true (FA 3 T1),
  E2 36 33 true (LD T35), E2 37 33 true (.len .sl T36), E2 38 33 true (.bin .eql .no T34 T37), E1 39 (.pick T33 T38 (CB false)), MV 31 T39] (.cond T31 (RG [MV 2 (CI 5)] .ret) (RG [E1 42 (LT 2 T3), E1 41 (.call 104 []), E0 (.chk (some 42) (LT 2 T3)), E1 43 (.lookup (.st [.str, .int .i64]) (.v (.bool false)) T41 T42 false), MV 40 T43] (.cond T40 (RG [MV 2 (CI 0)] .ret) .skip)))))))))))))) (RG [MV 2 (CI 1)] .ret)))
def r183 : List ARet := [.tmp 2]
def c187 : ACode :=
 RG [MV 4 (CI 0)] (.seq (RG [MV 6 T0, E1 7 (.len .sl T6), MV 8 (CI 0)] (.block 0 (.loop (RG [E1 9 (.bin .lss .no T8 T7)] (.seq (.cond T9 .skip (.exit 0)) (.seq (.block 1 (RG [MV 10 T8, MV 5 T10] (RG [MV 11 T1, MV 12 T0, MV 13 T5, E1 14 (IA 1 T12 T13), E1 15 (LD T14), E1 16 (.bin .eql .no T11 T15)] (.cond T16 (RG [MV 17 T5, MV 4 T17] .ret) .skip)))) (.region [E1 18 (.bin .add .no T8 (CI 1)), MV 8 T18]))))))) (RG [E1 4 (.move (CI (-1)))] .ret))
def r187 : List ARet := [.tmp 4]
def c188 : ACode :=
 RG [MV 4 (CB false)] (RG [MV 5 T0, MV 6 T1, E1 7 (.call 110 [T5, T6]), E1 8 (.bin .geq .no T7 (CI 0)), MV 4 T8] .ret)
def r188 : List ARet := [.tmp 4]
def c189 : ACode :=
 RG [E1 1 (.box 24 T0), MV 2 (CB false)] (RG [E1 3 (LT 4 T1), E1 4 (.call 99 [T3]), E1 5 (.un .not T4), MV 2 T5] .ret)
def r189 : List ARet := [.tmp 2]
def c190 : ACode :=
 RG [E1 2 (.box 24 T0), MV 4 (CB false)] (RG [E1 5 (FA 0 T2), E1 6 (LD T5), E1 7 (.bin .eql .no T6 (CI 3)), MV 8 T7, E2 9 8 true (FA 2 T2), E2 10 8 true (LD T9), E2 11 8 true (.move T1), E2 12 8 true (.bin .eql .no T10 T11), E1 13 (.pick T8 T12 (CB false)), MV 4 T13] .ret)
def r190 : List ARet := [.tmp 4]
def c234 : ACode :=
 RG [E1 1 (.box 24 T0), E1 2 (.alloc 26 [.str [], .v (.int .i64 0)]), MV 3 (CB false)] (RG [E1 4 (FA 2 T1), E1 5 (LD T4), E1 6 (FA 3 T1), E1 7 (LD T6), E1 8 (.len .sl T7), E1 9 (.build [.str [], .v (.int .i64 0)] [(0, 1, T5), (1, 1, T8)]), E1 10 (FA 0 T1), E1 11 (LD T10), E1 12 (.bin .eql .no T11 (CI 3)), MV 13 T12, E2 14 13 false (FA 0 T1), E2 15 13 false (LD T14), E2 16 13 false (.bin .eql .no T15 (CI 5)), E1 17 (.pick T13 (CB true) T16), E0 (.store 2 T2 T9), (none, some (13, false), .chk (some 15) (LD T14)), MV 3 T17] .ret)
def r234 : List ARet := [.cell 2 true 2, .tmp 3]
def c244 : ACode :=
 RG [E1 4 (.box 24 T0), E1 7 (.box 256 T3), MV 8 (CI 0)] (.seq (RG [MV 12 T2, E1 13 (.bin .lss .no T12 (CI 1)), MV 14 T13, E2 15 14 false (.move T1), E2 16 14 false (.bin .lss .no T15 (CI 1)), E1 17 (.pick T14 (CB true) T16), MV 18 T17, E2 19 18 false (FA 0 T4), E2 20 18 false (LD T19), E2 21 18 false (.bin .lss .no T20 (CI 1)), E1 22 (.pick T18 (CB true) T21), MV 23 T22, E2 24 23 false (FA 0 T4), E2 25 23 false (LD T24), E2 26 23 false (.bin .gtr .no T25 (CI 6)), E1 27 (.pick T23 (CB true) T26), MV 28 T27, E2 29 28 false (FA 0 T4), E2 30 28 false (LD T29), E2 31 28 false (.indexAddrArr 7 1 T7 T30), E2 32 28 false (LD T31), E2 33 28 false (LT 4 T4), E2 34 28 false (.callV T32 [T33]), E2 35 28 false (.un .not T34), E1 36 (.pick T28 (CB true) T35)] (.cond T36 (RG [MV 37 T1, E1 38 (.bin .add .no T37 (CI 1)), MV 8 T38] .ret) .skip)) (RG [MV 9 (CI 1)] (.seq (RG [E1 39 (FA 3 T4), E1 40 (LD T39), E1 41 (.len .sl T40),
  MV 42 (CI 0)] (.block 0 (.loop (RG [E1 43 (.bin .lss .no T42 T41)] (.seq (.cond T43 .skip (.exit 0)) (.seq (.block 1 (RG [E1 44 (IA 4 T40 T42), E1 45 (LT 4 T44), E1 11 (.alloc 24 [.v (.int .i64 0), .v (.int .i64 0), .str [], .v (.slice none 0 0)]), E0 (.store 4 T11 T45)] (RG [MV 46 T9, E1 47 (LT 4 T11), MV 48 T1, MV 49 T9, E1 50 (.bin .sub .no T48 T49), MV 51 T2, E1 52 (.bin .sub .no T51 (CI 1)), E1 53 (LT 7 T7), E1 54 (.call 244 [T47, T50, T52, T53]), E1 55 (.bin .add .no T46 T54), MV 9 T55] (RG [MV 56 T9, MV 57 T1, E1 58 (.bin .gtr .no T56 T57)] (.cond T58 (RG [MV 59 T1, E1 60 (.bin .add .no T59 (CI 1)), MV 8 T60] .ret) .skip))))) (.region [E1 61 (.bin .add .no T42 (CI 1)), MV 42 T61]))))))) (RG [MV 62 T9, MV 8 T62] .ret))))
def r244 : List ARet := [.tmp 8]
def c282 : ACode :=
 RG [E1 4 (.box 24 T0), MV 8 (CB false)] (RG [MV 9 T1, MV 10 T9, E2 11 10 false (FA 1 T4), E2 12 10 false (LD T11), E2 13 10 false (.bin .eql .no T12 (CI 0)), E1 14 (.pick T10 (CB true) T13), MV 15 T14, E2 16 15 true (.move T2), E2 17 15 true (.move T16), E2 18 17 false (FA 2 T4), E2 19 17 false (LD T18), E2 20 17 false (.bin .eql .no T19 (.c (.str []))), E2 21 15 true (.pick T17 (CB true) T20), E1 22 (.pick T15 T21 (CB false)), MV 23 T22, E2 24 23 true (.move T3), E2 25 23 true (.move T24), E2 26 25 false (FA 3 T4), E2 27 25 false (LD T26), E2 28 25 false (.len .sl T27), E2 29 25 false (.bin .eql .no T28 (CI 0)), E2 30 23 true (.pick T25 (CB true) T29), E1 31 (.pick T23 T30 (CB false)), MV 8 T31] .ret)
def r282 : List ARet := [.tmp 8]
def c283 : ACode :=
 RG [E1 2 (.box 24 T0), MV 3 (CB false)] (RG [E1 4 (LD T1), E1 5 (LT 4 T2), E1 6 (.callV T4 [T5, CB true, CB false, CB false]), MV 7 T6, E2 8 7 true (FA 1 T2), E2 9 7 true (LD T8), E2 10 7 true (.bin .geq .no T9 (CI 0)), E1 11 (.pick T7 T10 (CB false)), MV 12 T11, E2 13 12 true (FA 1 T2), E2 14 12 true (LD T13), E2 15 12 true (.bin .lss .no T14 (CI 100000)), E1 16 (.pick T12 T15 (CB false)), MV 3 T16] .ret)
def r283 : List ARet := [.tmp 3]
def c284 : ACode :=
 RG [E1 2 (.box 24 T0), MV 3 (CB false)] (RG [E1 4 (LD T1), E1 5 (LT 4 T2), E1 6 (.callV T4 [T5, CB true, CB false, CB false]), MV 7 T6, E2 8 7 true (FA 1 T2), E2 9 7 true (LD T8), E2 10 7 true (.bin .geq .no T9 (CI (-2147483647))), E1 11 (.pick T7 T10 (CB false)), MV 12 T11, E2 13 12 true (FA 1 T2), E2 14 12 true (LD T13), E2 15 12 true (.bin .leq .no T14 (CI 2147483647)), E1 16 (.pick T12 T15 (CB false)), MV 3 T16] .ret)
def r284 : List ARet := [.tmp 3]
def c285 : ACode :=
 RG [E1 2 (.box 24 T0), MV 3 (CB false)] (RG [E1 4 (LD T1), E1 5 (LT 4 T2), E1 6 (.callV T4 [T5, CB false, CB true, CB false]), MV 7 T6, E2 8 7 true (FA 2 T2), E2 9 7 true (LD T8), E2 10 7 true (.call 286 [T9]), E1 11 (.pick T7 T10 (CB false)), MV 3 T11] .ret)
def r285 : List ARet := [.tmp 3]
def c286 : ACode :=
 RG [MV 2 (CB false)] (RG [E1 3 (.move (.c (.fn (.func 311) [] [])))] (RG [MV 4 T0, E1 5 (.len .str T4), E1 6 (.bin .geq .no T5 (CI 1)), MV 7 T6, E2 8 7 true (.move T0), E2 9 7 true (.len .str T8), E2 10 7 true (.bin .leq .no T9 (CI 32)), E1 11 (.pick T7 T10 (CB false)), MV 12 T11, E2 13 12 true (.move T0), E2 14 12 true (.move T3), E2 15 12 true (.call 301 [T13, T14]), E2 16 12 true (.bin .lss .no T15 (CI 0)), E1 17 (.pick T12 T16 (CB false)), MV 2 T17] .ret))
def r286 : List ARet := [.tmp 2]
def c287 : ACode :=
 RG [E1 2 (.box 24 T0), MV 3 (CB false)] (RG [E1 4 (LD T1), E1 5 (LT 4 T2), E1 6 (.callV T4 [T5, CB false, CB true, CB false]), MV 7 T6, E2 8 7 true (FA 2 T2), E2 9 7 true (LD T8), E2 10 7 true (.len .str T9), E2 11 7 true (.bin .leq .no T10 (CI 255)), E1 12 (.pick T7 T11 (CB false)), MV 3 T12] .ret)
def r287 : List ARet := [.tmp 3]
def c288 : ACode :=
 RG [E1 2 (.box 24 T0), MV 3 (CB false)] (RG [E1 4 (LD T1), E1 5 (LT 4 T2), E1 6 (.callV T4 [T5, CB false, CB true, CB true]), MV 7 T6, E2 8 7 true (FA 2 T2), E2 9 7 true (LD T8), E2 10 7 true (.call 286 [T9]), E1 11 (.pick T7 T10 (CB false)), MV 12 T11, E2 13 12 true (FA 3 T2), E2 14 12 true (LD T13), E2 15 12 true (.len .sl T14), E2 16 12 true (.bin .geq .no T15 (CI 1)), E1 17 (.pick T12 T16 (CB false)), MV 18 T17, E2 19 18 true (FA 3 T2), E2 20 18 true (LD T19), E2 21 18 true (.len .sl T20), E2 22 18 true (.bin .leq .no T21 (CI 16)), E1 23 (.pick T18 T22 (CB false)), MV 3 T23] .ret)
def r288 : List ARet := [.tmp 3]
def c289 : ACode :=
 RG [E1 2 (.box 24 T0), MV 3 (CB false)] (RG [E1 4 (LD T1), E1 5 (LT 4 T2), E1 6 (.callV T4 [T5, CB false, CB false, CB true]), MV 7 T6, E2 8 7 true (FA 3 T2), E2 9 7 true (LD T8), E2 10 7 true (.len .sl T9), E2 11 7 true (.bin .leq .no T10 (CI 64)), E1 12 (.pick T7 T11 (CB false)), MV 3 T12] .ret)
def r289 : List ARet := [.tmp 3]
def c301 : ACode :=
 RG [MV 4 (CI 0)] (RG [MV 5 T0, MV 6 T1, E1 7 (.call 315 [T5, T6, CB true]), MV 4 T7] .ret)
def r301 : List ARet := [.tmp 4]
def c311 : ACode :=
 RG [MV 2 (CB false)] (RG [MV 3 T0, E1 4 (.bin .lss .no T3 (.c (.v (.int .i32 32)))), MV 5 T4, E2 6 5 false (.move T0), E2 7 5 false (.bin .gtr .no T6 (.c (.v (.int .i32 126)))), E1 8 (.pick T5 (CB true) T7), MV 2 T8] .ret)
def r311 : List ARet := [.tmp 2]
def c315 : ACode :=
 RG [MV 6 (CI 0)] (.seq (RG [MV 9 T0, E1 10 (.rangeStr T9)] (.block 0 (.loop (RG [E1 11 (.nextStr T10), E1 12 (.extract T11 0)] (.seq (.cond T12 .skip (.exit 0)) (.block 1 (RG [E1 13 (.extract T11 1), E1 14 (.extract T11 2), MV 7 T13, MV 8 T14] (RG [MV 15 T1, MV 16 T8, E1 17 (.callV T15 [T16]), MV 18 T2, E1 19 (.bin .eql .bl T17 T18)] (.cond T19 (RG [MV 20 T7, MV 6 T20] .ret) .skip))))))))) (RG [E1 6 (.move (CI (-1)))] .ret))
def r315 : List ARet := [.tmp 6]
theorem k17 : Coded Tryz.prog 17 c17 r17 26 := ⟨_, Tryz.func17, by kernel_rfl, by kernel_rfl, by kernel_rfl⟩
theorem k24 : Coded Tryz.prog 24 c24 r24 55 := ⟨_, Tryz.func24, by kernel_rfl, by kernel_rfl, by kernel_rfl⟩
theorem k25 : Coded Tryz.prog 25 c25 r25 24 := ⟨_, Tryz.func25, by kernel_rfl, by kernel_rfl, by kernel_rfl⟩
theorem k94 : Coded Tryz.prog 94 c94 r94 42 := ⟨_, Tryz.func94, by kernel_rfl, by kernel_rfl, by kernel_rfl⟩
theorem k95 : Coded Tryz.prog 95 c95 r95 6 := ⟨_, Tryz.func95, by kernel_rfl, by kernel_rfl, by kernel_rfl⟩
theorem k96 : Coded Tryz.prog 96 c96 r96 42 := ⟨_, Tryz.func96, by kernel_rfl, by kernel_rfl, by kernel_rfl⟩
theorem k99 : Coded Tryz.prog 99 c99 r99 40 := ⟨_, Tryz.func99, by kernel_rfl, by kernel_rfl, by kernel_rfl⟩
theorem k101 : Coded Tryz.prog 101 c101 r101 47 := ⟨_, Tryz.func101, by kernel_rfl, by kernel_rfl, by kernel_rfl⟩
theorem k104 : Coded Tryz.prog 104 c104 r104 13 := ⟨_, Tryz.func104, by kernel_rfl, by kernel_rfl, by kernel_rfl⟩
theorem k110 : Coded Tryz.prog 110 c110 r110 19 := ⟨_, Tryz.func110, by kernel_rfl, by kernel_rfl, by kernel_rfl⟩
theorem k181 : Coded Tryz.prog 181 c181 r181 26 := ⟨_, Tryz.func181, by kernel_rfl, by kernel_rfl, by kernel_rfl⟩
theorem k182 : Coded Tryz.prog 182 c182 r182 23 := ⟨_, Tryz.func182, by kernel_rfl, by kernel_rfl, by kernel_rfl⟩
theorem k183 : Coded Tryz.prog 183 c183 r183 44 := ⟨_, Tryz.func183, by kernel_rfl, by kernel_rfl, by kernel_rfl⟩
theorem k187 : Coded Tryz.prog 187 c187 r187 19 := ⟨_, Tryz.func187, by kernel_rfl, by kernel_rfl, by kernel_rfl⟩
theorem k188 : Coded Tryz.prog 188 c188 r188 9 := ⟨_, Tryz.func188, by kernel_rfl, by kernel_rfl, by kernel_rfl⟩
theorem k189 : Coded Tryz.prog 189 c189 r189 6 := ⟨_, Tryz.func189, by kernel_rfl, by kernel_rfl, by kernel_rfl⟩
theorem k190 : Coded Tryz.prog 190 c190 r190 14 := ⟨_, Tryz.func190, by kernel_rfl, by kernel_rfl, by kernel_rfl⟩
theorem k234 : Coded Tryz.prog 234 c234 r234 18 := ⟨_, Tryz.func234, by kernel_rfl, by kernel_rfl, by kernel_rfl⟩
theorem k244 : Coded Tryz.prog 244 c244 r244 63 := ⟨_, Tryz.func244, by kernel_rfl, by kernel_rfl, by kernel_rfl⟩
theorem k282 : Coded Tryz.prog 282 c282 r282 32 := ⟨_, Tryz.func282, by kernel_rfl, by kernel_rfl, by kernel_rfl⟩
theorem k283 : Coded Tryz.prog 283 c283 r283 17 := ⟨_, Tryz.func283, by kernel_rfl, by kernel_rfl, by kernel_rfl⟩
theorem k284 : Coded Tryz.prog 284 c284 r284 17 := ⟨_, Tryz.func284, by kernel_rfl, by kernel_rfl, by kernel_rfl⟩
theorem k285 : Coded Tryz.prog 285 c285 r285 12 := ⟨_, Tryz.func285, by kernel_rfl, by kernel_rfl, by kernel_rfl⟩
theorem k286 : Coded Tryz.prog 286 c286 r286 18 := ⟨_, Tryz.func286, by kernel_rfl, by kernel_rfl, by kernel_rfl⟩
theorem k287 : Coded Tryz.prog 287 c287 r287 13 := ⟨_, Tryz.func287, by kernel_rfl, by kernel_rfl, by kernel_rfl⟩
theorem k288 : Coded Tryz.prog 288 c288 r288 24 := ⟨_, Tryz.func288, by kernel_rfl, by kernel_rfl, by kernel_rfl⟩
theorem k289 : Coded Tryz.prog 289 c289 r289 13 := ⟨_, Tryz.func289, by kernel_rfl, by kernel_rfl, by kernel_rfl⟩
theorem k301 : Coded Tryz.prog 301 c301 r301 8 := ⟨_, Tryz.func301, by kernel_rfl, by kernel_rfl, by kernel_rfl⟩
theorem k311 : Coded Tryz.prog 311 c311 r311 9 := ⟨_, Tryz.func311, by kernel_rfl, by kernel_rfl, by kernel_rfl⟩
theorem k315 : Coded Tryz.prog 315 c315 r315 21 := ⟨_, Tryz.func315, by kernel_rfl, by kernel_rfl, by kernel_rfl⟩
end Go.Rip
