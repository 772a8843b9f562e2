/- The codes of functions, as the machine reads them. -/
import Derived.Test.YtndcajdameofjaaGreatDoorProg
import Derived.KernelRfl
import Derived.Test.YtndcajdameofjaaGreatDoorRipAJ
import Derived.Test.YtndcajdameofjaaGreatDoorRipAU
import Derived.Test.YtndcajdameofjaaGreatDoorRipAM
namespace Go.Rip
open Go Go.Proofs
set_option maxRecDepth 100000
structure SF where
 n258 : FuncId
 n292 : FuncId
 n293 : FuncId
 n294 : FuncId
 n295 : FuncId
 n296 : FuncId
 n297 : FuncId
 n298 : FuncId
 n299 : FuncId
 n300 : FuncId
 n312 : FuncId
 n313 : FuncId
 n314 : FuncId
 n322 : FuncId
def c258 (fS : SF) : ACode :=
 RG [MV 8 (CB true)] (RG [MV 9 (CB true)] (.block 0 (.loop (.block 1 (RG [MV 19 T2, MV 20 T1, E1 21 (.bin .sub .no T19 T20), MV 10 T21] (.seq (RG [MV 22 T10, E1 23 (.bin .leq .no T22 (CI 12))] (.cond T23 (RG [MV 24 T0, MV 25 T1, MV 26 T2, E1 27 (.call fS.n292 [T24, T25, T26])] .ret) .skip)) (.seq (RG [MV 28 T3, E1 29 (.bin .eql .no T28 (CI 0))] (.cond T29 (RG [MV 30 T0, MV 31 T1, MV 32 T2, E1 33 (.call fS.n293 [T30, T31, T32])] .ret) .skip)) (.seq (RG [MV 34 T8, E1 35 (.un .not T34)] (.cond T35 (RG [MV 36 T0, MV 37 T1, MV 38 T2, E1 39 (.call fS.n294 [T36, T37, T38])] (.region [MV 40 T3, E1 41 (.bin .sub .no T40 (CI 1)), MV 3 T41])) .skip)) (RG [MV 43 T0, MV 44 T1, MV 45 T2, E1 46 (.call fS.n295 [T43, T44, T45]), MV 42 T46, E1 47 (.extract T42 0), E1 48 (.extract T42 1), MV 11 T47, MV 12 T48] (.seq (RG [MV 49 T12, E1 50 (.bin .eql .no T49 (CI 2))] (.cond T50 (RG [MV 51 T0, MV 52 T1, MV 53 T2, E1 54 (.call fS.n296 [T51, T52, T53])] (RG [MV 55 T2, E1 56 (.bin .sub .no T55 (CI 1)), MV 57 T11, MV 58 T1,
  E1 59 (.bin .sub .no T57 T58), E1 60 (.bin .sub .no T56 T59), MV 11 T60] (.region [MV 12 (CI 1)]))) .skip)) (.seq (RG [MV 61 T8, MV 62 T61, E2 63 62 true (.move T9), E1 64 (.pick T62 T63 (CB false)), MV 65 T64, E2 66 65 true (.move T12), E2 67 65 true (.bin .eql .no T66 (CI 1)), E1 68 (.pick T65 T67 (CB false))] (.cond T68 (RG [MV 69 T0, MV 70 T1, MV 71 T2, E1 72 (.call fS.n297 [T69, T70, T71])] (.cond T72 .ret .skip)) .skip)) (.seq (RG [MV 73 T1, E1 74 (.bin .gtr .no T73 (CI 0)), MV 75 T74, E2 76 75 true (.move T0), E2 77 75 true (.move T1), E2 78 75 true (.bin .sub .no T77 (CI 1)), E2 79 75 true (IA 1 T76 T78), E2 80 75 true (LD T79), E2 81 75 true (.move T0), E2 82 75 true (.move T11), E2 83 75 true (IA 1 T81 T82), E2 84 75 true (LD T83), E2 85 75 true (.call fS.n298 [T80, T84]), E2 86 75 true (.un .not T85), E1 87 (.pick T75 T86 (CB false))] (.cond T87 (RG [MV 88 T0, MV 89 T1, MV 90 T2, MV 91 T11, E1 92 (.call fS.n299 [T88, T89, T90, T91]), MV 13 T92] (RG [MV 93 T13,
  MV 1 T93] (.exit 1))) .skip)) (RG [MV 95 T0, MV 96 T1, MV 97 T2, MV 98 T11, E1 99 (.call fS.n300 [T95, T96, T97, T98]), MV 94 T99, E1 100 (.extract T94 0), E1 101 (.extract T94 1), MV 14 T100, MV 15 T101] (RG [MV 102 T15, MV 9 T102] (RG [MV 103 T14, MV 104 T1, E1 105 (.bin .sub .no T103 T104), MV 106 T2, MV 107 T14, E1 108 (.bin .sub .no T106 T107), MV 16 T105, MV 17 T108] (RG [MV 109 T10, E1 110 (.bin .quo .no T109 (CI 8)), MV 18 T110] (RG [MV 111 T16, MV 112 T17, E1 113 (.bin .lss .no T111 T112)] (.cond T113 (RG [MV 114 T16, MV 115 T18, E1 116 (.bin .geq .no T114 T115), MV 8 T116] (RG [MV 117 T0, MV 118 T1, MV 119 T14, MV 120 T3, E1 121 (.call fS.n258 [T117, T118, T119, T120])] (.region [MV 122 T14, E1 123 (.bin .add .no T122 (CI 1)), MV 1 T123]))) (RG [MV 124 T17, MV 125 T18, E1 126 (.bin .geq .no T124 T125), MV 8 T126] (RG [MV 127 T0, MV 128 T14, E1 129 (.bin .add .no (.t 128) (CI 1)), MV 130 T2, MV 131 T3, E1 132 (.call fS.n258 [T127, .t 129, .t 130, .t 131])] (.region [MV 133 T14,
  MV 2 (.t 133)])))))))))))))))))))))
def r258 : List ARet := []
def c292 (fS : SF) : ACode :=
 RG [MV 8 T1, E1 9 (.bin .add .no T8 (CI 1)), MV 6 T9] (.block 0 (.loop (.seq (RG [MV 10 T6, MV 11 T2, E1 12 (.bin .lss .no T10 T11)] (.cond T12 .skip (.exit 0))) (.seq (.block 1 (RG [MV 15 T6, MV 7 T15] (.block 2 (.loop (.seq (RG [MV 16 T7, MV 17 T1, E1 18 (.bin .gtr .no T16 T17), MV 19 T18, E2 20 19 true (.move T0), E2 21 19 true (.move T7), E2 22 19 true (IA 1 T20 T21), E2 23 19 true (LD T22), E2 24 19 true (.move T0), E2 25 19 true (.move T7), E2 26 19 true (.bin .sub .no T25 (CI 1)), E2 27 19 true (IA 1 T24 T26), E2 28 19 true (LD T27), E2 29 19 true (.call fS.n298 [T23, T28]), E1 30 (.pick T19 T29 (CB false))] (.cond T30 .skip (.exit 2))) (.seq (.block 3 (.region [MV 33 T0, MV 34 T7, MV 35 T0, MV 36 T7, E1 37 (.bin .sub .no T36 (CI 1)), MV 38 T0, MV 39 T7, E1 40 (.bin .sub .no T39 (CI 1)), E1 41 (IA 1 T38 T40), E1 42 (LD T41), MV 43 T0, MV 44 T7, E1 45 (IA 1 T43 T44), E1 46 (LD T45), E1 47 (IA 1 T33 T34), E0 (.store 1 T47 T42), E1 48 (IA 1 T35 T37),
  E0 (.store 1 T48 T46)])) (.region [MV 31 T7, E1 32 (.bin .sub .no T31 (CI 1)), MV 7 T32]))))))) (.region [MV 13 T6, E1 14 (.bin .add .no T13 (CI 1)), MV 6 T14])))))
def r292 : List ARet := []
def c293 (fS : SF) : ACode :=
 RG [MV 11 T1, MV 6 T11] (RG [MV 7 (CI 0)] (RG [MV 12 T2, MV 13 T1, E1 14 (.bin .sub .no T12 T13), MV 8 T14] (.seq (RG [MV 15 T8, E1 16 (.bin .sub .no T15 (CI 1)), E1 17 (.bin .quo .no T16 (CI 2)), MV 9 T17] (.block 0 (.loop (.seq (RG [MV 18 T9, E1 19 (.bin .geq .no T18 (CI 0))] (.cond T19 .skip (.exit 0))) (.seq (.block 1 (.region [MV 22 T0, MV 23 T9, MV 24 T8, MV 25 T6, E1 26 (.call fS.n312 [T22, T23, T24, T25])])) (.region [MV 20 T9, E1 21 (.bin .sub .no T20 (CI 1)), MV 9 T21])))))) (RG [MV 27 T8, E1 28 (.bin .sub .no T27 (CI 1)), MV 10 T28] (.block 2 (.loop (.seq (RG [MV 29 T10, E1 30 (.bin .geq .no T29 (CI 0))] (.cond T30 .skip (.exit 2))) (.seq (.block 3 (RG [MV 33 T0, MV 34 T6, MV 35 T0, MV 36 T6, MV 37 T10, E1 38 (.bin .add .no T36 T37), MV 39 T0, MV 40 T6, MV 41 T10, E1 42 (.bin .add .no T40 T41), E1 43 (IA 1 T39 T42), E1 44 (LD T43), MV 45 T0, MV 46 T6, E1 47 (IA 1 T45 T46), E1 48 (LD T47), E1 49 (IA 1 T33 T34), E0 (.store 1 T49 T44), E1 50 (IA 1 T35 T38),
  E0 (.store 1 T50 T48)] (.region [MV 51 T0, MV 52 T7, MV 53 T10, MV 54 T6, E1 55 (.call fS.n312 [T51, T52, T53, T54])]))) (.region [MV 31 T10, E1 32 (.bin .sub .no T31 (CI 1)), MV 10 T32])))))))))
def r293 : List ARet := []
def c294 (_fS : SF) : ACode :=
 RG [MV 11 T2, MV 12 T1, E1 13 (.bin .sub .no T11 T12), MV 6 T13] (RG [MV 14 T6, E1 15 (.bin .geq .no T14 (CI 8))] (.cond T15 (RG [MV 16 T6, E1 17 (.conv .u64 T16), E1 7 (.alloc 296 [.v (.int .u64 0)]), E0 (.store 1 T7 T17)] (RG [MV 18 T6, E1 19 (.call 304 [T18]), MV 8 T19] (RG [MV 20 T1, MV 21 T6, E1 22 (.bin .quo .no T21 (CI 4)), E1 23 (.bin .mul .no T22 (CI 2)), E1 24 (.bin .add .no T20 T23), E1 25 (.bin .sub .no T24 (CI 1)), MV 9 T25] (.block 0 (.loop (.seq (RG [MV 26 T9, MV 27 T1, MV 28 T6, E1 29 (.bin .quo .no T28 (CI 4)), E1 30 (.bin .mul .no T29 (CI 2)), E1 31 (.bin .add .no T27 T30), E1 32 (.bin .add .no T31 (CI 1)), E1 33 (.bin .leq .no T26 T32)] (.cond T33 .skip (.exit 0))) (.seq (.block 1 (RG [E1 36 (.call 305 [T7]), MV 37 T8, E1 38 (.bin .sub .no T37 (.c (.v (.int .u64 1)))), E1 39 (.bin .and .no T36 T38), E1 40 (.conv .i64 T39), MV 10 T40] (.seq (RG [MV 41 T10, MV 42 T6, E1 43 (.bin .geq .no T41 T42)] (.cond T43 (.region [MV 44 T10, MV 45 T6,
  E1 46 (.bin .sub .no T44 T45), MV 10 T46]) .skip)) (.region [MV 47 T0, MV 48 T9, MV 49 T0, MV 50 T1, MV 51 T10, E1 52 (.bin .add .no T50 T51), MV 53 T0, MV 54 T1, MV 55 T10, E1 56 (.bin .add .no T54 T55), E1 57 (IA 1 T53 T56), E1 58 (LD T57), MV 59 T0, MV 60 T9, E1 61 (IA 1 T59 T60), E1 62 (LD T61), E1 63 (IA 1 T47 T48), E0 (.store 1 T63 T58), E1 64 (IA 1 T49 T52), E0 (.store 1 T64 T62)])))) (.region [MV 34 T9, E1 35 (.bin .add .no T34 (CI 1)), MV 9 T35])))))))) .skip))
def r294 : List ARet := []
def c295 (fS : SF) : ACode :=
 RG [MV 6 (CI 0), MV 7 (CI 0)] (RG [MV 13 T2, MV 14 T1, E1 15 (.bin .sub .no T13 T14), MV 8 T15] (RG [E1 9 (.alloc 3 [.v (.int .i64 0)])] (RG [MV 16 T1, MV 17 T8, E1 18 (.bin .quo .no T17 (CI 4)), E1 19 (.bin .mul .no T18 (CI 1)), E1 20 (.bin .add .no T16 T19), MV 10 T20] (RG [MV 21 T1, MV 22 T8, E1 23 (.bin .quo .no T22 (CI 4)), E1 24 (.bin .mul .no T23 (CI 2)), E1 25 (.bin .add .no T21 T24), MV 11 T25] (RG [MV 26 T1, MV 27 T8, E1 28 (.bin .quo .no T27 (CI 4)), E1 29 (.bin .mul .no T28 (CI 3)), E1 30 (.bin .add .no T26 T29), MV 12 T30] (.seq (RG [MV 31 T8, E1 32 (.bin .geq .no T31 (CI 8))] (.cond T32 (.seq (RG [MV 33 T8, E1 34 (.bin .geq .no T33 (CI 50))] (.cond T34 (RG [MV 35 T0, MV 36 T10, E1 37 (.call fS.n313 [T35, T36, T9]), MV 10 T37] (RG [MV 38 T0, MV 39 T11, E1 40 (.call fS.n313 [T38, T39, T9]), MV 11 T40] (.region [MV 41 T0, MV 42 T12, E1 43 (.call fS.n313 [T41, T42, T9]), MV 12 T43]))) .skip)) (.region [MV 44 T0, MV 45 T10, MV 46 T11, MV 47 T12,
  E1 48 (.call fS.n314 [T44, T45, T46, T47, T9]), MV 11 T48])) .skip)) (RG [E1 49 (LD T9)] (.block 0 (RG [E1 52 (.bin .eql .no T49 (CI 0)), MV 51 T52] (.cond T51 (RG [MV 53 T11, MV 6 T53, MV 7 (CI 1)] .ret) (RG [E1 55 (.bin .eql .no T49 (CI 12)), MV 54 T55] (.cond T54 (RG [MV 56 T11, MV 6 T56, MV 7 (CI 2)] .ret) (RG [MV 50 T11, MV 6 T50, MV 7 (CI 0)] .ret)))))))))))))
def r295 : List ARet := [.tmp 6, .tmp 7]
def c296 (_fS : SF) : ACode :=
 RG [MV 8 T1, MV 6 T8] (RG [MV 9 T2, E1 10 (.bin .sub .no T9 (CI 1)), MV 7 T10] (.block 0 (.loop (.seq (RG [MV 11 T6, MV 12 T7, E1 13 (.bin .lss .no T11 T12)] (.cond T13 .skip (.exit 0))) (.block 1 (RG [MV 14 T0, MV 15 T6, MV 16 T0, MV 17 T7, MV 18 T0, MV 19 T7, E1 20 (IA 1 T18 T19), E1 21 (LD T20), MV 22 T0, MV 23 T6, E1 24 (IA 1 T22 T23), E1 25 (LD T24), E1 26 (IA 1 T14 T15), E0 (.store 1 T26 T21), E1 27 (IA 1 T16 T17), E0 (.store 1 T27 T25)] (RG [MV 28 T6, E1 29 (.bin .add .no T28 (CI 1)), MV 6 T29] (.region [MV 30 T7, E1 31 (.bin .sub .no T30 (CI 1)), MV 7 T31]))))))))
def r296 : List ARet := []
def c297 (fS : SF) : ACode :=
 RG [MV 6 (CB false)] (RG [MV 11 T1, E1 12 (.bin .add .no T11 (CI 1)), MV 7 T12] (.seq (RG [MV 8 (CI 0)] (.block 0 (.loop (.seq (RG [MV 13 T8, E1 14 (.bin .lss .no T13 (CI 5))] (.cond T14 .skip (.exit 0))) (.seq (.block 1 (.seq (.block 2 (.loop (.seq (RG [MV 17 T7, MV 18 T2, E1 19 (.bin .lss .no T17 T18), MV 20 T19, E2 21 20 true (.move T0), E2 22 20 true (.move T7), E2 23 20 true (IA 1 T21 T22), E2 24 20 true (LD T23), E2 25 20 true (.move T0), E2 26 20 true (.move T7), E2 27 20 true (.bin .sub .no T26 (CI 1)), E2 28 20 true (IA 1 T25 T27), E2 29 20 true (LD T28), E2 30 20 true (.call fS.n298 [T24, T29]), E2 31 20 true (.un .not T30), E1 32 (.pick T20 T31 (CB false))] (.cond T32 .skip (.exit 2))) (.block 3 (.region [MV 33 T7, E1 34 (.bin .add .no T33 (CI 1)), MV 7 T34]))))) (.seq (RG [MV 35 T7, MV 36 T2, E1 37 (.bin .eql .no T35 T36)] (.cond T37 (RG [MV 6 (CB true)] .ret) .skip)) (.seq (RG [MV 38 T2, MV 39 T1, E1 40 (.bin .sub .no T38 T39),
  E1 41 (.bin .lss .no T40 (CI 50))] (.cond T41 (RG [MV 6 (CB false)] .ret) .skip)) (RG [MV 42 T0, MV 43 T7, MV 44 T0, MV 45 T7, E1 46 (.bin .sub .no T45 (CI 1)), MV 47 T0, MV 48 T7, E1 49 (.bin .sub .no T48 (CI 1)), E1 50 (IA 1 T47 T49), E1 51 (LD T50), MV 52 T0, MV 53 T7, E1 54 (IA 1 T52 T53), E1 55 (LD T54), E1 56 (IA 1 T42 T43), E0 (.store 1 T56 T51), E1 57 (IA 1 T44 T46), E0 (.store 1 T57 T55)] (.seq (RG [MV 58 T7, MV 59 T1, E1 60 (.bin .sub .no T58 T59), E1 61 (.bin .geq .no T60 (CI 2))] (.cond T61 (RG [MV 62 T7, E1 63 (.bin .sub .no T62 (CI 1)), MV 9 T63] (.block 4 (.loop (.seq (RG [MV 64 T9, E1 65 (.bin .geq .no T64 (CI 1))] (.cond T65 .skip (.exit 4))) (.seq (.block 5 (.seq (RG [MV 68 T0, MV 69 T9, E1 70 (IA 1 T68 T69), E1 71 (LD T70), MV 72 T0, MV 73 T9, E1 74 (.bin .sub .no T73 (CI 1)), E1 75 (IA 1 T72 T74), E1 76 (LD T75), E1 77 (.call fS.n298 [T71, T76]), E1 78 (.un .not T77)] (.cond T78 (.exit 4) .skip)) (.region [MV 79 T0, MV 80 T9, MV 81 T0, MV 82 T9,
  E1 83 (.bin .sub .no T82 (CI 1)), MV 84 T0, MV 85 T9, E1 86 (.bin .sub .no T85 (CI 1)), E1 87 (IA 1 T84 T86), E1 88 (LD T87), MV 89 T0, MV 90 T9, E1 91 (IA 1 T89 T90), E1 92 (LD T91), E1 93 (IA 1 T79 T80), E0 (.store 1 T93 T88), E1 94 (IA 1 T81 T83), E0 (.store 1 T94 T92)]))) (.region [MV 66 T9, E1 67 (.bin .sub .no T66 (CI 1)), MV 9 T67])))))) .skip)) (RG [MV 95 T2, MV 96 T7, E1 97 (.bin .sub .no T95 T96), E1 98 (.bin .geq .no T97 (CI 2))] (.cond T98 (RG [MV 99 T7, E1 100 (.bin .add .no T99 (CI 1)), MV 10 T100] (.block 6 (.loop (.seq (RG [MV 101 T10, MV 102 T2, E1 103 (.bin .lss .no T101 T102)] (.cond T103 .skip (.exit 6))) (.seq (.block 7 (.seq (RG [MV 106 T0, MV 107 T10, E1 108 (IA 1 T106 T107), E1 109 (LD T108), MV 110 T0, MV 111 T10, E1 112 (.bin .sub .no T111 (CI 1)), E1 113 (IA 1 T110 T112), E1 114 (LD T113), E1 115 (.call fS.n298 [T109, T114]), E1 116 (.un .not T115)] (.cond T116 (.exit 6) .skip)) (.region [MV 117 T0, MV 118 T10, MV 119 T0, MV 120 T10,
  E1 121 (.bin .sub .no T120 (CI 1)), MV 122 T0, MV 123 T10, E1 124 (.bin .sub .no T123 (CI 1)), E1 125 (IA 1 T122 T124), E1 126 (LD T125), MV 127 T0, MV 128 T10, E1 129 (IA 1 T127 (.t 128)), E1 130 (LD (.t 129)), E1 131 (IA 1 T117 T118), E0 (.store 1 (.t 131) T126), E1 132 (IA 1 T119 T121), E0 (.store 1 (.t 132) (.t 130))]))) (.region [MV 104 T10, E1 105 (.bin .add .no T104 (CI 1)), MV 10 T105])))))) .skip)))))))) (.region [MV 15 T8, E1 16 (.bin .add .no T15 (CI 1)), MV 8 T16])))))) (RG [MV 6 (CB false)] .ret)))
def r297 : List ARet := [.tmp 6]
def c299 (fS : SF) : ACode :=
 RG [MV 8 (CI 0)] (RG [MV 11 T0, MV 12 T1, MV 13 T0, MV 14 T3, MV 15 T0, MV 16 T3, E1 17 (IA 1 T15 T16), E1 18 (LD T17), MV 19 T0, MV 20 T1, E1 21 (IA 1 T19 T20), E1 22 (LD T21), E1 23 (IA 1 T11 T12), E0 (.store 1 T23 T18), E1 24 (IA 1 T13 T14), E0 (.store 1 T24 T22)] (RG [MV 25 T1, E1 26 (.bin .add .no T25 (CI 1)), MV 27 T2, E1 28 (.bin .sub .no T27 (CI 1)), MV 9 T26, MV 10 T28] (.seq (.block 0 (.loop (.block 1 (.seq (.block 2 (.loop (.seq (RG [MV 29 T9, MV 30 T10, E1 31 (.bin .leq .no T29 T30), MV 32 T31, E2 33 32 true (.move T0), E2 34 32 true (.move T1), E2 35 32 true (IA 1 T33 T34), E2 36 32 true (LD T35), E2 37 32 true (.move T0), E2 38 32 true (.move T9), E2 39 32 true (IA 1 T37 T38), E2 40 32 true (LD T39), E2 41 32 true (.call fS.n298 [T36, T40]), E2 42 32 true (.un .not T41), E1 43 (.pick T32 T42 (CB false))] (.cond T43 .skip (.exit 2))) (.block 3 (.region [MV 44 T9, E1 45 (.bin .add .no T44 (CI 1)), MV 9 T45]))))) (.seq (.block 4 (.loop (.seq (RG [MV 46 T9, MV 47 T10,
  E1 48 (.bin .leq .no T46 T47), MV 49 T48, E2 50 49 true (.move T0), E2 51 49 true (.move T1), E2 52 49 true (IA 1 T50 T51), E2 53 49 true (LD T52), E2 54 49 true (.move T0), E2 55 49 true (.move T10), E2 56 49 true (IA 1 T54 T55), E2 57 49 true (LD T56), E2 58 49 true (.call fS.n298 [T53, T57]), E1 59 (.pick T49 T58 (CB false))] (.cond T59 .skip (.exit 4))) (.block 5 (.region [MV 60 T10, E1 61 (.bin .sub .no T60 (CI 1)), MV 10 T61]))))) (.seq (RG [MV 62 T9, MV 63 T10, E1 64 (.bin .gtr .no T62 T63)] (.cond T64 (.exit 0) .skip)) (RG [MV 65 T0, MV 66 T9, MV 67 T0, MV 68 T10, MV 69 T0, MV 70 T10, E1 71 (IA 1 T69 T70), E1 72 (LD T71), MV 73 T0, MV 74 T9, E1 75 (IA 1 T73 T74), E1 76 (LD T75), E1 77 (IA 1 T65 T66), E0 (.store 1 T77 T72), E1 78 (IA 1 T67 T68), E0 (.store 1 T78 T76)] (RG [MV 79 T9, E1 80 (.bin .add .no T79 (CI 1)), MV 9 T80] (.region [MV 81 T10, E1 82 (.bin .sub .no T81 (CI 1)), MV 10 T82]))))))))) (RG [MV 83 T9, MV 8 T83] .ret))))
def r299 : List ARet := [.tmp 8]
def c300 (fS : SF) : ACode :=
 RG [MV 8 (CI 0), MV 9 (CB false)] (RG [MV 12 T0, MV 13 T1, MV 14 T0, MV 15 T3, MV 16 T0, MV 17 T3, E1 18 (IA 1 T16 T17), E1 19 (LD T18), MV 20 T0, MV 21 T1, E1 22 (IA 1 T20 T21), E1 23 (LD T22), E1 24 (IA 1 T12 T13), E0 (.store 1 T24 T19), E1 25 (IA 1 T14 T15), E0 (.store 1 T25 T23)] (RG [MV 26 T1, E1 27 (.bin .add .no T26 (CI 1)), MV 28 T2, E1 29 (.bin .sub .no T28 (CI 1)), MV 10 T27, MV 11 T29] (.seq (.block 0 (.loop (.seq (RG [MV 30 T10, MV 31 T11, E1 32 (.bin .leq .no T30 T31), MV 33 T32, E2 34 33 true (.move T0), E2 35 33 true (.move T10), E2 36 33 true (IA 1 T34 T35), E2 37 33 true (LD T36), E2 38 33 true (.move T0), E2 39 33 true (.move T1), E2 40 33 true (IA 1 T38 T39), E2 41 33 true (LD T40), E2 42 33 true (.call fS.n298 [T37, T41]), E1 43 (.pick T33 T42 (CB false))] (.cond T43 .skip (.exit 0))) (.block 1 (.region [MV 44 T10, E1 45 (.bin .add .no T44 (CI 1)), MV 10 T45]))))) (.seq (.block 2 (.loop (.seq (RG [MV 46 T10, MV 47 T11, E1 48 (.bin .leq .no T46 T47), MV 49 T48,
  E2 50 49 true (.move T0), E2 51 49 true (.move T11), E2 52 49 true (IA 1 T50 T51), E2 53 49 true (LD T52), E2 54 49 true (.move T0), E2 55 49 true (.move T1), E2 56 49 true (IA 1 T54 T55), E2 57 49 true (LD T56), E2 58 49 true (.call fS.n298 [T53, T57]), E2 59 49 true (.un .not T58), E1 60 (.pick T49 T59 (CB false))] (.cond T60 .skip (.exit 2))) (.block 3 (.region [MV 61 T11, E1 62 (.bin .sub .no T61 (CI 1)), MV 11 T62]))))) (.seq (RG [MV 63 T10, MV 64 T11, E1 65 (.bin .gtr .no T63 T64)] (.cond T65 (RG [MV 66 T0, MV 67 T11, MV 68 T0, MV 69 T1, MV 70 T0, MV 71 T1, E1 72 (IA 1 T70 T71), E1 73 (LD T72), MV 74 T0, MV 75 T11, E1 76 (IA 1 T74 T75), E1 77 (LD T76), E1 78 (IA 1 T66 T67), E0 (.store 1 T78 T73), E1 79 (IA 1 T68 T69), E0 (.store 1 T79 T77)] (RG [MV 80 T11, MV 8 T80, MV 9 (CB true)] .ret)) .skip)) (RG [MV 81 T0, MV 82 T10, MV 83 T0, MV 84 T11, MV 85 T0, MV 86 T11, E1 87 (IA 1 T85 T86), E1 88 (LD T87), MV 89 T0, MV 90 T10, E1 91 (IA 1 T89 T90), E1 92 (LD T91),
  E1 93 (IA 1 T81 T82), E0 (.store 1 T93 T88), E1 94 (IA 1 T83 T84), E0 (.store 1 T94 T92)] (RG [MV 95 T10, E1 96 (.bin .add .no T95 (CI 1)), MV 10 T96] (RG [MV 97 T11, E1 98 (.bin .sub .no T97 (CI 1)), MV 11 T98] (.seq (.block 4 (.loop (.block 5 (.seq (.block 6 (.loop (.seq (RG [MV 99 T10, MV 100 T11, E1 101 (.bin .leq .no T99 T100), MV 102 T101, E2 103 102 true (.move T0), E2 104 102 true (.move T10), E2 105 102 true (IA 1 T103 T104), E2 106 102 true (LD T105), E2 107 102 true (.move T0), E2 108 102 true (.move T1), E2 109 102 true (IA 1 T107 T108), E2 110 102 true (LD T109), E2 111 102 true (.call fS.n298 [T106, T110]), E1 112 (.pick T102 T111 (CB false))] (.cond T112 .skip (.exit 6))) (.block 7 (.region [MV 113 T10, E1 114 (.bin .add .no T113 (CI 1)), MV 10 T114]))))) (.seq (.block 8 (.loop (.seq (RG [MV 115 T10, MV 116 T11, E1 117 (.bin .leq .no T115 T116), MV 118 T117, E2 119 118 true (.move T0), E2 120 118 true (.move T11), E2 121 118 true (IA 1 T119 T120),
  E2 122 118 true (LD T121), E2 123 118 true (.move T0), E2 124 118 true (.move T1), E2 125 118 true (IA 1 T123 T124), E2 126 118 true (LD T125), E2 127 118 true (.call fS.n298 [T122, T126]), E2 128 118 true (.un .not T127), E1 129 (.pick T118 (.t 128) (CB false))] (.cond (.t 129) .skip (.exit 8))) (.block 9 (.region [MV 130 T11, E1 131 (.bin .sub .no (.t 130) (CI 1)), MV 11 (.t 131)]))))) (.seq (RG [MV 132 T10, MV 133 T11, E1 134 (.bin .gtr .no (.t 132) (.t 133))] (.cond (.t 134) (.exit 4) .skip)) (RG [MV 135 T0, MV 136 T10, MV 137 T0, MV 138 T11, MV 139 T0, MV 140 T11, E1 141 (IA 1 (.t 139) (.t 140)), E1 142 (LD (.t 141)), MV 143 T0, MV 144 T10, E1 145 (IA 1 (.t 143) (.t 144)), E1 146 (LD (.t 145)), E1 147 (IA 1 (.t 135) (.t 136)), E0 (.store 1 (.t 147) (.t 142)), E1 148 (IA 1 (.t 137) (.t 138)), E0 (.store 1 (.t 148) (.t 146))] (RG [MV 149 T10, E1 150 (.bin .add .no (.t 149) (CI 1)), MV 10 (.t 150)] (.region [MV 151 T11, E1 152 (.bin .sub .no (.t 151) (CI 1)),
  MV 11 (.t 152)]))))))))) (RG [MV 153 T0, MV 154 T11, MV 155 T0, MV 156 T1, MV 157 T0, MV 158 T1, E1 159 (IA 1 (.t 157) (.t 158)), E1 160 (LD (.t 159)), MV 161 T0, MV 162 T11, E1 163 (IA 1 (.t 161) (.t 162)), E1 164 (LD (.t 163)), E1 165 (IA 1 (.t 153) (.t 154)), E0 (.store 1 (.t 165) (.t 160)), E1 166 (IA 1 (.t 155) (.t 156)), E0 (.store 1 (.t 166) (.t 164))] (RG [MV 167 T11, MV 8 (.t 167), MV 9 (CB false)] .ret)))))))))))
def r300 : List ARet := [.tmp 8, .tmp 9]
def c312 (fS : SF) : ACode :=
 RG [MV 10 T1, MV 8 T10] (.block 0 (.loop (.block 1 (RG [MV 11 T8, E1 12 (.bin .mul .no (CI 2) T11), E1 13 (.bin .add .no T12 (CI 1)), MV 9 T13] (.seq (RG [MV 14 T9, MV 15 T2, E1 16 (.bin .geq .no T14 T15)] (.cond T16 (.exit 0) .skip)) (.seq (RG [MV 17 T9, E1 18 (.bin .add .no T17 (CI 1)), MV 19 T2, E1 20 (.bin .lss .no T18 T19), MV 21 T20, E2 22 21 true (.move T0), E2 23 21 true (.move T3), E2 24 21 true (.move T9), E2 25 21 true (.bin .add .no T23 T24), E2 26 21 true (IA 1 T22 T25), E2 27 21 true (LD T26), E2 28 21 true (.move T0), E2 29 21 true (.move T3), E2 30 21 true (.move T9), E2 31 21 true (.bin .add .no T29 T30), E2 32 21 true (.bin .add .no T31 (CI 1)), E2 33 21 true (IA 1 T28 T32), E2 34 21 true (LD T33), E2 35 21 true (.call fS.n298 [T27, T34]), E1 36 (.pick T21 T35 (CB false))] (.cond T36 (.region [MV 37 T9, E1 38 (.bin .add .no T37 (CI 1)), MV 9 T38]) .skip)) (.seq (RG [MV 39 T0, MV 40 T3, MV 41 T8, E1 42 (.bin .add .no T40 T41), E1 43 (IA 1 T39 T42), E1 44 (LD T43),
  MV 45 T0, MV 46 T3, MV 47 T9, E1 48 (.bin .add .no T46 T47), E1 49 (IA 1 T45 T48), E1 50 (LD T49), E1 51 (.call fS.n298 [T44, T50]), E1 52 (.un .not T51)] (.cond T52 .ret .skip)) (RG [MV 53 T0, MV 54 T3, MV 55 T8, E1 56 (.bin .add .no T54 T55), MV 57 T0, MV 58 T3, MV 59 T9, E1 60 (.bin .add .no T58 T59), MV 61 T0, MV 62 T3, MV 63 T9, E1 64 (.bin .add .no T62 T63), E1 65 (IA 1 T61 T64), E1 66 (LD T65), MV 67 T0, MV 68 T3, MV 69 T8, E1 70 (.bin .add .no T68 T69), E1 71 (IA 1 T67 T70), E1 72 (LD T71), E1 73 (IA 1 T53 T56), E0 (.store 1 T73 T66), E1 74 (IA 1 T57 T60), E0 (.store 1 T74 T72)] (.region [MV 75 T9, MV 8 T75])))))))))
def r312 : List ARet := []
def c313 (fS : SF) : ACode :=
 RG [MV 6 (CI 0)] (RG [MV 7 T0, MV 8 T1, E1 9 (.bin .sub .no T8 (CI 1)), MV 10 T1, MV 11 T1, E1 12 (.bin .add .no T11 (CI 1)), MV 13 T2, E1 14 (.call fS.n314 [T7, T9, T10, T12, T13]), MV 6 T14] .ret)
def r313 : List ARet := [.tmp 6]
def c314 (fS : SF) : ACode :=
 RG [MV 10 (CI 0)] (RG [MV 12 T0, MV 13 T1, MV 14 T2, MV 15 T4, E1 16 (.call fS.n322 [T12, T13, T14, T15]), MV 11 T16, E1 17 (.extract T11 0), E1 18 (.extract T11 1), MV 1 T17, MV 2 T18] (RG [MV 20 T0, MV 21 T2, MV 22 T3, MV 23 T4, E1 24 (.call fS.n322 [T20, T21, T22, T23]), MV 19 T24, E1 25 (.extract T19 0), E1 26 (.extract T19 1), MV 2 T25, MV 3 T26] (RG [MV 28 T0, MV 29 T1, MV 30 T2, MV 31 T4, E1 32 (.call fS.n322 [T28, T29, T30, T31]), MV 27 T32, E1 33 (.extract T27 0), E1 34 (.extract T27 1), MV 1 T33, MV 2 T34] (RG [MV 35 T2, MV 10 T35] .ret))))
def r314 : List ARet := [.tmp 10]
def c322 (fS : SF) : ACode :=
 RG [MV 8 (CI 0), MV 9 (CI 0)] (.seq (RG [MV 10 T0, MV 11 T2, E1 12 (IA 1 T10 T11), E1 13 (LD T12), MV 14 T0, MV 15 T1, E1 16 (IA 1 T14 T15), E1 17 (LD T16), E1 18 (.call fS.n298 [T13, T17])] (.cond T18 (RG [MV 19 T3, E1 20 (.nilCheck T19), E1 21 (LD T20), E1 22 (.bin .add .no T21 (CI 1)), E1 23 (.nilCheck T19), E0 (.store 1 T23 T22)] (RG [MV 24 T2, MV 25 T1, MV 8 T24, MV 9 T25] .ret)) .skip)) (RG [MV 26 T1, MV 27 T2, MV 8 T26, MV 9 T27] .ret))
def r322 : List ARet := [.tmp 8, .tmp 9]
structure SKs (fS : SF) : Prop where
 k258 : Coded Tryz.prog fS.n258 (c258 fS) r258 134
 k292 : Coded Tryz.prog fS.n292 (c292 fS) r292 49
 k293 : Coded Tryz.prog fS.n293 (c293 fS) r293 56
 k294 : Coded Tryz.prog fS.n294 (c294 fS) r294 65
 k295 : Coded Tryz.prog fS.n295 (c295 fS) r295 57
 k296 : Coded Tryz.prog fS.n296 (c296 fS) r296 32
 k297 : Coded Tryz.prog fS.n297 (c297 fS) r297 133
 k299 : Coded Tryz.prog fS.n299 (c299 fS) r299 84
 k300 : Coded Tryz.prog fS.n300 (c300 fS) r300 168
 k312 : Coded Tryz.prog fS.n312 (c312 fS) r312 76
 k313 : Coded Tryz.prog fS.n313 (c313 fS) r313 15
 k314 : Coded Tryz.prog fS.n314 (c314 fS) r314 36
 k322 : Coded Tryz.prog fS.n322 (c322 fS) r322 28
def sfI : SF := ⟨258, 292, 293, 294, 295, 296, 297, 298, 299, 300, 312, 313, 314, 322⟩
def sfS : SF := ⟨242, 273, 274, 275, 276, 277, 278, 279, 280, 281, 308, 309, 310, 321⟩
theorem ksI : SKs sfI := ⟨.of Tryz.func258 (by kernel_rfl),
 .of Tryz.func292 (by kernel_rfl),
 .of Tryz.func293 (by kernel_rfl),
 .of Tryz.func294 (by kernel_rfl),
 .of Tryz.func295 (by kernel_rfl),
 .of Tryz.func296 (by kernel_rfl),
 .of Tryz.func297 (by kernel_rfl),
 .of Tryz.func299 (by kernel_rfl),
 .of Tryz.func300 (by kernel_rfl),
 .of Tryz.func312 (by kernel_rfl),
 .of Tryz.func313 (by kernel_rfl),
 .of Tryz.func314 (by kernel_rfl),
 .of Tryz.func322 (by kernel_rfl)⟩
theorem ksS : SKs sfS := ⟨.of Tryz.func242 (by kernel_rfl),
 .of Tryz.func273 (by kernel_rfl),
 .of Tryz.func274 (by kernel_rfl),
 .of Tryz.func275 (by kernel_rfl),
 .of Tryz.func276 (by kernel_rfl),
 .of Tryz.func277 (by kernel_rfl),
 .of Tryz.func278 (by kernel_rfl),
 .of Tryz.func280 (by kernel_rfl),
 .of Tryz.func281 (by kernel_rfl),
 .of Tryz.func308 (by kernel_rfl),
 .of Tryz.func309 (by kernel_rfl),
 .of Tryz.func310 (by kernel_rfl),
 .of Tryz.func321 (by kernel_rfl)⟩
end Go.Rip
namespace Go.Rip
open Go
set_option maxRecDepth 100000
variable {GL : Glob}
def SegP (a b : Nat) (l l' : List Int) : Prop := l'.length = l.length /\ l.Perm l' /\ ∀ i, (i < a ∨ b <= i) -> l'[i]? = l[i]?
theorem SegP.refl (a b : Nat) (l : List Int) : SegP a b l l := ⟨rfl, Ei _, fun _ _ => rfl⟩
theorem SegP.trans {a b : Nat} {l l' l'' : List Int} (h : SegP a b l l') (k : SegP a b l' l'') : SegP a b l l'' := ⟨k.1.trans h.1, h.2.1.trans k.2.1, fun i hi => (k.2.2 i hi).trans (h.2.2 i hi)⟩
theorem SegP.mono {a b a' b' : Nat} {l l' : List Int} (h : SegP a b l l') (ha : a' <= a) (hb : b <= b') : SegP a' b' l l' := ⟨h.1, h.2.1, fun i hi => h.2.2 i (by omega)⟩
def swp (l : List Int) (i j : Nat) : List Int := (l.set i (l.getD j 0)).set j (l.getD i 0)
theorem cG (l : List Int) (i j : Nat) : (swp l i j).length = l.length := by simp [swp]
theorem swp_perm {l : List Int} {i j : Nat} (hi : i < l.length) (hj : j < l.length) : l.Perm (swp l i j) := by
 have := List.set_set_perm hi hj
 rw [swp, Bt, Bt, Al hi, Al hj]
 exact this.symm
theorem SegP.swp {a b : Nat} {l : List Int} {i j : Nat} (hi : a <= i /\ i < b) (hj : a <= j /\ j < b) (hb : b <= l.length) : SegP a b l (swp l i j) := by
 refine ⟨cG _ _ _, swp_perm (by omega) (by omega), fun x hx => ?_⟩
 rw [Go.Rip.swp, Au (by omega), Au (by omega)]
theorem h241 (x : Int) : Pure (PC GL) 241 [.i x] (.b false) := by
 refine k241.pure (by simp) (by simp [go_sem]) (by simp [go_sem]) ?_
 simp -implicitDefEqProofs only [c241, r241, go_sem]
 have e : (x != x) = false := by simp
 simp -implicitDefEqProofs only [go_sem, e]
 refine aE ?_ ?_ <;> simp [go_sem]
theorem h298 (x y : Int) : Pure (PC GL) 298 [.i x, .i y] (.b (decide (x < y))) := by
 refine k298.pure (by simp) (by simp [go_sem]) (by simp [go_sem]) ?_
 simp -implicitDefEqProofs only [c298, r298, go_sem]
 refine aC hC (h241 x) ?_
 simp -implicitDefEqProofs only [go_sem, Ax]
 refine aE ?_ ?_ <;> simp [go_sem]
theorem dL {l : List Int} {i : Nat} (hi : i < l.length) : (l.map encI)[i]? = some (.v (.int .i64 (l.getD i 0))) := by simp [Al hi, encI, List.getD]
theorem bnd {i n : Nat} (h : i < n) : bounds (i : Int) n = True := by simp [bounds, h]
theorem aJ (n : Nat) : n.ble n = true := by simp
theorem lY (l : List Int) : (l.map encI).take l.length = l.map encI := Bh (by simp)
structure SrtOk (fS : SF) (eS : Int -> AV) : Prop extends SKs fS where
 less : ∀ {GL : Glob} x y, Pure (PC GL) fS.n298 [eS x, eS y] (.b (decide (x < y)))
 one : ∀ x, (eS x).cells = [eS x]
 sol : ∀ x, (eS x).solid = true
 nag : ∀ x, aggOf (eS x) = none
section
variable {eS : Int -> AV}
theorem aQ {l : List Int} {i : Nat} (hi : i < l.length) : (l.map eS)[i]? = some (eS (l.getD i 0)) := by simp [Al hi, List.getD]
theorem aT (l : List Int) : (l.map eS).take l.length = l.map eS := Bh (by simp)
theorem bK (l : List Int) (i j : Nat) : ((l.map eS).set i (eS (l.getD j 0))).set j (eS (l.getD i 0)) = (swp l i j).map eS := by simp [swp]
theorem bH (l : List Int) (i : Nat) (x : AV) : ((l.map eS).set i x).take l.length = (l.map eS).set i x := Bh (by simp)
theorem bL {l : List Int} {i j : Nat} (hj : j < l.length) (x : Int) : ((l.map eS).set i (eS x))[j]? = some (eS ((l.set i x).getD j 0)) := by
 rw [<- Fs, Bm, Al (by simpa using hj)]
 simp [List.getD, hj]
end
theorem srtI : SrtOk sfI encI := ⟨ksI, h298, fun _ => rfl, fun _ => rfl, fun _ => rfl⟩
theorem cR {l : List Int} {i j : Nat} (hi : i < l.length) (hj : j < l.length) (x : Nat) : (swp l i j).getD x 0 = if x = j then l.getD i 0 else if x = i then l.getD j 0 else l.getD x 0 := by
 simp only [swp, Bt, List.getElem?_set]
 by_cases h1 : x = j
 ·subst h1; simp [hj]
 ·rw [if_neg (fun e => h1 e.symm), if_neg h1]
  by_cases h2 : x = i
  ·subst h2; simp [hi]
  ·rw [if_neg (fun e => h2 e.symm), if_neg h2]
def Srt (a b : Nat) (l : List Int) : Prop := ∀ p q, a <= p -> p < q -> q < b -> l.getD p 0 <= l.getD q 0
def SrtBut (a b j : Nat) (l : List Int) : Prop := ∀ p q, a <= p -> p < q -> q < b -> q ≠ j -> l.getD p 0 <= l.getD q 0
theorem SrtBut.swp {a b j : Nat} {l : List Int} (h : SrtBut a b j l) (hj : a < j) (hjb : j < b) (hb : b <= l.length) (hlt : l.getD j 0 < l.getD (j - 1) 0) : SrtBut a b (j - 1) (swp l j (j - 1)) := by
 intro p q hp hpq hq hne
 have g := cR (l := l) (i := j) (j := j - 1) (by omega) (by omega)
 rw [g p, g q]
 have n1 : ¬ q = j - 1 := hne
 rw [if_neg n1]
 by_cases q1 : q = j
 ·rw [if_pos q1]
  by_cases p1 : p = j - 1
  ·rw [if_pos p1]; omega
  ·rw [if_neg p1, if_neg (by omega)]
   exact h p (j - 1) hp (by omega) (by omega) (by omega)
 ·rw [if_neg q1]
  by_cases p1 : p = j - 1
  ·rw [if_pos p1]
   exact h j q (by omega) (by omega) hq q1
  ·rw [if_neg p1]
   by_cases p2 : p = j
   ·rw [if_pos p2]
    exact h (j - 1) q (by omega) (by omega) hq q1
   ·rw [if_neg p2]
    exact h p q hp hpq hq q1
theorem SrtBut.all {a b j : Nat} {l : List Int} (h : SrtBut a b j l) (hj : a < j -> ¬ l.getD j 0 < l.getD (j - 1) 0) : Srt a b l := by
 intro p q hp hpq hq
 by_cases hq1 : q = j
 ·subst hq1
  have h1 := hj (by omega)
  by_cases p1 : p = q - 1
  ·subst p1; omega
  ·have := h p (q - 1) hp (by omega) (by omega) (by omega)
   omega
 ·exact h p q hp hpq hq hq1
theorem Srt.next {a i : Nat} {l : List Int} (h : Srt a i l) : SrtBut a (i + 1) i l := fun p q hp hpq hq hne => h p q hp hpq (by omega)
theorem h292 {fS : SF} {tS : TypeId} {eS : Int -> AV} (cS : SrtOk fS eS) (l0 : List Int) (a b : Nat) (hb : b <= l0.length) (hl : l0.length < 2 ^ 40) (k : Nat) (h : List AObj) (hk : h[k]? = some (.buf tS 1 (l0.map eS))) (ha : a < 2 ^ 40) :
  Gives (PC GL) fS.n292 [.vec k 1 l0.length, .i a, .i b] h fun _ h' => ∃ l', SegP a b l0 l' /\ Srt a b l' /\ h'[k]? = some (.buf tS 1 (l'.map eS)) /\ Keep (fun i _ => i = k) h h' := by
 have w1 : IntKind.i64.wrap ((a : Int) + 1) = ((a + 1 : Nat) : Int) := by rw [aD _ (by omega)]; simp
 refine cS.k292.gives (by simp) ?_
 simp -implicitDefEqProofs only [go_sem, c292, r292, w1]
 refine aV hC (fun t (_ : List Int) => [(6, .i ((a + 1 + t : Nat) : Int)), (0, .vec k 1 l0.length), (1, .i a), (2, .i b)]) (fun t l h' => SegP a b l0 l /\ h'[k]? = some (.buf tS 1 (l.map eS)) /\ Keep (fun i _ => i = k) h h' /\ Srt a (a + 1 + t) l) (b - (a + 1)) ⟨l0, h, Wk.pick (Ak _) (by simp [go_sem]), SegP.refl _ _ _, hk, Keep.refl _ _, fun p q _ _ _ => by omega⟩ fun t l h1 ht ⟨g1, g2, g3, g4⟩ => ?_
 simp -implicitDefEqProofs only [go_sem]
 refine aK (fun hlt => ?_) (fun hlt => ?_)
 ·have hlt : a + 1 + t < b := by have := Cc hlt; omega
  simp -implicitDefEqProofs only [go_sem]
  refine aV hC (fun u (_ : List Int) => [(7, .i ((a + 1 + t - u : Nat) : Int)), (6, .i ((a + 1 + t : Nat) : Int)), (0, .vec k 1 l0.length), (1, .i a), (2, .i b)]) (fun u l h' => SegP a b l0 l /\ h'[k]? = some (.buf tS 1 (l.map eS)) /\ Keep (fun i _ => i = k) h h' /\ SrtBut a (a + 1 + t + 1) (a + 1 + t - u) l) (1 + t) ⟨l, h1, Wk.pick g3.1 (by simp [go_sem]), g1, g2, g3, g4.next⟩ fun u l h2 hu ⟨g1, g2, g3, g4⟩ => ?_
  simp -implicitDefEqProofs only [go_sem]
  have hlen : l0.length = l.length := g1.1.symm
  have hjb : a + 1 + t - u < l.length := by omega
  have hju : a + 1 + t - (u + 1) = a + 1 + t - u - 1 := by omega
  have hji : a + 1 + t - u < a + 1 + t + 1 := by omega
  have w3 : IntKind.i64.wrap (((a + 1 + t : Nat) : Int) + 1) = ((a + 1 + (t + 1) : Nat) : Int) := by rw [aD _ (by omega)]; omega
  rw [hju]
  by_cases hja : a < a + 1 + t - u
  ·have hu1 : u < 1 + t := by omega
   generalize a + 1 + t - u = j at *
   have d : decide ((j : Int) > (a : Int)) = true := Ac (by omega)
   have w2 : IntKind.i64.wrap ((j : Int) - 1) = ((j - 1 : Nat) : Int) := by rw [aD _ (by omega)]; omega
   have hj1 : j - 1 < l.length := by omega
   have e1 := aQ (eS := eS) hjb
   have e2 := aQ (eS := eS) hj1
   simp -implicitDefEqProofs only [go_sem, d, w2, g2, hlen, bnd hjb, bnd hj1, e1, e2, Af, aJ, Ae, true_and, aT, cS.one]
   refine aC hC (cS.less _ _) ?_
   simp -implicitDefEqProofs only [go_sem]
   refine aK (fun hc => ?_) (fun hc => ?_)
   ·simp -implicitDefEqProofs only [go_sem, w2, g2, bnd hjb, bnd hj1, e1, e2, aG g2, bL (eS := eS) hj1, Af, As, aJ, Ae, true_and, aT, bH, Bg, bK, cS.one, cS.sol, cS.nag]
    exact ⟨hu1, swp l j (j - 1), _, Wk.pick (by simpa using g3.1) (by simp [go_sem]), g1.trans (SegP.swp (by omega) (by omega) (by omega)), aG g2, g3.trans (Keep.set _ g2 rfl), g4.swp hja hji (by omega) (Cc hc)⟩
   ·simp -implicitDefEqProofs only [go_sem, w3]
    exact ⟨by omega, l, h2, Wk.pick g3.1 (by simp [go_sem]), g1, g2, g3, g4.all fun _ => Dq hc⟩
  ·generalize a + 1 + t - u = j at *
   have d : decide ((j : Int) > (a : Int)) = false := Ai (by omega)
   simp -implicitDefEqProofs only [go_sem, d, w3]
   exact ⟨by omega, l, h2, Wk.pick g3.1 (by simp [go_sem]), g1, g2, g3, g4.all fun h => absurd h hja⟩
 ·have hlt : ¬ (a + 1 + t < b) := fun hh => by have := Dq hlt; omega
  simp -implicitDefEqProofs only [go_sem]
  exact aH g3.1 ⟨l, g1, fun p q hp hpq hq => g4 p q hp hpq (by omega), g2, g3⟩
theorem h322 {fS : SF} {tS : TypeId} {eS : Int -> AV} (cS : SrtOk fS eS) (l : List Int) (i j : Nat) (hi : i < l.length) (hj : j < l.length) (k c : Nat) (T : TypeId) (s : Int) (h : List AObj) (hk : h[k]? = some (.buf tS 1 (l.map eS))) (hc : h[c]? = some (.cells T [.v (.int .i64 s)])) :
  Gives (PC GL) fS.n322 [.vec k 1 l.length, .i i, .i j, .ref c 0] h fun x h' => ∃ i' j' : Nat, x = .tup [.i i', .i j'] /\ ((i' = i /\ j' = j) ∨ (i' = j /\ j' = i)) /\ (∃ s', h'[c]? = some (.cells T [.v (.int .i64 s')])) /\ Keep (fun i _ => i = c) h h' := by
 refine cS.k322.gives (by simp) ?_
 have e1 := aQ (eS := eS) hi
 have e2 := aQ (eS := eS) hj
 simp -implicitDefEqProofs only [go_sem, c322, r322, hk, bnd hi, bnd hj, e1, e2, Af, aJ, Ae, true_and, aT, cS.one]
 refine aC hC (cS.less _ _) ?_
 simp -implicitDefEqProofs only [go_sem]
 refine aK (fun hlt => ?_) (fun hlt => ?_)
 ·simp -implicitDefEqProofs only [go_sem, hc]
  exact aH (by simp) ⟨j, i, rfl, .inr ⟨rfl, rfl⟩, ⟨_, aG hc⟩, Keep.set _ hc rfl⟩
 ·simp -implicitDefEqProofs only [go_sem]
  exact aH (Ak _) ⟨i, j, rfl, .inl ⟨rfl, rfl⟩, ⟨_, hc⟩, Keep.refl _ _⟩
theorem h314 {fS : SF} {tS : TypeId} {eS : Int -> AV} (cS : SrtOk fS eS) (l : List Int) (i j m : Nat) (hi : i < l.length) (hj : j < l.length) (hm : m < l.length) (k c : Nat) (T : TypeId) (s : Int) (h : List AObj) (hk : h[k]? = some (.buf tS 1 (l.map eS))) (hc : h[c]? = some (.cells T [.v (.int .i64 s)])) :
  Gives (PC GL) fS.n314 [.vec k 1 l.length, .i i, .i j, .i m, .ref c 0] h fun x h' => ∃ p : Nat, x = .i p /\ (p = i ∨ p = j ∨ p = m) /\ (∃ s', h'[c]? = some (.cells T [.v (.int .i64 s')])) /\ Keep (fun i _ => i = c) h h' := by
 have hkc : k ≠ c := by rintro rfl; rw [hk] at hc; cases hc
 refine cS.k314.gives (by simp) ?_
 simp -implicitDefEqProofs only [go_sem, c314, r314]
 refine aI hC (h322 cS l i j hi hj k c T s h hk hc) fun x h1 ⟨i1, j1, hx, q, ⟨s1, c1⟩, k1⟩ => ?_
 subst hx
 have hk1 := k1.get hk hkc
 have b1 : i1 < l.length /\ j1 < l.length := by omega
 simp -implicitDefEqProofs only [go_sem]
 refine aI hC (h322 cS l j1 m b1.2 hm k c T s1 h1 hk1 c1) fun x h2 ⟨j2, m2, hx, q2, ⟨s2, c2⟩, k2⟩ => ?_
 subst hx
 have hk2 := k2.get hk1 hkc
 have b2 : j2 < l.length := by omega
 simp -implicitDefEqProofs only [go_sem]
 refine aI hC (h322 cS l i1 j2 b1.1 b2 k c T s2 h2 hk2 c2) fun x h3 ⟨i3, j3, hx, q3, ⟨s3, c3⟩, k3⟩ => ?_
 subst hx
 simp -implicitDefEqProofs only [go_sem]
 have kk := (k1.trans k2).trans k3
 refine aH kk.1 ⟨j3, rfl, ?_, ⟨s3, c3⟩, kk⟩
 omega
theorem h313 {fS : SF} {tS : TypeId} {eS : Int -> AV} (cS : SrtOk fS eS) (l : List Int) (i : Nat) (hi : 0 < i /\ i + 1 < l.length) (hl : l.length < 2 ^ 40) (k c : Nat) (T : TypeId) (s : Int) (h : List AObj) (hk : h[k]? = some (.buf tS 1 (l.map eS))) (hc : h[c]? = some (.cells T [.v (.int .i64 s)])) :
  Gives (PC GL) fS.n313 [.vec k 1 l.length, .i i, .ref c 0] h fun x h' => ∃ p : Nat, x = .i p /\ (i - 1 <= p /\ p <= i + 1) /\ (∃ s', h'[c]? = some (.cells T [.v (.int .i64 s')])) /\ Keep (fun i _ => i = c) h h' := by
 have w1 : IntKind.i64.wrap ((i : Int) - 1) = ((i - 1 : Nat) : Int) := by rw [aD _ (by omega)]; omega
 have w2 : IntKind.i64.wrap ((i : Int) + 1) = ((i + 1 : Nat) : Int) := by rw [aD _ (by omega)]; omega
 refine cS.k313.gives (by simp) ?_
 simp -implicitDefEqProofs only [go_sem, c313, r313, w1, w2]
 refine aI hC (h314 cS l (i - 1) i (i + 1) (by omega) (by omega) (by omega) k c T s h hk hc) fun x h1 ⟨p, hx, q, c1, k1⟩ => ?_
 subst hx
 simp -implicitDefEqProofs only [go_sem]
 exact aH k1.1 ⟨p, rfl, by omega, c1, k1⟩
theorem h296 {fS : SF} {tS : TypeId} {eS : Int -> AV} (cS : SrtOk fS eS) (l0 : List Int) (a b : Nat) (hab : a < b) (hb : b <= l0.length) (hl : l0.length < 2 ^ 40) (k : Nat) (h : List AObj) (hk : h[k]? = some (.buf tS 1 (l0.map eS))) :
  Gives (PC GL) fS.n296 [.vec k 1 l0.length, .i a, .i b] h fun _ h' => ∃ l', SegP a b l0 l' /\ h'[k]? = some (.buf tS 1 (l'.map eS)) /\ Keep (fun i _ => i = k) h h' := by
 have w1 : IntKind.i64.wrap ((b : Int) - 1) = ((b - 1 - 0 : Nat) : Int) := by rw [aD _ (by omega)]; omega
 refine cS.k296.gives (by simp) ?_
 simp -implicitDefEqProofs only [go_sem, c296, r296, w1]
 refine aV hC (fun t (_ : List Int) => [(6, .i ((a + t : Nat) : Int)), (7, .i ((b - 1 - t : Nat) : Int)), (0, .vec k 1 l0.length)]) (fun t l h' => SegP a b l0 l /\ h'[k]? = some (.buf tS 1 (l.map eS)) /\ Keep (fun i _ => i = k) h h') (b - 1 - a) ⟨l0, h, Wk.pick (Ak _) (by simp [go_sem]), SegP.refl _ _ _, hk, Keep.refl _ _⟩ fun t l h1 ht ⟨g1, g2, g3⟩ => ?_
 simp -implicitDefEqProofs only [go_sem]
 have hlen : l0.length = l.length := g1.1.symm
 refine aK (fun hlt => ?_) (fun hlt => ?_)
 ·have hlt : a + t < b - 1 - t := by have := Cc hlt; omega
  have w2 : IntKind.i64.wrap (((a + t : Nat) : Int) + 1) = ((a + (t + 1) : Nat) : Int) := by rw [aD _ (by omega)]; omega
  have w3 : IntKind.i64.wrap (((b - 1 - t : Nat) : Int) - 1) = ((b - 1 - (t + 1) : Nat) : Int) := by rw [aD _ (by omega)]; omega
  have hi : a + t < l.length := by omega
  have hj : b - 1 - t < l.length := by omega
  have ht1 : t < b - 1 - a := by omega
  have hsw := SegP.swp (l := l) (a := a) (b := b) (i := a + t) (j := b - 1 - t) (by omega) (by omega) (by omega)
  generalize hp : a + t = p at *
  generalize hq : b - 1 - t = q at *
  have e1 := aQ (eS := eS) hi
  have e2 := aQ (eS := eS) hj
  simp -implicitDefEqProofs only [go_sem, g2, hlen, bnd hi, bnd hj, e1, e2, aG g2, bL (eS := eS) hj, w2, w3, Af, As, aJ, Ae, true_and, aT, bH, Bg, bK, cS.one, cS.sol, cS.nag]
  exact ⟨ht1, swp l p q, _, Wk.pick (by simpa using g3.1) (by simp [go_sem]), g1.trans hsw, aG g2, g3.trans (Keep.set _ g2 rfl)⟩
 ·simp -implicitDefEqProofs only [go_sem]
  exact aH g3.1 ⟨l, g1, g2, g3⟩
theorem h295 {fS : SF} {tS : TypeId} {eS : Int -> AV} (cS : SrtOk fS eS) (l : List Int) (a b : Nat) (hab : a + 12 < b) (hb : b <= l.length) (hl : l.length < 2 ^ 40) (k : Nat) (h : List AObj) (hk : h[k]? = some (.buf tS 1 (l.map eS))) :
  Gives (PC GL) fS.n295 [.vec k 1 l.length, .i a, .i b] h fun x h' => ∃ (p : Nat) (z : Int), x = .tup [.i p, .i z] /\ (a <= p /\ p < b) /\ Keep All h h' := by
 obtain ⟨L, hL⟩ : ∃ L : Nat, L = b - a := ⟨_, rfl⟩
 have wL : IntKind.i64.wrap ((b : Int) - (a : Int)) = (L : Int) := by rw [aD _ (by omega)]; omega
 have wq : IntKind.i64.wrap (Int.tdiv (L : Int) 4) = ((L / 4 : Nat) : Int) := by
  rw [show Int.tdiv (L : Int) 4 = ((L / 4 : Nat) : Int) from by rw [Dg (by omega)]; omega]
  exact aD _ (by omega)
 have wm : ∀ n : Nat, n <= 3 -> IntKind.i64.wrap (((L / 4 : Nat) : Int) * (n : Int)) = ((L / 4 * n : Nat) : Int) := fun n hn => by
  have : L / 4 * n <= L / 4 * 3 := Es _ hn
  have e : ((L / 4 : Nat) : Int) * (n : Int) = ((L / 4 * n : Nat) : Int) := by rw [Int.natCast_mul]
  rw [e]; exact aD _ (by omega)
 have wa : ∀ n : Nat, n <= 3 -> IntKind.i64.wrap ((a : Int) + ((L / 4 * n : Nat) : Int)) = ((a + L / 4 * n : Nat) : Int) := fun n hn => by
  have : L / 4 * n <= L / 4 * 3 := Es _ hn
  rw [aD _ (by omega)]; omega
 have m1 := wm 1 (by omega)
 have m2 := wm 2 (by omega)
 have m3 := wm 3 (by omega)
 have a1 := wa 1 (by omega)
 have a2 := wa 2 (by omega)
 have a3 := wa 3 (by omega)
 simp only [Int.cast_ofNat_Int] at m1 m2 m3
 have d8 : decide ((L : Int) >= 8) = true := Ac (by omega)
 generalize hi1 : a + L / 4 * 1 = i1 at *
 generalize hi2 : a + L / 4 * 2 = i2 at *
 generalize hi3 : a + L / 4 * 3 = i3 at *
 refine cS.k295.gives (by simp) ?_
 simp -implicitDefEqProofs only [go_sem, c295, r295, wL, wq, show ((4 : Int) = 0) = False from by simp, if_false]
 have bi1 : a <= i1 /\ i1 < b := by omega
 have bi2 : a <= i2 /\ i2 < b := by omega
 have bi3 : a <= i3 /\ i3 < b := by omega
 simp -implicitDefEqProofs only [go_sem, d8, m1, m2, m3, a1, a2, a3]
 have kk0 : Keep All h (h ++ [.cells 3 [.v (.int .i64 0)]]) := Keep.app _ _ _
 have hk0 : (h ++ [AObj.cells 3 [.v (.int .i64 0)]])[k]? = some (.buf tS 1 (l.map eS)) := aF hk
 have hc0 : (h ++ [AObj.cells 3 [.v (.int .i64 0)]])[h.length]? = some (.cells 3 [.v (.int .i64 0)]) := by rw [cP]; rfl
 have hkc : k ≠ h.length := by have := aW hk; omega
 generalize hh0 : h ++ [AObj.cells 3 [.v (.int .i64 0)]] = g0 at kk0 hk0 hc0 ⊢
 by_cases h50 : 50 <= L
 ·have d50 : decide ((L : Int) >= 50) = true := Ac (by omega)
  simp -implicitDefEqProofs only [go_sem, d50]
  refine aI hC (h313 cS l i1 (by omega) hl k h.length 3 0 g0 hk0 hc0) fun x g1 ⟨j1, hx, hj1, ⟨s1, c1⟩, k1⟩ => ?_
  subst hx
  have hk1 := k1.get hk0 hkc
  simp -implicitDefEqProofs only [go_sem]
  refine aI hC (h313 cS l i2 (by omega) hl k h.length 3 s1 g1 hk1 c1) fun x g2 ⟨j2, hx, hj2, ⟨s2, c2⟩, k2⟩ => ?_
  subst hx
  have hk2 := k2.get hk1 hkc
  simp -implicitDefEqProofs only [go_sem]
  refine aI hC (h313 cS l i3 (by omega) hl k h.length 3 s2 g2 hk2 c2) fun x g3 ⟨j3, hx, hj3, ⟨s3, c3⟩, k3⟩ => ?_
  subst hx
  have hk3 := k3.get hk2 hkc
  have kk3 : Keep All h g3 := kk0.trans' ((k1.trans k2).trans k3) fun i o hi e => by have := aW hi; omega
  clear k1 k2 k3 c1 c2 hk1 hk2 kk0
  have bj1 : a <= j1 /\ j1 < b := by omega
  have bj2 : a <= j2 /\ j2 < b := by omega
  have bj3 : a <= j3 /\ j3 < b := by omega
  clear bi1 bi2 bi3 a1 a2 a3 hi1 hi2 hi3 hj1 hj2 hj3
  simp -implicitDefEqProofs only [go_sem]
  revert bj1 bj2 bj3 kk3 hk3 c3
  generalize j1 = i1; generalize j2 = i2; generalize j3 = i3; generalize g3 = h1; generalize s3 = s1
  intro hc1 hk1 kk1 bi1 bi2 bi3
  refine aI hC (h314 cS l i1 i2 i3 (by omega) (by omega) (by omega) k h.length 3 s1 h1 hk1 hc1) fun x h2 ⟨p, hx, hp, ⟨s2, hc2⟩, k2⟩ => ?_
  subst hx
  have kk : Keep All h h2 := kk1.trans' k2 fun i o hi e => by have := aW hi; omega
  have hpb : a <= p /\ p < b := by omega
  simp -implicitDefEqProofs only [go_sem, hc2]
  by_cases z0 : s2 = 0
  ·have d0 : (s2 == 0) = true := by simpa using z0
   simp -implicitDefEqProofs only [go_sem, d0]
   exact aH kk.1 ⟨p, 1, rfl, hpb, kk⟩
  have d0 : (s2 == 0) = false := by simpa using z0
  by_cases z1 : s2 = 12
  ·have d1 : (s2 == 12) = true := by simpa using z1
   simp -implicitDefEqProofs only [go_sem, d0, d1]
   exact aH kk.1 ⟨p, 2, rfl, hpb, kk⟩
  have d1 : (s2 == 12) = false := by simpa using z1
  simp -implicitDefEqProofs only [go_sem, d0, d1]
  exact aH kk.1 ⟨p, 0, rfl, hpb, kk⟩
 ·have d50 : decide ((L : Int) >= 50) = false := Ai (by omega)
  simp -implicitDefEqProofs only [go_sem, d50]
  have hk1 := hk0
  have hc1 := hc0
  have kk1 := kk0
  obtain ⟨s1, hs1⟩ : ∃ s1 : Int, s1 = 0 := ⟨0, rfl⟩
  rw [<- hs1] at hc1
  generalize g0 = h1 at *
  refine aI hC (h314 cS l i1 i2 i3 (by omega) (by omega) (by omega) k h.length 3 s1 h1 hk1 hc1) fun x h2 ⟨p, hx, hp, ⟨s2, hc2⟩, k2⟩ => ?_
  subst hx
  have kk : Keep All h h2 := kk1.trans' k2 fun i o hi e => by have := aW hi; omega
  have hpb : a <= p /\ p < b := by omega
  simp -implicitDefEqProofs only [go_sem, hc2]
  by_cases z0 : s2 = 0
  ·have d0 : (s2 == 0) = true := by simpa using z0
   simp -implicitDefEqProofs only [go_sem, d0]
   exact aH kk.1 ⟨p, 1, rfl, hpb, kk⟩
  have d0 : (s2 == 0) = false := by simpa using z0
  by_cases z1 : s2 = 12
  ·have d1 : (s2 == 12) = true := by simpa using z1
   simp -implicitDefEqProofs only [go_sem, d0, d1]
   exact aH kk.1 ⟨p, 2, rfl, hpb, kk⟩
  have d1 : (s2 == 12) = false := by simpa using z1
  simp -implicitDefEqProofs only [go_sem, d0, d1]
  exact aH kk.1 ⟨p, 0, rfl, hpb, kk⟩
def Kid (i c : Nat) : Prop := c = 2 * i + 1 ∨ c = 2 * i + 2
def Heap (lo hi f : Nat) (l : List Int) : Prop := ∀ i c, lo <= i -> Kid i c -> c < hi -> l.getD (f + c) 0 <= l.getD (f + i) 0
def HeapBut (lo hi f r : Nat) (l : List Int) : Prop := (∀ i c, lo <= i -> i ≠ r -> Kid i c -> c < hi -> l.getD (f + c) 0 <= l.getD (f + i) 0) /\ ∀ p c, lo <= p -> Kid p r -> Kid r c -> c < hi -> l.getD (f + c) 0 <= l.getD (f + p) 0
theorem HeapBut.start {lo hi f : Nat} {l : List Int} (h : Heap (lo + 1) hi f l) : HeapBut lo hi f lo l :=
 ⟨fun i c h1 h2 h3 h4 => h i c (by omega) h3 h4, fun p c h1 h2 _ _ => by unfold Kid at h2; omega⟩
theorem HeapBut.done {lo hi f r : Nat} {l : List Int} (h : HeapBut lo hi f r l) (hr : ∀ c, Kid r c -> c < hi -> l.getD (f + c) 0 <= l.getD (f + r) 0) : Heap lo hi f l := fun i c h1 h2 h3 => by
 by_cases e : i = r
 ·subst e; exact hr c h2 h3
 ·exact h.1 i c h1 e h2 h3
theorem HeapBut.step {lo hi f r m : Nat} {l : List Int} (h : HeapBut lo hi f r l) (hr : lo <= r) (hm : Kid r m) (hmi : m < hi) (hb : f + hi <= l.length) (hlt : l.getD (f + r) 0 < l.getD (f + m) 0) (hmax : ∀ c, Kid r c -> c < hi -> l.getD (f + c) 0 <= l.getD (f + m) 0) :
  HeapBut lo hi f m (swp l (f + r) (f + m)) := by
 have hrm : r < m := by unfold Kid at hm; omega
 have g := cR (l := l) (i := f + r) (j := f + m) (by omega) (by omega)
 have gr : (swp l (f + r) (f + m)).getD (f + r) 0 = l.getD (f + m) 0 := by rw [g, if_neg (by omega), if_pos rfl]
 have gm : (swp l (f + r) (f + m)).getD (f + m) 0 = l.getD (f + r) 0 := by rw [g, if_pos rfl]
 have go : ∀ x, x ≠ r -> x ≠ m -> (swp l (f + r) (f + m)).getD (f + x) 0 = l.getD (f + x) 0 := fun x h1 h2 => by rw [g, if_neg (by omega), if_neg (by omega)]
 refine ⟨fun i c h1 h2 h3 h4 => ?_, fun p c h1 h2 h3 h4 => ?_⟩
 ·by_cases ei : i = r
  ·subst ei
   rw [gr]
   by_cases ec : c = m
   ·subst ec; rw [gm]; omega
   ·rw [go c (by unfold Kid at h3; omega) ec]
    exact hmax c h3 h4
  ·rw [go i ei h2]
   by_cases ec : c = r
   ·subst ec; rw [gr]; exact h.2 i m h1 h3 hm hmi
   ·have ec2 : c ≠ m := by unfold Kid at h3 hm; omega
    rw [go c ec ec2]
    exact h.1 i c h1 ei h3 h4
 ·have ep : p = r := by unfold Kid at h2 hm; omega
  subst ep
  rw [gr, go c (by unfold Kid at h3; omega) (by unfold Kid at h3; omega)]
  exact h.1 m c (by omega) (by omega) h3 h4
theorem heap_max {hi f : Nat} {l : List Int} (h : Heap 0 hi f l) : ∀ i, i < hi -> l.getD (f + i) 0 <= l.getD f 0 := by
 intro i
 induction i using Nat.strongRecOn with
 | _ i ih =>
 intro hi'
 by_cases e : i = 0
 ·subst e; simp
 ·have h1 := h ((i - 1) / 2) i (by omega) (by unfold Kid; omega) hi'
  have h2 := ih ((i - 1) / 2) (by omega) (by omega)
  omega
theorem h312 {fS : SF} {tS : TypeId} {eS : Int -> AV} (cS : SrtOk fS eS) (l0 : List Int) (lo hi f : Nat) (hb : f + hi <= l0.length) (hl : l0.length < 2 ^ 40) (hlo : lo < 2 ^ 40) (hh : Heap (lo + 1) hi f l0) (k : Nat) (h : List AObj) (hk : h[k]? = some (.buf tS 1 (l0.map eS))) :
  Gives (PC GL) fS.n312 [.vec k 1 l0.length, .i lo, .i hi, .i f] h fun _ h' => ∃ l', SegP f (f + hi) l0 l' /\ Heap lo hi f l' /\ h'[k]? = some (.buf tS 1 (l'.map eS)) /\ Keep (fun i _ => i = k) h h' := by
 refine cS.k312.gives (by simp) ?_
 simp -implicitDefEqProofs only [go_sem, c312, r312]
 refine aV hC (fun t (a : List Int × Nat) => [(8, .i (a.2 : Nat)), (0, .vec k 1 l0.length), (2, .i hi), (3, .i f)]) (fun t a h' => SegP f (f + hi) l0 a.1 /\ HeapBut lo hi f a.2 a.1 /\ h'[k]? = some (.buf tS 1 (a.1.map eS)) /\ Keep (fun i _ => i = k) h h' /\ lo + t <= a.2 /\ a.2 < 2 ^ 40) (hi - lo) ⟨(l0, lo), h, Wk.pick (Ak _) (by simp [go_sem]), SegP.refl _ _ _, HeapBut.start hh, hk, Keep.refl _ _, Ak _, hlo⟩ fun t a h1 ht ⟨g1, g2, g3, g4, g5, g6⟩ => ?_
 obtain ⟨l, r⟩ := a
 dsimp only at g1 g2 g3 g5 g6
 have hlen : l0.length = l.length := g1.1.symm
 have w1 : IntKind.i64.wrap (2 * (r : Int)) = ((2 * r : Nat) : Int) := by rw [aD _ (by omega)]; omega
 have w2 : IntKind.i64.wrap (((2 * r : Nat) : Int) + 1) = ((2 * r + 1 : Nat) : Int) := by rw [aD _ (by omega)]; omega
 have w3 : IntKind.i64.wrap (((2 * r + 1 : Nat) : Int) + 1) = ((2 * r + 2 : Nat) : Int) := by rw [aD _ (by omega)]; omega
 have wf : ∀ x : Nat, x < 2 ^ 42 -> IntKind.i64.wrap ((f : Int) + (x : Int)) = ((f + x : Nat) : Int) := fun x hx => by rw [aD _ (by omega)]; omega
 have wr := wf r (by omega)
 have wc1 := wf (2 * r + 1) (by omega)
 have wc2 := wf (2 * r + 2) (by omega)
 have wc3 : IntKind.i64.wrap (((f + (2 * r + 1) : Nat) : Int) + 1) = ((f + (2 * r + 2) : Nat) : Int) := by rw [aD _ (by omega)]; omega
 simp -implicitDefEqProofs only [go_sem, w1, w2]
 by_cases hch : 2 * r + 1 >= hi
 ·have d1 : decide (((2 * r + 1 : Nat) : Int) >= (hi : Int)) = true := Ac (by omega)
  simp -implicitDefEqProofs only [go_sem, d1]
  exact aH g4.1 ⟨l, g1, g2.done fun c hc hci => by unfold Kid at hc; omega, g3, g4⟩
 have d1 : decide (((2 * r + 1 : Nat) : Int) >= (hi : Int)) = false := Ai (by omega)
 have er := aQ (eS := eS) (l := l) (i := f + r) (by omega)
 have ec1 := aQ (eS := eS) (l := l) (i := f + (2 * r + 1)) (by omega)
 have br := bnd (i := f + r) (n := l.length) (by omega)
 have bc1 := bnd (i := f + (2 * r + 1)) (n := l.length) (by omega)
 simp -implicitDefEqProofs only [go_sem, d1, w3]
 by_cases hc2 : 2 * r + 2 < hi
 ·have d2 : decide (((2 * r + 2 : Nat) : Int) < (hi : Int)) = true := Ac (by omega)
  have ec2 := aQ (eS := eS) (l := l) (i := f + (2 * r + 2)) (by omega)
  have bc2 := bnd (i := f + (2 * r + 2)) (n := l.length) (by omega)
  simp -implicitDefEqProofs only [go_sem, d2, wc1, wc3, g3, hlen, bc1, bc2, ec1, ec2, Af, aJ, Ae, true_and, aT, cS.one]
  refine aC hC (cS.less _ _) ?_
  simp -implicitDefEqProofs only [go_sem]
  by_cases hlc : l.getD (f + (2 * r + 1)) 0 < l.getD (f + (2 * r + 2)) 0
  ·have d3 := Ac hlc
   simp -implicitDefEqProofs only [go_sem, d3, w3]
   obtain ⟨m, hmd⟩ : ∃ m, m = 2 * r + 2 := ⟨_, rfl⟩
   have hm : Kid r m := .inr hmd
   have hmi : m < hi := by omega
   have hmax : ∀ c, Kid r c -> c < hi -> l.getD (f + c) 0 <= l.getD (f + m) 0 := fun c hc _ => by
    subst hmd
    rcases hc with rfl | rfl
    ·omega
    ·exact Da _
   simp only [<- hmd]
   have em := aQ (eS := eS) (l := l) (i := f + m) (by omega)
   have bm := bnd (i := f + m) (n := l.length) (by omega)
   have wm := wf m (by omega)
   have hml : f + m < l.length := by omega
   simp -implicitDefEqProofs only [go_sem, wr, wm, g3, br, bm, er, em, Af, aJ, Ae, true_and, aT, cS.one]
   refine aC hC (cS.less _ _) ?_
   simp -implicitDefEqProofs only [go_sem]
   by_cases hlt : l.getD (f + r) 0 < l.getD (f + m) 0
   ·have d := Ac hlt
    simp -implicitDefEqProofs only [go_sem, d, Av, wr, wm, g3, br, bm, er, em, aG g3, bL (eS := eS) hml, Af, As, aJ, Ae, true_and, aT, bH, Bg, bK, cS.one, cS.sol, cS.nag]
    exact ⟨by omega, (swp l (f + r) (f + m), m), _, Wk.pick (by simpa using g4.1) (by simp [go_sem]), g1.trans (SegP.swp (by omega) (by omega) (by omega)), g2.step (by omega) hm hmi (by omega) hlt hmax, aG g3, g4.trans (Keep.set _ g3 rfl), by dsimp only; unfold Kid at hm; omega, by dsimp only; omega⟩
   ·have d := Ai hlt
    simp -implicitDefEqProofs only [go_sem, d, Ax]
    exact aH g4.1 ⟨l, g1, g2.done fun c hc hci => by have := hmax c hc hci; omega, g3, g4⟩
  ·have d3 := Ai hlc
   simp -implicitDefEqProofs only [go_sem, d3]
   obtain ⟨m, hmd⟩ : ∃ m, m = 2 * r + 1 := ⟨_, rfl⟩
   have hm : Kid r m := .inl hmd
   have hmi : m < hi := by omega
   have hmax : ∀ c, Kid r c -> c < hi -> l.getD (f + c) 0 <= l.getD (f + m) 0 := fun c hc _ => by
    subst hmd
    rcases hc with rfl | rfl
    ·exact Da _
    ·omega
   simp only [<- hmd]
   have em := aQ (eS := eS) (l := l) (i := f + m) (by omega)
   have bm := bnd (i := f + m) (n := l.length) (by omega)
   have wm := wf m (by omega)
   have hml : f + m < l.length := by omega
   simp -implicitDefEqProofs only [go_sem, wr, wm, g3, br, bm, er, em, Af, aJ, Ae, true_and, aT, cS.one]
   refine aC hC (cS.less _ _) ?_
   simp -implicitDefEqProofs only [go_sem]
   by_cases hlt : l.getD (f + r) 0 < l.getD (f + m) 0
   ·have d := Ac hlt
    simp -implicitDefEqProofs only [go_sem, d, Av, wr, wm, g3, br, bm, er, em, aG g3, bL (eS := eS) hml, Af, As, aJ, Ae, true_and, aT, bH, Bg, bK, cS.one, cS.sol, cS.nag]
    exact ⟨by omega, (swp l (f + r) (f + m), m), _, Wk.pick (by simpa using g4.1) (by simp [go_sem]), g1.trans (SegP.swp (by omega) (by omega) (by omega)), g2.step (by omega) hm hmi (by omega) hlt hmax, aG g3, g4.trans (Keep.set _ g3 rfl), by dsimp only; unfold Kid at hm; omega, by dsimp only; omega⟩
   ·have d := Ai hlt
    simp -implicitDefEqProofs only [go_sem, d, Ax]
    exact aH g4.1 ⟨l, g1, g2.done fun c hc hci => by have := hmax c hc hci; omega, g3, g4⟩
 ·have d2 : decide (((2 * r + 2 : Nat) : Int) < (hi : Int)) = false := Ai (by omega)
  simp -implicitDefEqProofs only [go_sem, d2]
  obtain ⟨m, hmd⟩ : ∃ m, m = 2 * r + 1 := ⟨_, rfl⟩
  have hm : Kid r m := .inl hmd
  have hmi : m < hi := by omega
  have hmax : ∀ c, Kid r c -> c < hi -> l.getD (f + c) 0 <= l.getD (f + m) 0 := fun c hc hci => by
   subst hmd
   rcases hc with rfl | rfl
   ·exact Da _
   ·omega
  simp only [<- hmd]
  have em := aQ (eS := eS) (l := l) (i := f + m) (by omega)
  have bm := bnd (i := f + m) (n := l.length) (by omega)
  have wm := wf m (by omega)
  have hml : f + m < l.length := by omega
  simp -implicitDefEqProofs only [go_sem, wr, wm, g3, hlen, br, bm, er, em, Af, aJ, Ae, true_and, aT, cS.one]
  refine aC hC (cS.less _ _) ?_
  simp -implicitDefEqProofs only [go_sem]
  by_cases hlt : l.getD (f + r) 0 < l.getD (f + m) 0
  ·have d := Ac hlt
   simp -implicitDefEqProofs only [go_sem, d, Av, wr, wm, g3, br, bm, er, em, aG g3, bL (eS := eS) hml, Af, As, aJ, Ae, true_and, aT, bH, Bg, bK, cS.one, cS.sol, cS.nag]
   exact ⟨by omega, (swp l (f + r) (f + m), m), _, Wk.pick (by simpa using g4.1) (by simp [go_sem]), g1.trans (SegP.swp (by omega) (by omega) (by omega)), g2.step (by omega) hm hmi (by omega) hlt hmax, aG g3, g4.trans (Keep.set _ g3 rfl), by dsimp only; unfold Kid at hm; omega, by dsimp only; omega⟩
  ·have d := Ai hlt
   simp -implicitDefEqProofs only [go_sem, d, Ax]
   exact aH g4.1 ⟨l, g1, g2.done fun c hc hci => by have := hmax c hc hci; omega, g3, g4⟩
theorem SegP.mem {a b : Nat} {l l' : List Int} (h : SegP a b l l') (hb : b <= l.length) {x : Nat} (hx : a <= x /\ x < b) : ∃ y, (a <= y /\ y < b) /\ l'.getD x 0 = l.getD y 0 := by
 obtain ⟨h1, h2, h3⟩ := h
 have e1 : l'.take a = l.take a := Dz fun i => by
  rw [Cd, Cd]
  split
  ·exact h3 i (by omega)
  ·rfl
 have e2 : l'.drop b = l.drop b := Dz fun i => by
  rw [Co, Co]
  exact h3 _ (by omega)
 have split3 : ∀ m : List Int, m = m.take a ++ ((m.drop a).take (b - a) ++ m.drop b) := fun m => by
  rw [show m.drop b = (m.drop a).drop (b - a) by rw [Gu]; congr 1; omega, Cs, Cs]
 have hp : ((l.drop a).take (b - a)).Perm ((l'.drop a).take (b - a)) := by
  rw [split3 l, split3 l', e1, e2] at h2
  exact (List.perm_append_right_iff _).1 ((List.perm_append_left_iff _).1 h2)
 have hm : l'.getD x 0 ∈ (l'.drop a).take (b - a) := by
  rw [Bt, Al (by omega : x < l'.length)]
  refine Fu.2 ⟨x - a, by simp; omega, ?_⟩
  rw [List.getElem_drop]
  simp only [Cy]
  congr 1; omega
 obtain ⟨i, hi, he⟩ := Fu.1 (hp.mem_iff.2 hm)
 simp only [Et] at hi
 refine ⟨a + i, by omega, ?_⟩
 rw [<- he, List.getElem_drop, Bt, Al (by omega : a + i < l.length)]
 rfl
theorem SegP.same {a b : Nat} {l l' : List Int} (h : SegP a b l l') {x : Nat} (hx : x < a ∨ b <= x) : l'.getD x 0 = l.getD x 0 := by
 rw [Bt, Bt, h.2.2 x hx]
def Popped (n hi f : Nat) (l : List Int) : Prop := Heap 0 n f l /\ Srt (f + n) (f + hi) l /\ ∀ x y, x < n -> n <= y -> y < hi -> l.getD (f + x) 0 <= l.getD (f + y) 0
theorem Heap.swp {i f : Nat} {l : List Int} (h : Heap 0 (i + 1) f l) (hb : f + i < l.length) : Heap 1 i f (swp l f (f + i)) := fun j c h1 h2 h3 => by
 have g := cR (l := l) (i := f) (j := f + i) (by omega) hb
 have : j < c := by unfold Kid at h2; omega
 rw [g, g, if_neg (by omega), if_neg (by omega), if_neg (by omega), if_neg (by omega)]
 exact h j c (by omega) h2 (by omega)
theorem Popped.step {i hi f : Nat} {l l2 : List Int} (h : Popped (i + 1) hi f l) (hi1 : i < hi) (hb : f + hi <= l.length) (hs : SegP f (f + i) (swp l f (f + i)) l2) (hh : Heap 0 i f l2) : Popped i hi f l2 := by
 obtain ⟨h1, h2, h3⟩ := h
 have g := cR (l := l) (i := f) (j := f + i) (by omega) (by omega)
 have mx := heap_max h1
 have ei : l2.getD (f + i) 0 = l.getD f 0 := by rw [hs.same (by omega), g, if_pos rfl]
 have ey : ∀ y, i < y -> l2.getD (f + y) 0 = l.getD (f + y) 0 := fun y hy => by rw [hs.same (by omega), g, if_neg (by omega), if_neg (by omega)]
 have ex : ∀ x, x < i -> ∃ z, z <= i /\ l2.getD (f + x) 0 = l.getD (f + z) 0 := fun x hx => by
  obtain ⟨y, hy, e⟩ := hs.mem (by rw [cG]; omega) (x := f + x) (by omega)
  rw [e, g, if_neg (by omega)]
  by_cases hyf : y = f
  ·rw [if_pos hyf]; exact ⟨i, Ak _, rfl⟩
  ·rw [if_neg hyf]; exact ⟨y - f, by omega, by congr 1; omega⟩
 have lei : ∀ y, i < y -> y < hi -> l.getD f 0 <= l.getD (f + y) 0 := fun y hy1 hy2 => by have := h3 0 y (by omega) (by omega) hy2; simpa using this
 refine ⟨hh, fun p q hp hpq hq => ?_, fun x y hx hy hyh => ?_⟩
 ·obtain ⟨p', rfl⟩ : ∃ p', p = f + p' := ⟨p - f, by omega⟩
  obtain ⟨q', rfl⟩ : ∃ q', q = f + q' := ⟨q - f, by omega⟩
  rw [ey q' (by omega)]
  by_cases e : p' = i
  ·subst e; rw [ei]; exact lei q' (by omega) (by omega)
  ·rw [ey p' (by omega)]; exact h2 _ _ (by omega) hpq hq
 ·obtain ⟨z, hz, e⟩ := ex x hx
  rw [e]
  by_cases e2 : y = i
  ·subst e2; rw [ei]; exact mx z (by omega)
  ·rw [ey y (by omega)]; exact h3 z y (by omega) (by omega) hyh
theorem h293 {fS : SF} {tS : TypeId} {eS : Int -> AV} (cS : SrtOk fS eS) (l0 : List Int) (a b : Nat) (hab : a < b) (hb : b <= l0.length) (hl : l0.length < 2 ^ 40) (k : Nat) (h : List AObj) (hk : h[k]? = some (.buf tS 1 (l0.map eS))) :
  Gives (PC GL) fS.n293 [.vec k 1 l0.length, .i a, .i b] h fun _ h' => ∃ l', SegP a b l0 l' /\ Srt a b l' /\ h'[k]? = some (.buf tS 1 (l'.map eS)) /\ Keep (fun i _ => i = k) h h' := by
 obtain ⟨n, rfl⟩ : ∃ n, b = a + (n + 1) := ⟨b - a - 1, by omega⟩
 have w1 : IntKind.i64.wrap (((a + (n + 1) : Nat) : Int) - (a : Int)) = ((n + 1 : Nat) : Int) := by rw [aD _ (by omega)]; omega
 have w2 : IntKind.i64.wrap (((n + 1 : Nat) : Int) - 1) = (n : Int) := by rw [aD _ (by omega)]; omega
 have w3 : IntKind.i64.wrap (Int.tdiv (n : Int) 2) = ((n / 2 : Nat) : Int) := by
  rw [show Int.tdiv (n : Int) 2 = ((n / 2 : Nat) : Int) from by rw [Dg (by omega)]; omega]
  exact aD _ (by omega)
 refine cS.k293.gives (by simp) ?_
 simp -implicitDefEqProofs only [go_sem, c293, r293, w1, w2, w3, show ((2 : Int) = 0) = False from by simp, if_false]
 refine aV hC (fun t (_ : List Int) => [(9, .i (((n / 2 : Nat) : Int) - (t : Int))), (0, .vec k 1 l0.length), (8, .i ((n + 1 : Nat) : Int)), (6, .i a), (7, .i 0)]) (fun t l h' => SegP a (a + (n + 1)) l0 l /\ Heap (n / 2 + 1 - t) (n + 1) a l /\ h'[k]? = some (.buf tS 1 (l.map eS)) /\ Keep (fun i _ => i = k) h h') (n / 2 + 1) ⟨l0, h, Wk.pick (Ak _) (by simp [go_sem]), SegP.refl _ _ _, fun i c h1 h2 h3 => by unfold Kid at h2; omega, hk, Keep.refl _ _⟩ fun t l h1 ht ⟨g1, g2, g3, g4⟩ => ?_
 have hlen : l0.length = l.length := g1.1.symm
 simp -implicitDefEqProofs only [go_sem]
 by_cases hlt : t <= n / 2
 ·have d1 : decide (((n / 2 : Nat) : Int) - (t : Int) >= 0) = true := Ac (by omega)
  obtain ⟨i, hi⟩ : ∃ i : Nat, i = n / 2 - t := ⟨_, rfl⟩
  have ei : ((n / 2 : Nat) : Int) - (t : Int) = (i : Int) := by omega
  have w4 : IntKind.i64.wrap ((i : Int) - 1) = ((n / 2 : Nat) : Int) - ((t + 1 : Nat) : Int) := by rw [aD _ (by omega)]; omega
  rw [ei] at d1
  simp -implicitDefEqProofs only [go_sem, ei, d1, hlen]
  refine aI hC (h312 cS l i (n + 1) a (by omega) (by omega) (by omega) (by rw [show i + 1 = n / 2 + 1 - t by omega]; exact g2) k h1 g3) fun x h2 ⟨l2, q1, q2, q3, q4⟩ => ?_
  simp -implicitDefEqProofs only [go_sem, w4]
  exact ⟨by omega, l2, h2, Wk.pick (g4.trans q4).1 (by simp [go_sem]), g1.trans q1, by rw [show n / 2 + 1 - (t + 1) = i by omega]; exact q2, q3, g4.trans q4⟩
 have d1 : decide (((n / 2 : Nat) : Int) - (t : Int) >= 0) = false := Ai (by omega)
 have g2' : Heap 0 (n + 1) a l := by have := g2; rwa [show n / 2 + 1 - t = 0 by omega] at this
 simp -implicitDefEqProofs only [go_sem, d1, w2]
 refine aV hC (fun t (_ : List Int) => [(10, .i ((n : Int) - (t : Int))), (0, .vec k 1 l0.length), (6, .i a), (7, .i 0)]) (fun t l h' => SegP a (a + (n + 1)) l0 l /\ Popped (n + 1 - t) (n + 1) a l /\ h'[k]? = some (.buf tS 1 (l.map eS)) /\ Keep (fun i _ => i = k) h h') (n + 1) ⟨l, h1, Wk.pick g4.1 (by simp [go_sem]), g1, ⟨g2', fun p q _ _ _ => by omega, fun x y _ _ _ => by omega⟩, g3, g4⟩ fun t l h1 ht ⟨g1, g2, g3, g4⟩ => ?_
 have hlen : l0.length = l.length := g1.1.symm
 simp -implicitDefEqProofs only [go_sem]
 by_cases hlt : t <= n
 ·have d1 : decide ((n : Int) - (t : Int) >= 0) = true := Ac (by omega)
  obtain ⟨i, hi⟩ : ∃ i : Nat, i = n - t := ⟨_, rfl⟩
  have ei : (n : Int) - (t : Int) = (i : Int) := by omega
  have w4 : IntKind.i64.wrap ((i : Int) - 1) = (n : Int) - ((t + 1 : Nat) : Int) := by rw [aD _ (by omega)]; omega
  have w5 : IntKind.i64.wrap ((a : Int) + (i : Int)) = ((a + i : Nat) : Int) := by rw [aD _ (by omega)]; omega
  have hal : a < l.length := by omega
  have hil : a + i < l.length := by omega
  have e1 := aQ (eS := eS) hal
  have e2 := aQ (eS := eS) hil
  rw [show n + 1 - t = i + 1 by omega] at g2
  rw [ei] at d1
  simp -implicitDefEqProofs only [go_sem, ei, d1, hlen, w5, g3, bnd hal, bnd hil, e1, e2, aG g3, bL (eS := eS) hil, Af, As, aJ, Ae, true_and, aT, bH, Bg, bK, cS.one, cS.sol, cS.nag]
  have hsw : SegP a (a + (n + 1)) l (swp l a (a + i)) := SegP.swp (by omega) (by omega) (by omega)
  have hls : l.length = (swp l a (a + i)).length := (cG _ _ _).symm
  rw [hls]
  refine aI hC (h312 cS (swp l a (a + i)) 0 i a (by rw [cG]; omega) (by rw [cG]; omega) (by omega) (g2.1.swp hil) k _ (aG g3)) fun x h2 ⟨l2, q1, q2, q3, q4⟩ => ?_
  simp -implicitDefEqProofs only [go_sem, w4]
  have kk := (g4.trans (Keep.set (.buf tS 1 ((swp l a (a + i)).map eS)) g3 rfl)).trans q4
  refine ⟨by omega, l2, h2, Wk.pick kk.1 (by simp [go_sem]), (g1.trans hsw).trans (q1.mono (by omega) (by omega)), ?_, q3, kk⟩
  rw [show n + 1 - (t + 1) = i by omega]
  exact g2.step (by omega) (by omega) q1 q2
 ·have d1 : decide ((n : Int) - (t : Int) >= 0) = false := Ai (by omega)
  simp -implicitDefEqProofs only [go_sem, d1]
  refine aH g4.1 ⟨l, g1, fun p q hp hpq hq => ?_, g3, g4⟩
  exact g2.2.1 p q (by omega) hpq hq
theorem nn13 : ((13 : Int) < 0) = False := by decide
theorem nn7 : ((7 : Int) < 0) = False := by decide
theorem nn17 : ((17 : Int) < 0) = False := by decide
theorem nn16 : ((16 : Int) < 0) = False := by decide
theorem nn8 : ((8 : Int) < 0) = False := by decide
theorem h305 (c : Nat) (T : TypeId) (r : Int) (h : List AObj) (hc : h[c]? = some (.cells T [.v (.int .u64 r)])) :
  Gives (PC GL) 305 [.ref c 0] h fun x h' => ∃ r', x = .v (.int .u64 r') /\ h'[c]? = some (.cells T [.v (.int .u64 r')]) /\ Keep (fun i _ => i = c) h h' := by
 refine k305.gives (by simp) ?_
 simp -implicitDefEqProofs only [go_sem, c305, r305, hc, aG hc, Bg, shiftBin, nn13, nn7, nn17, if_false, if_true]
 exact aH (by simp) ⟨_, rfl, aG hc, Keep.set _ hc rfl⟩
theorem u64w (n : Nat) (h : n < 2 ^ 64) : IntKind.u64.wrap (n : Int) = (n : Int) := by
 simp [IntKind.wrap, IntKind.signed, IntKind.bits]; omega
theorem u8w (n : Nat) (h : n < 256) : IntKind.u8.wrap (n : Int) = (n : Int) := by
 simp [IntKind.wrap, IntKind.signed, IntKind.bits]; omega
def len8 : List UInt8 := [0, 1, 2, 2, 3, 3, 3, 3] ++ List.replicate 8 4 ++ List.replicate 16 5 ++ List.replicate 32 6 ++ List.replicate 64 7 ++ List.replicate 128 8
theorem rT : ∀ x, x < 256 -> 0 < x -> x < 2 ^ (len8.getD x 0).toNat /\ 2 ^ (len8.getD x 0).toNat <= 2 * x := by decide +kernel
theorem nZ : [0, 1, 2, 2, 3, 3, 3, 3, 4, 4, 4, 4, 4, 4, 4, 4, 5, 5, 5, 5, 5, 5, 5, 5, 5, 5, 5, 5, 5, 5, 5, 5, 6, 6, 6, 6, 6, 6, 6, 6, 6, 6, 6, 6, 6, 6, 6, 6, 6, 6, 6, 6, 6, 6, 6, 6, 6, 6, 6, 6, 6, 6, 6, 6, 7, 7, 7, 7, 7, 7, 7, 7, 7, 7, 7, 7, 7, 7, 7, 7, 7, 7, 7, 7, 7, 7, 7, 7, 7, 7, 7, 7, 7, 7, 7, 7, 7, 7, 7, 7, 7, 7, 7, 7, 7, 7, 7, 7, 7, 7, 7, 7, 7, 7, 7, 7, 7, 7, 7, 7, 7, 7, 7, 7, 7, 7, 7, 7, 8, 8, 8, 8, 8, 8, 8, 8, 8, 8, 8, 8, 8, 8, 8, 8, 8, 8, 8, 8, 8, 8, 8, 8, 8, 8, 8, 8, 8, 8, 8, 8, 8, 8, 8, 8, 8, 8, 8, 8, 8, 8, 8, 8, 8, 8, 8, 8, 8, 8, 8, 8, 8, 8, 8, 8, 8, 8, 8, 8, 8, 8, 8, 8, 8, 8, 8, 8, 8, 8, 8, 8, 8, 8, 8, 8, 8, 8, 8, 8, 8, 8, 8, 8, 8, 8, 8, 8, 8, 8, 8, 8, 8, 8, 8, 8, 8, 8, 8, 8, 8, 8, 8, 8, 8, 8, 8, 8, 8, 8, 8, 8, 8, 8, 8, 8, 8, 8, 8, 8, 8, 8, 8, 8, 8, 8, 8, 8] = len8 := rfl
theorem vY : len8.length = 256 := rfl
theorem len_up {x t : Nat} (s : Nat) (h : x / 2 ^ s < 2 ^ t /\ 2 ^ t <= 2 * (x / 2 ^ s)) : x < 2 ^ (s + t) /\ 2 ^ (s + t) <= 2 * x := by
 rw [Nat.pow_add]
 have h1 : 2 ^ s * (x / 2 ^ s) <= x := Nat.mul_div_le _ _
 refine ⟨?_, ?_⟩
 ·have := (Nat.div_lt_iff_lt_mul (Nat.two_pow_pos s)).1 h.1
  rwa [Nat.mul_comm] at this
 ·calc 2 ^ s * 2 ^ t <= 2 ^ s * (2 * (x / 2 ^ s)) := Es _ h.2
   _ = 2 * (2 ^ s * (x / 2 ^ s)) := by rw [Nat.mul_left_comm]
   _ <= 2 * x := by omega
theorem h272 (x : Nat) (hx : 0 < x /\ x < 2 ^ 24) : ∃ r : Nat, (x < 2 ^ r /\ 2 ^ r <= 2 * x) /\ Pure (PC GL) 272 [.v (.int .u64 x)] (.i r) := by
 have d32 : decide ((x : Int) >= 4294967296) = false := Ai (by omega)
 have tl : ∀ y, y < 256 -> (len8.getD y 0).toNat <= 255 := fun y _ => by have := (len8.getD y 0).toNat_lt; omega
 have b8 : ∀ y : Nat, y < 256 -> bounds (y : Int) len8.length = True := fun y hy => bnd (by rw [vY]; exact hy)
 have wi : ∀ n : Nat, n <= 255 -> IntKind.i64.wrap (n : Int) = (n : Int) := fun n hn => aD _ (by omega)
 by_cases h16 : x >= 65536
 ·have d16 : decide ((x : Int) >= 65536) = true := Ac (by omega)
  have f1 : ((x : Int)).fdiv (2 ^ min (Int.toNat 16) 64) = ((x / 65536 : Nat) : Int) := by
   rw [show min (Int.toNat 16) 64 = 16 from rfl, Int.fdiv_eq_ediv_of_nonneg _ (by decide)]; omega
  have d8 : decide (((x / 65536 : Nat) : Int) >= 256) = false := Ai (by omega)
  have hy : x / 65536 < 256 := by omega
  have hlen := rT (x / 65536) hy (by omega)
  have ht := tl _ hy
  have w8 := u8w _ hy
  have b := b8 _ hy
  generalize hT : (len8.getD (x / 65536) 0).toNat = T at *
  refine ⟨16 + T, len_up 16 hlen, ?_⟩
  refine k272.pure (by simp) (by simp [go_sem]) (by simp [go_sem]) ?_
  simp -implicitDefEqProofs only [c272, r272, go_sem]
  simp -implicitDefEqProofs only [go_sem, d32, d16, shiftBin, nn16, if_false, f1, d8, nZ, w8, b, Ae, true_and, hT, wi T ht]
  have wz : IntKind.i64.wrap (IntKind.i64.wrap (0 + 16) + (T : Int)) = ((16 + T : Nat) : Int) := by rw [aD (0 + 16) (by omega), aD _ (by omega)]; omega
  rw [wz]
  refine aE ?_ ?_ <;> simp [go_sem]
 have d16 : decide ((x : Int) >= 65536) = false := Ai (by omega)
 by_cases h8 : x >= 256
 ·have d8 : decide ((x : Int) >= 256) = true := Ac (by omega)
  have f1 : ((x : Int)).fdiv (2 ^ min (Int.toNat 8) 64) = ((x / 256 : Nat) : Int) := by
   rw [show min (Int.toNat 8) 64 = 8 from rfl, Int.fdiv_eq_ediv_of_nonneg _ (by decide)]; omega
  have hy : x / 256 < 256 := by omega
  have hlen := rT (x / 256) hy (by omega)
  have ht := tl _ hy
  have w8 := u8w _ hy
  have b := b8 _ hy
  generalize hT : (len8.getD (x / 256) 0).toNat = T at *
  refine ⟨8 + T, len_up 8 hlen, ?_⟩
  refine k272.pure (by simp) (by simp [go_sem]) (by simp [go_sem]) ?_
  simp -implicitDefEqProofs only [c272, r272, go_sem]
  simp -implicitDefEqProofs only [go_sem, d32, d16, shiftBin, nn8, if_false, f1, d8, nZ, w8, b, Ae, true_and, hT, wi T ht]
  have wz : IntKind.i64.wrap (IntKind.i64.wrap (0 + 8) + (T : Int)) = ((8 + T : Nat) : Int) := by rw [aD (0 + 8) (by omega), aD _ (by omega)]; omega
  rw [wz]
  refine aE ?_ ?_ <;> simp [go_sem]
 have d8 : decide ((x : Int) >= 256) = false := Ai (by omega)
 have hlen := rT x (by omega) hx.1
 have ht := tl x (by omega)
 have w8 := u8w x (by omega)
 have b := b8 x (by omega)
 generalize hT : (len8.getD x 0).toNat = T at *
 refine ⟨T, hlen, ?_⟩
 refine k272.pure (by simp) (by simp [go_sem]) (by simp [go_sem]) ?_
 simp -implicitDefEqProofs only [c272, r272, go_sem]
 simp -implicitDefEqProofs only [go_sem, d32, d16, d8, nZ, w8, b, Ae, true_and, hT, wi T ht]
 have wz : IntKind.i64.wrap (0 + (T : Int)) = (T : Int) := by rw [aD _ (by omega)]; omega
 rw [wz]
 refine aE ?_ ?_ <;> simp [go_sem]
theorem h239 (x : Nat) (hx : 0 < x /\ x < 2 ^ 24) : ∃ r : Nat, (x < 2 ^ r /\ 2 ^ r <= 2 * x) /\ Pure (PC GL) 239 [.v (.int .u64 x)] (.i r) := by
 obtain ⟨r, h1, h2⟩ := h272 (GL := GL) x hx
 refine ⟨r, h1, ?_⟩
 refine k239.pure (by simp) (by simp [go_sem]) (by simp [go_sem]) ?_
 simp -implicitDefEqProofs only [c239, r239, go_sem]
 refine aC hC h2 ?_
 simp -implicitDefEqProofs only [go_sem]
 refine aE ?_ ?_ <;> simp [go_sem]
theorem h304 (x : Nat) (hx : 0 < x /\ x < 2 ^ 24) : ∃ m : Nat, (0 < m /\ m <= 2 * x) /\ Pure (PC GL) 304 [.i x] (.v (.int .u64 m)) := by
 obtain ⟨r, h1, h2⟩ := h239 (GL := GL) x hx
 have hr : r < 64 := by
  by_cases h : r < 64
  ·exact h
  ·have : 2 ^ 64 <= 2 ^ r := Nat.pow_le_pow_right (by omega) (by omega)
   omega
 refine ⟨2 ^ r, ⟨Nat.two_pow_pos r, h1.2⟩, ?_⟩
 have w1 := u64w x (by omega)
 have w2 : IntKind.u64.wrap (1 * 2 ^ min ((r : Int)).toNat 64) = ((2 ^ r : Nat) : Int) := by
  rw [Ae, Do (by omega), Int.one_mul, show ((2 : Int) ^ r) = ((2 ^ r : Nat) : Int) by rw [Int.natCast_pow]; rfl]
  exact u64w _ (by omega)
 have w3 := w2
 rw [Ae] at w3
 have nr : ((r : Int) < 0) = False := by simp
 refine k304.pure (by simp) (by simp [go_sem]) (by simp [go_sem]) ?_
 simp -implicitDefEqProofs only [c304, r304, go_sem]
 simp -implicitDefEqProofs only [go_sem, w1]
 refine aC hC h2 ?_
 simp -implicitDefEqProofs only [go_sem, shiftBin, nr, if_false, w3]
 refine aE ?_ ?_ <;> simp [go_sem]
theorem and_le (r : Int) (m : Nat) : (BitVec.ofInt 64 r &&& BitVec.ofInt 64 (m : Int)).toNat <= m := by
 rw [BitVec.toNat_and]
 refine Dm Nat.and_le_right ?_
 rw [BitVec.toNat_ofInt]
 have : ((m : Int) % ((2 ^ 64 : Nat) : Int)).toNat = m % 2 ^ 64 := by omega
 rw [this]
 exact Nat.mod_le _ _
theorem h294 {fS : SF} {tS : TypeId} {eS : Int -> AV} (cS : SrtOk fS eS) (l0 : List Int) (a b : Nat) (hab : a + 12 < b) (hb : b <= l0.length) (hl : l0.length < 2 ^ 24) (k : Nat) (h : List AObj) (hk : h[k]? = some (.buf tS 1 (l0.map eS))) :
  Gives (PC GL) fS.n294 [.vec k 1 l0.length, .i a, .i b] h fun _ h' => ∃ l', SegP a b l0 l' /\ h'[k]? = some (.buf tS 1 (l'.map eS)) /\ Keep (fun i _ => i = k) h h' := by
 obtain ⟨L, hL⟩ : ∃ L : Nat, L = b - a := ⟨_, rfl⟩
 obtain ⟨M, hM, q304⟩ := h304 (GL := GL) L (by omega)
 have wL : IntKind.i64.wrap ((b : Int) - (a : Int)) = (L : Int) := by rw [aD _ (by omega)]; omega
 have wU := u64w L (by omega)
 have wq : IntKind.i64.wrap (Int.tdiv (L : Int) 4) = ((L / 4 : Nat) : Int) := by
  rw [show Int.tdiv (L : Int) 4 = ((L / 4 : Nat) : Int) from by rw [Dg (by omega)]; omega]
  exact aD _ (by omega)
 have wm : IntKind.i64.wrap (((L / 4 : Nat) : Int) * 2) = ((L / 4 * 2 : Nat) : Int) := by rw [aD _ (by omega)]; omega
 have wa : IntKind.i64.wrap ((a : Int) + ((L / 4 * 2 : Nat) : Int)) = ((a + L / 4 * 2 : Nat) : Int) := by rw [aD _ (by omega)]; omega
 obtain ⟨q, hq⟩ : ∃ q : Nat, q = a + L / 4 * 2 - 1 := ⟨_, rfl⟩
 have ws : IntKind.i64.wrap (((a + L / 4 * 2 : Nat) : Int) - 1) = ((q + 0 : Nat) : Int) := by rw [aD _ (by omega)]; omega
 have wt : IntKind.i64.wrap (((a + L / 4 * 2 : Nat) : Int) + 1) = ((q + 2 : Nat) : Int) := by rw [aD _ (by omega)]; omega
 have d8 : decide ((L : Int) >= 8) = true := Ac (by omega)
 have wM : IntKind.u64.wrap ((M : Int) - 1) = ((M - 1 : Nat) : Int) := by rw [show (M : Int) - 1 = ((M - 1 : Nat) : Int) by omega]; exact u64w _ (by omega)
 have n4 : ((4 : Int) = 0) = False := by simp
 refine cS.k294.gives (by simp) ?_
 simp -implicitDefEqProofs only [go_sem, c294, r294, wL, d8, wU]
 have hkc : k ≠ h.length := by have := aW hk; omega
 refine aC hC q304 ?_
 simp -implicitDefEqProofs only [go_sem, wq, wm, wa, ws, n4, if_false]
 refine aV hC (fun t (_ : List Int × Int) => [(9, .i ((q + t : Nat) : Int)), (0, .vec k 1 l0.length), (1, .i a), (6, .i L), (7, .ref h.length 0), (8, .v (.int .u64 M))]) (fun t a' h' => SegP a b l0 a'.1 /\ h'[k]? = some (.buf tS 1 (a'.1.map eS)) /\ h'[h.length]? = some (.cells 296 [.v (.int .u64 a'.2)]) /\ Keep (fun i _ => i = k) h h') 3 ⟨(l0, (L : Int)), _, Wk.pick (by simp) (by simp [go_sem]), SegP.refl _ _ _, aF hk, by rw [cP]; rfl, Keep.app _ _ _⟩ fun t a' h1 ht ⟨g1, g2, g3, g4⟩ => ?_
 obtain ⟨l, r⟩ := a'
 dsimp only at g1 g2 g3
 have hlen : l0.length = l.length := g1.1.symm
 simp -implicitDefEqProofs only [go_sem, wq, wm, wa, wt, n4, if_false]
 by_cases hlt : t < 3
 ·have d1 : decide (((q + t : Nat) : Int) <= ((q + 2 : Nat) : Int)) = true := Ac (by omega)
  have w5 : IntKind.i64.wrap (((q + t : Nat) : Int) + 1) = ((q + (t + 1) : Nat) : Int) := by rw [aD _ (by omega)]; omega
  simp -implicitDefEqProofs only [go_sem, d1]
  refine aI hC (h305 _ 296 r h1 g3) fun x h2 ⟨r2, hx, c2, k2⟩ => ?_
  subst hx
  have b2 := k2.get g2 hkc
  have kk : Keep (fun i _ => i = k) h h2 := g4.trans' k2 fun i o hi e => by have := aW hi; omega
  obtain ⟨o, ho, hob⟩ : ∃ o : Nat, IntKind.i64.wrap (bitAnd .u64 r2 ((M - 1 : Nat) : Int)) = (o : Int) /\ o < 2 * L := by
   have := and_le r2 (M - 1)
   refine ⟨(BitVec.ofInt 64 r2 &&& BitVec.ofInt 64 ((M - 1 : Nat) : Int)).toNat, ?_, by omega⟩
   rw [bitAnd]
   show IntKind.i64.wrap (IntKind.u64.wrap ((BitVec.ofInt 64 r2 &&& BitVec.ofInt 64 ((M - 1 : Nat) : Int)).toNat : Int)) = _
   rw [u64w _ (by omega), aD _ (by omega)]
  have hqt : q + t < l.length := by omega
  have hqb : a <= q + t /\ q + t < b := by omega
  generalize hqq : q + t = e at *
  have e1 := aQ (eS := eS) hqt
  simp -implicitDefEqProofs only [go_sem, wM, ho]
  by_cases hoL : o >= L
  ·have d2 : decide ((o : Int) >= (L : Int)) = true := Ac (by omega)
   obtain ⟨p, hp⟩ : ∃ p : Nat, p = o - L := ⟨_, rfl⟩
   have wp : IntKind.i64.wrap ((o : Int) - (L : Int)) = (p : Int) := by rw [aD _ (by omega)]; omega
   simp -implicitDefEqProofs only [go_sem, d2, wp]
   have wap : IntKind.i64.wrap ((a : Int) + (p : Int)) = ((a + p : Nat) : Int) := by rw [aD _ (by omega)]; omega
   have hpl : a + p < l.length := by omega
   have e2 := aQ (eS := eS) hpl
   simp -implicitDefEqProofs only [go_sem, wap, b2, hlen, bnd hqt, bnd hpl, e1, e2, aG b2, bL (eS := eS) hpl, w5, Af, As, aJ, Ae, true_and, aT, bH, Bg, bK, cS.one, cS.sol, cS.nag]
   have c3 := (aS (o := .buf tS 1 ((swp l e (a + p)).map eS)) hkc).trans c2
   exact ⟨hlt, (swp l e (a + p), r2), _, Wk.pick (by simpa using kk.1) (by simp [go_sem]), g1.trans (SegP.swp (by omega) (by omega) (by omega)), aG b2, c3, kk.trans (Keep.set _ b2 rfl)⟩
  ·have d2 : decide ((o : Int) >= (L : Int)) = false := Ai (by omega)
   obtain ⟨p, hp⟩ : ∃ p : Nat, p = o := ⟨_, rfl⟩
   rw [<- hp] at d2 ho ⊢
   simp -implicitDefEqProofs only [go_sem, d2]
   have wap : IntKind.i64.wrap ((a : Int) + (p : Int)) = ((a + p : Nat) : Int) := by rw [aD _ (by omega)]; omega
   have hpl : a + p < l.length := by omega
   have e2 := aQ (eS := eS) hpl
   simp -implicitDefEqProofs only [go_sem, wap, b2, hlen, bnd hqt, bnd hpl, e1, e2, aG b2, bL (eS := eS) hpl, w5, Af, As, aJ, Ae, true_and, aT, bH, Bg, bK, cS.one, cS.sol, cS.nag]
   have c3 := (aS (o := .buf tS 1 ((swp l e (a + p)).map eS)) hkc).trans c2
   exact ⟨hlt, (swp l e (a + p), r2), _, Wk.pick (by simpa using kk.1) (by simp [go_sem]), g1.trans (SegP.swp (by omega) (by omega) (by omega)), aG b2, c3, kk.trans (Keep.set _ b2 rfl)⟩
 ·have d1 : decide (((q + t : Nat) : Int) <= ((q + 2 : Nat) : Int)) = false := Ai (by omega)
  simp -implicitDefEqProofs only [go_sem, d1]
  exact aH g4.1 ⟨l, g1, g2, g4⟩
end Go.Rip
