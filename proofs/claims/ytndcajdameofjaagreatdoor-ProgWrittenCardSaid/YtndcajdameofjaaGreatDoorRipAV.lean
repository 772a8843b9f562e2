/- The codes of functions, as the machine reads them. -/
import Derived.Test.YtndcajdameofjaaGreatDoorProg
import Derived.KernelRfl
import Derived.Test.YtndcajdameofjaaGreatDoorRipAI
namespace Go.Rip
open Go Go.Proofs
set_option maxRecDepth 100000
def c30 : ACode :=
 RG [E1 2 (.box 37 T0), E1 3 (.box 37 T1), MV 4 (CB false)] (.seq (RG [E1 7 (FA 0 T2), E1 8 (LD T7), E1 9 (.len .sl T8), E1 10 (FA 0 T3), E1 11 (LD T10), E1 12 (.len .sl T11), E1 13 (.bin .neq .no T9 T12)] (.cond T13 (RG [MV 4 (CB false)] .ret) .skip)) (.seq (RG [MV 5 (CI 0)] (.block 0 (.loop (.seq (RG [MV 14 T5, E1 15 (FA 0 T2), E1 16 (LD T15), E1 17 (.len .sl T16), E1 18 (.bin .lss .no T14 T17)] (.cond T18 .skip (.exit 0))) (.seq (.block 1 (RG [E1 21 (FA 0 T2), E1 22 (LD T21), MV 23 T5, E1 24 (IA 3 T22 T23), E1 25 (LT 3 T24), E1 26 (FA 0 T3), E1 27 (LD T26), MV 28 T5, E1 29 (IA 3 T27 T28), E1 30 (LT 3 T29), E1 31 (.call 73 [T25, T30]), MV 6 T31] (RG [MV 32 T6, E1 33 (.un .not T32)] (.cond T33 (RG [MV 4 (CB false)] .ret) .skip)))) (.region [MV 19 T5, E1 20 (.bin .add .no T19 (CI 1)), MV 5 T20])))))) (RG [MV 4 (CB true)] .ret)))
def r30 : List ARet := [.tmp 4]
def c73 : ACode :=
 RG [E1 2 (.box 60 T0), E1 3 (.box 60 T1), MV 4 (CB false)] (.seq (RG [E1 7 (FA 0 T2), E1 8 (LD T7), E1 9 (FA 0 T3), E1 10 (LD T9), E1 11 (.bin .neq .no T8 T10), MV 12 T11, E2 13 12 false (FA 1 T2), E2 14 12 false (LD T13), E2 15 12 false (FA 1 T3), E2 16 12 false (LD T15), E2 17 12 false (.bin .neq .no T14 T16), E1 18 (.pick T12 (CB true) T17), MV 19 T18, E2 20 19 false (FA 2 T2), E2 21 19 false (LD T20), E2 22 19 false (.len .sl T21), E2 23 19 false (FA 2 T3), E2 24 19 false (LD T23), E2 25 19 false (.len .sl T24), E2 26 19 false (.bin .neq .no T22 T25), E1 27 (.pick T19 (CB true) T26)] (.cond T27 (RG [MV 4 (CB false)] .ret) .skip)) (.seq (RG [MV 5 (CI 0)] (.block 0 (.loop (.seq (RG [MV 28 T5, E1 29 (FA 2 T2), E1 30 (LD T29), E1 31 (.len .sl T30), E1 32 (.bin .lss .no T28 T31)] (.cond T32 .skip (.exit 0))) (.seq (.block 1 (RG [E1 35 (FA 2 T2), E1 36 (LD T35), MV 37 T5, E1 38 (IA 5 T36 T37), E1 39 (LT 5 T38), E1 40 (FA 2 T3), E1 41 (LD T40), MV 42 T5, E1 43 (IA 5 T41 T42),
  E1 44 (LT 5 T43), E1 45 (.call 56 [T39, T44]), MV 6 T45] (RG [MV 46 T6, E1 47 (.un .not T46)] (.cond T47 (RG [MV 4 (CB false)] .ret) .skip)))) (.region [MV 33 T5, E1 34 (.bin .add .no T33 (CI 1)), MV 5 T34])))))) (RG [MV 4 (CB true)] .ret)))
def r73 : List ARet := [.tmp 4]
theorem k30 : Coded Tryz.prog 30 c30 r30 34 := ⟨_, Tryz.func30, by kernel_rfl, by kernel_rfl, by kernel_rfl⟩
theorem k73 : Coded Tryz.prog 73 c73 r73 48 := ⟨_, Tryz.func73, by kernel_rfl, by kernel_rfl, by kernel_rfl⟩
end Go.Rip
