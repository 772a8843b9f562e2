/- The codes of functions, as the machine reads them. -/
import Derived.Test.YtndcajdameofjaaGreatDoorProg
import Derived.KernelRfl
import Derived.Test.YtndcajdameofjaaGreatDoorRipAI

namespace Go.Rip
open Go Go.Proofs
set_option maxRecDepth 100000
/-- riparian/riparianlaw04.ProgGoals -/
def c3 : ACode :=
  .seq (.region [(some 2, none, .box 24 (.t 0)),
    (some 3, none, .box 26 (.t 1)),
    (some 4, none, .move (.c (.v (.bool false))))])
  (.seq (.seq (.region [(some 11, none, .call 16 []),
    (some 12, none, .un .not (.t 11))])
  (.cond (.t 12)
    (.seq (.region [(some 4, none, .move (.c (.v (.bool false))))])
    (.ret))
    (.skip)))
  (.seq (.seq (.region [(some 13, none, .load true 4 (.t 2)),
    (some 14, none, .buildSlice 24 4 (.agg [.v (.int .i64 0), .v (.int .i64 0), .str [], .v (.slice none 0 0)]) 1 [(0, .t 13)]),
    (some 15, none, .buildSlice 22 1 (.v (.slice none 0 0)) 1 [(0, .t 14)]),
    (some 16, none, .call 17 [.c (.v (.int .i64 2000)), .t 15]),
    (some 17, none, .un .not (.t 16)),
    (some 18, none, .move (.t 17)),
    (some 19, some (18, false), .fieldAddr 0 (.t 3)),
    (some 20, some (18, false), .load false 1 (.t 19)),
    (some 21, some (18, false), .len .str (.t 20)),
    (some 22, some (18, false), .bin .gtr .no (.t 21) (.c (.v (.int .i64 500)))),
    (some 23, none, .pick (.t 18) (.c (.v (.bool true))) (.t 22))])
  (.cond (.t 23)
    (.seq (.region [(some 4, none, .move (.c (.v (.bool true))))])
    (.ret))
    (.skip)))
  (.seq (.region [(some 25, none, .load true 4 (.t 2)),
    (some 26, none, .call 18 [.t 25]),
    (some 24, none, .move (.t 26)),
    (some 27, none, .extract (.t 24) 0),
    (some 28, none, .extract (.t 24) 1),
    (some 29, none, .extract (.t 24) 2),
    (some 7, none, .alloc 24 [.v (.int .i64 0), .v (.int .i64 0), .str [], .v (.slice none 0 0)]),
    (some 5, none, .move (.t 27)),
    (some 6, none, .move (.t 28)),
    (none, none, .store 4 (.t 7) (.t 29))])
  (.seq (.region [(some 31, none, .load true 4 (.t 2)),
    (some 32, none, .call 19 [.t 31]),
    (some 30, none, .move (.t 32)),
    (some 33, none, .extract (.t 30) 0),
    (some 34, none, .extract (.t 30) 1),
    (some 35, none, .extract (.t 30) 2),
    (some 10, none, .alloc 24 [.v (.int .i64 0), .v (.int .i64 0), .str [], .v (.slice none 0 0)]),
    (some 8, none, .move (.t 33)),
    (some 9, none, .move (.t 34)),
    (none, none, .store 4 (.t 10) (.t 35))])
  (.seq (.region [(some 36, none, .load true 4 (.t 2)),
    (some 38, none, .load true 4 (.t 2)),
    (some 37, none, .call 20 [.t 36]),
    (none, none, .chk (some 38) (.load true 4 (.t 2))),
    (some 39, none, .call 21 [.t 38]),
    (some 40, none, .bin .eql .bl (.t 37) (.t 39)),
    (some 41, none, .move (.t 40)),
    (some 42, some (41, true), .load true 4 (.t 2)),
    (some 44, some (41, true), .load true 4 (.t 2)),
    (some 43, some (41, true), .call 22 [.t 42]),
    (none, some (41, true), .chk (some 44) (.load true 4 (.t 2))),
    (some 45, some (41, true), .call 23 [.t 44]),
    (some 46, some (41, true), .bin .eql .bl (.t 43) (.t 45)),
    (some 47, none, .pick (.t 41) (.t 46) (.c (.v (.bool false)))),
    (some 48, none, .move (.t 47)),
    (some 49, some (48, true), .move (.t 5)),
    (some 50, some (48, true), .move (.t 8)),
    (some 51, some (48, true), .bin .eql .no (.t 49) (.t 50)),
    (some 52, none, .pick (.t 48) (.t 51) (.c (.v (.bool false)))),
    (some 53, none, .move (.t 52)),
    (some 54, some (53, true), .move (.t 6)),
    (some 55, some (53, true), .move (.t 9)),
    (some 56, some (53, true), .bin .eql .no (.t 54) (.t 55)),
    (some 57, none, .pick (.t 53) (.t 56) (.c (.v (.bool false)))),
    (some 58, none, .move (.t 57)),
    (some 59, some (58, true), .load true 4 (.t 7)),
    (some 60, some (58, true), .load true 4 (.t 10)),
    (some 61, some (58, true), .call 24 [.t 59, .t 60]),
    (some 62, none, .pick (.t 58) (.t 61) (.c (.v (.bool false)))),
    (some 63, none, .move (.t 62)),
    (some 64, some (63, true), .load true 2 (.t 3)),
    (some 66, some (63, true), .load true 2 (.t 3)),
    (some 65, some (63, true), .call 25 [.t 64]),
    (none, some (63, true), .chk (some 66) (.load true 2 (.t 3))),
    (some 67, some (63, true), .call 26 [.t 66]),
    (some 68, some (63, true), .bin .eql .bl (.t 65) (.t 67)),
    (some 69, none, .pick (.t 63) (.t 68) (.c (.v (.bool false)))),
    (some 4, none, .move (.t 69))])
  (.ret))))))
def r3 : List ARet := [.tmp 4]

/-- riparian/riparianlaw04.few -/
def c17 : ACode :=
  .seq (.region [(some 2, none, .box 3 (.t 0)),
    (some 4, none, .move (.c (.v (.bool false))))])
  (.seq (.seq (.region [(some 9, none, .move (.t 1)),
    (some 10, none, .len .sl (.t 9)),
    (some 11, none, .move (.c (.v (.int .i64 0))))])
  (.block 0
    (.loop
      (.seq (.region [(some 12, none, .bin .lss .no (.t 11) (.t 10))])
      (.seq (.cond (.t 12)
        (.skip)
        (.exit 0))
      (.seq (.block 1
        (.seq (.region [(some 13, none, .indexAddr 1 (.t 9) (.t 11)),
          (some 14, none, .load false 1 (.t 13)),
          (some 6, none, .move (.t 14))])
        (.seq (.region [(some 15, none, .move (.t 6)),
          (some 16, none, .len .sl (.t 15)),
          (some 17, none, .move (.c (.v (.int .i64 0))))])
        (.block 2
          (.loop
            (.seq (.region [(some 18, none, .bin .lss .no (.t 17) (.t 16))])
            (.seq (.cond (.t 18)
              (.skip)
              (.exit 2))
            (.seq (.block 3
              (.seq (.region [(some 19, none, .indexAddr 4 (.t 15) (.t 17)),
                (some 20, none, .load true 4 (.t 19)),
                (some 8, none, .alloc 24 [.v (.int .i64 0), .v (.int .i64 0), .str [], .v (.slice none 0 0)]),
                (none, none, .store 4 (.t 8) (.t 20))])
              (.seq (.region [(some 21, none, .load true 4 (.t 8)),
                (some 22, none, .call 94 [.t 21, .t 2, .c (.v (.int .i64 1))]),
                (some 23, none, .un .not (.t 22))])
              (.cond (.t 23)
                (.seq (.region [(some 4, none, .move (.c (.v (.bool false))))])
                (.ret))
                (.skip)))))
            (.region [(some 24, none, .bin .add .no (.t 17) (.c (.v (.int .i64 1)))),
              (some 17, none, .move (.t 24))])))))))))
      (.region [(some 25, none, .bin .add .no (.t 11) (.c (.v (.int .i64 1)))),
        (some 11, none, .move (.t 25))])))))))
  (.seq (.region [(some 4, none, .move (.c (.v (.bool true))))])
  (.ret)))
def r17 : List ARet := [.tmp 4]

/-- riparian/prog.Goal -/
def c18 : ACode :=
  .seq (.region [(some 1, none, .box 24 (.t 0)),
    (some 2, none, .move (.c (.v (.int .i64 0)))),
    (some 3, none, .move (.c (.v (.int .i64 0)))),
    (some 4, none, .alloc 24 [.v (.int .i64 0), .v (.int .i64 0), .str [], .v (.slice none 0 0)])])
  (.seq (.seq (.region [(some 5, none, .load true 4 (.t 1)),
    (some 6, none, .call 95 [.t 5]),
    (some 7, none, .bin .neq .no (.t 6) (.c (.v (.int .i64 0))))])
  (.cond (.t 7)
    (.seq (.region [(some 8, none, .build [.v (.int .i64 0), .v (.int .i64 0), .str [], .v (.slice none 0 0)] []),
      (some 2, none, .move (.c (.v (.int .i64 0)))),
      (some 3, none, .move (.c (.v (.int .i64 0)))),
      (none, none, .store 4 (.t 4) (.t 8))])
    (.ret))
    (.skip)))
  (.seq (.region [(some 9, none, .load true 4 (.t 1)),
    (some 10, none, .call 96 [.t 9]),
    (some 11, none, .extract (.t 10) 0),
    (some 12, none, .extract (.t 10) 1),
    (some 13, none, .extract (.t 10) 2),
    (some 2, none, .move (.t 11)),
    (some 3, none, .move (.t 12)),
    (none, none, .store 4 (.t 4) (.t 13))])
  (.ret)))
def r18 : List ARet := [.tmp 2, .tmp 3, .cell 4 true 4]

/-- riparian/riparianref04.Goal -/
def c19 : ACode :=
  .seq (.region [(some 1, none, .box 24 (.t 0)),
    (some 2, none, .move (.c (.v (.int .i64 0)))),
    (some 3, none, .move (.c (.v (.int .i64 0)))),
    (some 4, none, .alloc 24 [.v (.int .i64 0), .v (.int .i64 0), .str [], .v (.slice none 0 0)])])
  (.seq (.region [(some 6, none, .load true 4 (.t 1)),
    (some 7, none, .call 97 [.t 6]),
    (some 5, none, .move (.t 7))])
  (.seq (.seq (.region [(some 8, none, .move (.t 5)),
    (some 9, none, .un .not (.t 8))])
  (.cond (.t 9)
    (.seq (.region [(some 10, none, .build [.v (.int .i64 0), .v (.int .i64 0), .str [], .v (.slice none 0 0)] []),
      (some 2, none, .move (.c (.v (.int .i64 0)))),
      (some 3, none, .move (.c (.v (.int .i64 0)))),
      (none, none, .store 4 (.t 4) (.t 10))])
    (.ret))
    (.skip)))
  (.seq (.region [(some 11, none, .load true 4 (.t 1)),
    (some 12, none, .call 98 [.t 11]),
    (some 13, none, .extract (.t 12) 0),
    (some 14, none, .extract (.t 12) 1),
    (some 15, none, .extract (.t 12) 2),
    (some 2, none, .move (.t 13)),
    (some 3, none, .move (.t 14)),
    (none, none, .store 4 (.t 4) (.t 15))])
  (.ret))))
def r19 : List ARet := [.tmp 2, .tmp 3, .cell 4 true 4]

/-- riparian/prog.Expr -/
def c20 : ACode :=
  .seq (.region [(some 1, none, .box 24 (.t 0)),
    (some 2, none, .move (.c (.v (.bool false))))])
  (.seq (.region [(some 3, none, .load true 4 (.t 1)),
    (some 4, none, .call 95 [.t 3]),
    (some 5, none, .bin .eql .no (.t 4) (.c (.v (.int .i64 0)))),
    (some 6, none, .move (.t 5)),
    (some 7, some (6, true), .load true 4 (.t 1)),
    (some 8, some (6, true), .call 99 [.t 7]),
    (some 9, none, .pick (.t 6) (.t 8) (.c (.v (.bool false)))),
    (some 2, none, .move (.t 9))])
  (.ret))
def r20 : List ARet := [.tmp 2]

/-- riparian/riparianref04.Expr -/
def c21 : ACode :=
  .seq (.region [(some 1, none, .box 24 (.t 0)),
    (some 2, none, .move (.c (.v (.bool false))))])
  (.seq (.region [(some 4, none, .load true 4 (.t 1)),
    (some 5, none, .call 97 [.t 4]),
    (some 3, none, .move (.t 5))])
  (.seq (.region [(some 6, none, .move (.t 3)),
    (some 7, none, .move (.t 6)),
    (some 8, some (7, true), .load true 4 (.t 1)),
    (some 9, some (7, true), .call 100 [.t 8]),
    (some 10, none, .pick (.t 7) (.t 9) (.c (.v (.bool false)))),
    (some 2, none, .move (.t 10))])
  (.ret)))
def r21 : List ARet := [.tmp 2]

/-- riparian/prog.Test -/
def c22 : ACode :=
  .seq (.region [(some 1, none, .box 24 (.t 0)),
    (some 2, none, .move (.c (.v (.bool false))))])
  (.seq (.region [(some 3, none, .load true 4 (.t 1)),
    (some 4, none, .call 95 [.t 3]),
    (some 5, none, .bin .eql .no (.t 4) (.c (.v (.int .i64 0)))),
    (some 6, none, .move (.t 5)),
    (some 7, some (6, true), .load true 4 (.t 1)),
    (some 8, some (6, true), .call 101 [.t 7]),
    (some 9, none, .pick (.t 6) (.t 8) (.c (.v (.bool false)))),
    (some 2, none, .move (.t 9))])
  (.ret))
def r22 : List ARet := [.tmp 2]

/-- riparian/riparianref04.Test -/
def c23 : ACode :=
  .seq (.region [(some 1, none, .box 24 (.t 0)),
    (some 2, none, .move (.c (.v (.bool false))))])
  (.seq (.region [(some 4, none, .load true 4 (.t 1)),
    (some 5, none, .call 97 [.t 4]),
    (some 3, none, .move (.t 5))])
  (.seq (.region [(some 6, none, .move (.t 3)),
    (some 7, none, .move (.t 6)),
    (some 8, some (7, true), .load true 4 (.t 1)),
    (some 9, some (7, true), .call 102 [.t 8]),
    (some 10, none, .pick (.t 7) (.t 9) (.c (.v (.bool false)))),
    (some 2, none, .move (.t 10))])
  (.ret)))
def r23 : List ARet := [.tmp 2]

/-- riparian/riparianref01.Same -/
def c24 : ACode :=
  .seq (.region [(some 2, none, .box 24 (.t 0)),
    (some 3, none, .box 24 (.t 1)),
    (some 4, none, .move (.c (.v (.bool false))))])
  (.seq (.seq (.region [(some 7, none, .fieldAddr 0 (.t 2)),
    (some 8, none, .load false 1 (.t 7)),
    (some 9, none, .fieldAddr 0 (.t 3)),
    (some 10, none, .load false 1 (.t 9)),
    (some 11, none, .bin .neq .no (.t 8) (.t 10)),
    (some 12, none, .move (.t 11)),
    (some 13, some (12, false), .fieldAddr 1 (.t 2)),
    (some 14, some (12, false), .load false 1 (.t 13)),
    (some 15, some (12, false), .fieldAddr 1 (.t 3)),
    (some 16, some (12, false), .load false 1 (.t 15)),
    (some 17, some (12, false), .bin .neq .no (.t 14) (.t 16)),
    (some 18, none, .pick (.t 12) (.c (.v (.bool true))) (.t 17)),
    (some 19, none, .move (.t 18)),
    (some 20, some (19, false), .fieldAddr 2 (.t 2)),
    (some 21, some (19, false), .load false 1 (.t 20)),
    (some 22, some (19, false), .fieldAddr 2 (.t 3)),
    (some 23, some (19, false), .load false 1 (.t 22)),
    (some 24, some (19, false), .bin .neq .no (.t 21) (.t 23)),
    (some 25, none, .pick (.t 19) (.c (.v (.bool true))) (.t 24)),
    (some 26, none, .move (.t 25)),
    (some 27, some (26, false), .fieldAddr 3 (.t 2)),
    (some 28, some (26, false), .load false 1 (.t 27)),
    (some 29, some (26, false), .len .sl (.t 28)),
    (some 30, some (26, false), .fieldAddr 3 (.t 3)),
    (some 31, some (26, false), .load false 1 (.t 30)),
    (some 32, some (26, false), .len .sl (.t 31)),
    (some 33, some (26, false), .bin .neq .no (.t 29) (.t 32)),
    (some 34, none, .pick (.t 26) (.c (.v (.bool true))) (.t 33))])
  (.cond (.t 34)
    (.seq (.region [(some 4, none, .move (.c (.v (.bool false))))])
    (.ret))
    (.skip)))
  (.seq (.seq (.region [(some 5, none, .move (.c (.v (.int .i64 0))))])
  (.block 0
    (.loop
      (.seq (.seq (.region [(some 35, none, .move (.t 5)),
        (some 36, none, .fieldAddr 3 (.t 2)),
        (some 37, none, .load false 1 (.t 36)),
        (some 38, none, .len .sl (.t 37)),
        (some 39, none, .bin .lss .no (.t 35) (.t 38))])
      (.cond (.t 39)
        (.skip)
        (.exit 0)))
      (.seq (.block 1
        (.seq (.region [(some 42, none, .fieldAddr 3 (.t 2)),
          (some 43, none, .load false 1 (.t 42)),
          (some 44, none, .move (.t 5)),
          (some 45, none, .indexAddr 4 (.t 43) (.t 44)),
          (some 46, none, .load true 4 (.t 45)),
          (some 47, none, .fieldAddr 3 (.t 3)),
          (some 48, none, .load false 1 (.t 47)),
          (some 49, none, .move (.t 5)),
          (some 50, none, .indexAddr 4 (.t 48) (.t 49)),
          (some 51, none, .load true 4 (.t 50)),
          (some 52, none, .call 24 [.t 46, .t 51]),
          (some 6, none, .move (.t 52))])
        (.seq (.region [(some 53, none, .move (.t 6)),
          (some 54, none, .un .not (.t 53))])
        (.cond (.t 54)
          (.seq (.region [(some 4, none, .move (.c (.v (.bool false))))])
          (.ret))
          (.skip)))))
      (.region [(some 40, none, .move (.t 5)),
        (some 41, none, .bin .add .no (.t 40) (.c (.v (.int .i64 1)))),
        (some 5, none, .move (.t 41))]))))))
  (.seq (.region [(some 4, none, .move (.c (.v (.bool true))))])
  (.ret))))
def r24 : List ARet := [.tmp 4]

/-- riparian/prog.Reserved -/
def c25 : ACode :=
  .seq (.region [(some 1, none, .box 26 (.t 0)),
    (some 2, none, .move (.c (.v (.bool false))))])
  (.seq (.region [(some 7, none, .fieldAddr 0 (.t 1)),
    (some 8, none, .load false 1 (.t 7)),
    (some 6, none, .call 103 []),
    (none, none, .chk (some 8) (.load false 1 (.t 7))),
    (some 9, none, .lookup (.one (.str)) (.v (.int .i64 0)) (.t 6) (.t 8) true),
    (some 5, none, .move (.t 9)),
    (some 10, none, .extract (.t 5) 0),
    (some 11, none, .extract (.t 5) 1),
    (some 3, none, .move (.t 10)),
    (some 4, none, .move (.t 11))])
  (.seq (.region [(some 12, none, .move (.t 4)),
    (some 13, none, .move (.t 12)),
    (some 14, some (13, true), .move (.t 3)),
    (some 15, some (13, true), .fieldAddr 1 (.t 1)),
    (some 16, some (13, true), .load false 1 (.t 15)),
    (some 17, some (13, true), .bin .eql .no (.t 14) (.t 16)),
    (some 18, none, .pick (.t 13) (.t 17) (.c (.v (.bool false)))),
    (some 19, none, .move (.t 18)),
    (some 21, some (19, false), .load true 2 (.t 1)),
    (some 20, some (19, false), .call 104 []),
    (none, some (19, false), .chk (some 21) (.load true 2 (.t 1))),
    (some 22, some (19, false), .lookup (.st [.str, .int .i64]) (.v (.bool false)) (.t 20) (.t 21) false),
    (some 23, none, .pick (.t 19) (.c (.v (.bool true))) (.t 22)),
    (some 2, none, .move (.t 23))])
  (.ret)))
def r25 : List ARet := [.tmp 2]

/-- riparian/riparianref04.Reserved -/
def c26 : ACode :=
  .seq (.region [(some 1, none, .box 26 (.t 0)),
    (some 2, none, .move (.c (.v (.bool false))))])
  (.seq (.region [(some 4, none, .load true 2 (.t 1)),
    (some 3, none, .call 106 []),
    (none, none, .chk (some 4) (.load true 2 (.t 1))),
    (some 5, none, .call 105 [.t 3, .t 4]),
    (some 2, none, .move (.t 5))])
  (.ret))
def r26 : List ARet := [.tmp 2]

/-- riparian/riparianlaw04.nodes -/
def c94 : ACode :=
  .seq (.region [(some 3, none, .box 24 (.t 0)),
    (some 6, none, .move (.c (.v (.bool false))))])
  (.seq (.region [(some 9, none, .move (.t 1)),
    (some 10, none, .nilCheck (.t 9)),
    (some 11, none, .load false 1 (.t 10)),
    (some 12, none, .bin .sub .no (.t 11) (.c (.v (.int .i64 1)))),
    (some 13, none, .nilCheck (.t 9)),
    (none, none, .store 1 (.t 13) (.t 12))])
  (.seq (.seq (.region [(some 14, none, .move (.t 1)),
    (some 15, none, .nilCheck (.t 14)),
    (some 16, none, .load false 1 (.t 15)),
    (some 17, none, .bin .lss .no (.t 16) (.c (.v (.int .i64 0)))),
    (some 18, none, .move (.t 17)),
    (some 19, some (18, false), .move (.t 2)),
    (some 20, some (18, false), .bin .gtr .no (.t 19) (.c (.v (.int .i64 650)))),
    (some 21, none, .pick (.t 18) (.c (.v (.bool true))) (.t 20)),
    (some 22, none, .move (.t 21)),
    (some 23, some (22, false), .fieldAddr 2 (.t 3)),
    (some 24, some (22, false), .load false 1 (.t 23)),
    (some 25, some (22, false), .len .str (.t 24)),
    (some 26, some (22, false), .bin .gtr .no (.t 25) (.c (.v (.int .i64 500)))),
    (some 27, none, .pick (.t 22) (.c (.v (.bool true))) (.t 26))])
  (.cond (.t 27)
    (.seq (.region [(some 6, none, .move (.c (.v (.bool false))))])
    (.ret))
    (.skip)))
  (.seq (.seq (.region [(some 28, none, .fieldAddr 3 (.t 3)),
    (some 29, none, .load false 1 (.t 28)),
    (some 30, none, .len .sl (.t 29)),
    (some 31, none, .move (.c (.v (.int .i64 0))))])
  (.block 0
    (.loop
      (.seq (.region [(some 32, none, .bin .lss .no (.t 31) (.t 30))])
      (.seq (.cond (.t 32)
        (.skip)
        (.exit 0))
      (.seq (.block 1
        (.seq (.region [(some 33, none, .indexAddr 4 (.t 29) (.t 31)),
          (some 34, none, .load true 4 (.t 33)),
          (some 8, none, .alloc 24 [.v (.int .i64 0), .v (.int .i64 0), .str [], .v (.slice none 0 0)]),
          (none, none, .store 4 (.t 8) (.t 34))])
        (.seq (.region [(some 35, none, .load true 4 (.t 8)),
          (some 36, none, .move (.t 1)),
          (some 37, none, .move (.t 2)),
          (some 38, none, .bin .add .no (.t 37) (.c (.v (.int .i64 1)))),
          (some 39, none, .call 94 [.t 35, .t 36, .t 38]),
          (some 40, none, .un .not (.t 39))])
        (.cond (.t 40)
          (.seq (.region [(some 6, none, .move (.c (.v (.bool false))))])
          (.ret))
          (.skip)))))
      (.region [(some 41, none, .bin .add .no (.t 31) (.c (.v (.int .i64 1)))),
        (some 31, none, .move (.t 41))])))))))
  (.seq (.region [(some 6, none, .move (.c (.v (.bool true))))])
  (.ret)))))
def r94 : List ARet := [.tmp 6]

/-- riparian/term.Check -/
def c95 : ACode :=
  .seq (.region [(some 1, none, .box 24 (.t 0)),
    (some 2, none, .move (.c (.v (.int .i64 0))))])
  (.seq (.region [(some 3, none, .load true 4 (.t 1)),
    (some 4, none, .buildSlice 24 4 (.agg [.v (.int .i64 0), .v (.int .i64 0), .str [], .v (.slice none 0 0)]) 1 [(0, .t 3)]),
    (some 5, none, .call 181 [.t 4]),
    (some 2, none, .move (.t 5))])
  (.ret))
def r95 : List ARet := [.tmp 2]

/-- riparian/prog.goal -/
def c96 : ACode :=
  .seq (.region [(some 1, none, .box 24 (.t 0)),
    (some 2, none, .move (.c (.v (.int .i64 0)))),
    (some 3, none, .move (.c (.v (.int .i64 0)))),
    (some 4, none, .alloc 24 [.v (.int .i64 0), .v (.int .i64 0), .str [], .v (.slice none 0 0)])])
  (.seq (.region [(some 5, none, .move (.c (.v (.int .i64 0))))])
  (.seq (.seq (.region [(some 8, none, .load true 4 (.t 1)),
    (some 9, none, .call 182 [.t 8, .c (.str [64]), .c (.v (.int .i64 2))])])
  (.cond (.t 9)
    (.seq (.region [(some 10, none, .fieldAddr 3 (.t 1)),
      (some 11, none, .load false 1 (.t 10)),
      (some 12, none, .indexAddr 4 (.t 11) (.c (.v (.int .i64 1)))),
      (some 13, none, .load true 4 (.t 12)),
      (some 6, none, .alloc 24 [.v (.int .i64 0), .v (.int .i64 0), .str [], .v (.slice none 0 0)]),
      (none, none, .store 4 (.t 6) (.t 13))])
    (.seq (.seq (.region [(some 14, none, .fieldAddr 0 (.t 6)),
      (some 15, none, .load false 1 (.t 14)),
      (some 16, none, .bin .neq .no (.t 15) (.c (.v (.int .i64 2)))),
      (some 17, none, .move (.t 16)),
      (some 18, some (17, false), .fieldAddr 1 (.t 6)),
      (some 19, some (17, false), .load false 1 (.t 18)),
      (some 20, some (17, false), .bin .lss .no (.t 19) (.c (.v (.int .i64 0)))),
      (some 21, none, .pick (.t 17) (.c (.v (.bool true))) (.t 20)),
      (some 22, none, .move (.t 21)),
      (some 23, some (22, false), .fieldAddr 1 (.t 6)),
      (some 24, some (22, false), .load false 1 (.t 23)),
      (some 25, some (22, false), .bin .gtr .no (.t 24) (.c (.v (.int .i64 15)))),
      (some 26, none, .pick (.t 22) (.c (.v (.bool true))) (.t 25))])
    (.cond (.t 26)
      (.seq (.region [(some 27, none, .build [.v (.int .i64 0), .v (.int .i64 0), .str [], .v (.slice none 0 0)] []),
        (some 2, none, .move (.c (.v (.int .i64 0)))),
        (some 3, none, .move (.c (.v (.int .i64 0)))),
        (none, none, .store 4 (.t 4) (.t 27))])
      (.ret))
      (.skip)))
    (.region [(some 28, none, .fieldAddr 3 (.t 1)),
      (some 29, none, .load false 1 (.t 28)),
      (some 30, none, .indexAddr 4 (.t 29) (.c (.v (.int .i64 0)))),
      (some 31, none, .load true 4 (.t 30)),
      (some 32, none, .fieldAddr 1 (.t 6)),
      (some 33, none, .load false 1 (.t 32)),
      (none, none, .store 4 (.t 1) (.t 31)),
      (none, none, .chk (some 33) (.load false 1 (.t 32))),
      (some 5, none, .move (.t 33))])))
    (.skip)))
  (.seq (.region [(some 34, none, .load true 4 (.t 1)),
    (some 35, none, .call 183 [.t 34]),
    (some 7, none, .move (.t 35))])
  (.seq (.seq (.region [(some 36, none, .move (.t 7)),
    (some 37, none, .bin .eql .no (.t 36) (.c (.v (.int .i64 0))))])
  (.cond (.t 37)
    (.seq (.region [(some 38, none, .build [.v (.int .i64 0), .v (.int .i64 0), .str [], .v (.slice none 0 0)] []),
      (some 2, none, .move (.c (.v (.int .i64 0)))),
      (some 3, none, .move (.c (.v (.int .i64 0)))),
      (none, none, .store 4 (.t 4) (.t 38))])
    (.ret))
    (.skip)))
  (.seq (.region [(some 39, none, .move (.t 7)),
    (some 40, none, .move (.t 5)),
    (some 41, none, .load true 4 (.t 1)),
    (some 2, none, .move (.t 39)),
    (some 3, none, .move (.t 40)),
    (none, none, .store 4 (.t 4) (.t 41))])
  (.ret))))))
def r96 : List ARet := [.tmp 2, .tmp 3, .cell 4 true 4]

/-- riparian/riparianref01.Is -/
def c97 : ACode :=
  .seq (.region [(some 1, none, .box 24 (.t 0)),
    (some 2, none, .move (.c (.v (.bool false))))])
  (.seq (.region [(some 6, none, .load true 4 (.t 1)),
    (some 7, none, .call 184 [.t 6]),
    (some 5, none, .move (.t 7)),
    (some 8, none, .extract (.t 5) 0),
    (some 9, none, .extract (.t 5) 1),
    (some 3, none, .move (.t 8)),
    (some 4, none, .move (.t 9))])
  (.seq (.region [(some 10, none, .move (.t 3)),
    (some 11, none, .bin .leq .no (.t 10) (.c (.v (.int .i64 4000)))),
    (some 12, none, .move (.t 11)),
    (some 13, some (12, true), .move (.t 4)),
    (some 14, some (12, true), .bin .leq .no (.t 13) (.c (.v (.int .i64 600)))),
    (some 15, none, .pick (.t 12) (.t 14) (.c (.v (.bool false)))),
    (some 16, none, .move (.t 15)),
    (some 17, some (16, true), .load true 4 (.t 1)),
    (some 18, some (16, true), .call 185 [.t 17]),
    (some 19, none, .pick (.t 16) (.t 18) (.c (.v (.bool false)))),
    (some 2, none, .move (.t 19))])
  (.ret)))
def r97 : List ARet := [.tmp 2]

/-- riparian/riparianref04.goal -/
def c98 : ACode :=
  .seq (.region [(some 1, none, .box 24 (.t 0)),
    (some 2, none, .move (.c (.v (.int .i64 0)))),
    (some 3, none, .move (.c (.v (.int .i64 0)))),
    (some 4, none, .alloc 24 [.v (.int .i64 0), .v (.int .i64 0), .str [], .v (.slice none 0 0)])])
  (.seq (.region [(some 5, none, .move (.c (.v (.int .i64 0))))])
  (.seq (.seq (.region [(some 7, none, .load true 4 (.t 1)),
    (some 8, none, .call 121 [.t 7, .c (.str [64]), .c (.v (.int .i64 2))])])
  (.cond (.t 8)
    (.seq (.seq (.region [(some 9, none, .fieldAddr 3 (.t 1)),
      (some 10, none, .load false 1 (.t 9)),
      (some 11, none, .indexAddr 4 (.t 10) (.c (.v (.int .i64 1)))),
      (some 12, none, .fieldAddr 0 (.t 11)),
      (some 13, none, .load false 1 (.t 12)),
      (some 14, none, .bin .neq .no (.t 13) (.c (.v (.int .i64 2)))),
      (some 15, none, .move (.t 14)),
      (some 16, some (15, false), .fieldAddr 3 (.t 1)),
      (some 17, some (15, false), .load false 1 (.t 16)),
      (some 18, some (15, false), .indexAddr 4 (.t 17) (.c (.v (.int .i64 1)))),
      (some 19, some (15, false), .fieldAddr 1 (.t 18)),
      (some 20, some (15, false), .load false 1 (.t 19)),
      (some 21, some (15, false), .bin .lss .no (.t 20) (.c (.v (.int .i64 0)))),
      (some 22, none, .pick (.t 15) (.c (.v (.bool true))) (.t 21)),
      (some 23, none, .move (.t 22)),
      (some 24, some (23, false), .fieldAddr 3 (.t 1)),
      (some 25, some (23, false), .load false 1 (.t 24)),
      (some 26, some (23, false), .indexAddr 4 (.t 25) (.c (.v (.int .i64 1)))),
      (some 27, some (23, false), .fieldAddr 1 (.t 26)),
      (some 28, some (23, false), .load false 1 (.t 27)),
      (some 29, some (23, false), .bin .gtr .no (.t 28) (.c (.v (.int .i64 15)))),
      (some 30, none, .pick (.t 23) (.c (.v (.bool true))) (.t 29))])
    (.cond (.t 30)
      (.seq (.region [(some 31, none, .build [.v (.int .i64 0), .v (.int .i64 0), .str [], .v (.slice none 0 0)] []),
        (some 2, none, .move (.c (.v (.int .i64 0)))),
        (some 3, none, .move (.c (.v (.int .i64 0)))),
        (none, none, .store 4 (.t 4) (.t 31))])
      (.ret))
      (.skip)))
    (.seq (.region [(some 32, none, .fieldAddr 3 (.t 1)),
      (some 33, none, .load false 1 (.t 32)),
      (some 34, none, .indexAddr 4 (.t 33) (.c (.v (.int .i64 1)))),
      (some 35, none, .fieldAddr 1 (.t 34)),
      (some 36, none, .load false 1 (.t 35)),
      (some 5, none, .move (.t 36))])
    (.region [(some 37, none, .fieldAddr 3 (.t 1)),
      (some 38, none, .load false 1 (.t 37)),
      (some 39, none, .indexAddr 4 (.t 38) (.c (.v (.int .i64 0)))),
      (some 40, none, .load true 4 (.t 39)),
      (none, none, .store 4 (.t 1) (.t 40))])))
    (.skip)))
  (.seq (.region [(some 41, none, .load true 4 (.t 1)),
    (some 42, none, .call 186 [.t 41]),
    (some 6, none, .move (.t 42))])
  (.seq (.seq (.region [(some 43, none, .move (.t 6)),
    (some 44, none, .bin .eql .no (.t 43) (.c (.v (.int .i64 0))))])
  (.cond (.t 44)
    (.seq (.region [(some 45, none, .build [.v (.int .i64 0), .v (.int .i64 0), .str [], .v (.slice none 0 0)] []),
      (some 2, none, .move (.c (.v (.int .i64 0)))),
      (some 3, none, .move (.c (.v (.int .i64 0)))),
      (none, none, .store 4 (.t 4) (.t 45))])
    (.ret))
    (.skip)))
  (.seq (.region [(some 46, none, .move (.t 6)),
    (some 47, none, .move (.t 5)),
    (some 48, none, .load true 4 (.t 1)),
    (some 2, none, .move (.t 46)),
    (some 3, none, .move (.t 47)),
    (none, none, .store 4 (.t 4) (.t 48))])
  (.ret))))))
def r98 : List ARet := [.tmp 2, .tmp 3, .cell 4 true 4]

/-- riparian/prog.expr -/
def c99 : ACode :=
  .seq (.region [(some 1, none, .box 24 (.t 0)),
    (some 2, none, .move (.c (.v (.bool false))))])
  (.seq (.seq (.region [(some 4, none, .fieldAddr 0 (.t 1)),
    (some 5, none, .load false 1 (.t 4))])
  (.block 0
    (.seq (.seq (.region [(some 7, none, .bin .eql .no (.t 5) (.c (.v (.int .i64 2)))),
      (some 6, none, .move (.t 7))])
    (.cond (.t 6)
      (.skip)
      (.region [(some 8, none, .bin .eql .no (.t 5) (.c (.v (.int .i64 1)))),
        (some 6, none, .move (.t 8))])))
    (.cond (.t 6)
      (.seq (.region [(some 2, none, .move (.c (.v (.bool true))))])
      (.ret))
      (.seq (.region [(some 10, none, .bin .eql .no (.t 5) (.c (.v (.int .i64 5)))),
        (some 9, none, .move (.t 10))])
      (.cond (.t 9)
        (.seq (.region [(some 11, none, .sliceArr 6 1 (.g 0) none (some (.c (.v (.int .i64 5))))),
          (some 12, none, .fieldAddr 2 (.t 1)),
          (some 13, none, .load false 1 (.t 12)),
          (some 14, none, .call 187 [.t 11, .t 13]),
          (some 3, none, .move (.t 14))])
        (.seq (.region [(some 15, none, .move (.t 3)),
          (some 16, none, .bin .geq .no (.t 15) (.c (.v (.int .i64 0)))),
          (some 17, none, .move (.t 16)),
          (some 18, some (17, true), .fieldAddr 3 (.t 1)),
          (some 19, some (17, true), .load false 1 (.t 18)),
          (some 20, some (17, true), .len .sl (.t 19)),
          (some 21, some (17, true), .bin .eql .no (.t 20) (.c (.v (.int .i64 2)))),
          (some 22, some (17, true), .move (.t 21)),
          (some 23, some (22, false), .fieldAddr 3 (.t 1)),
          (some 24, some (22, false), .load false 1 (.t 23)),
          (some 25, some (22, false), .len .sl (.t 24)),
          (some 26, some (22, false), .bin .eql .no (.t 25) (.c (.v (.int .i64 1)))),
          (some 27, some (22, false), .move (.t 26)),
          (some 28, some (27, true), .fieldAddr 2 (.t 1)),
          (some 29, some (27, true), .load false 1 (.t 28)),
          (some 30, some (27, true), .bin .eql .no (.t 29) (.c (.str [45]))),
          (some 31, some (22, false), .pick (.t 27) (.t 30) (.c (.v (.bool false)))),
          (some 32, some (17, true), .pick (.t 22) (.c (.v (.bool true))) (.t 31)),
          (some 33, none, .pick (.t 17) (.t 32) (.c (.v (.bool false)))),
          (some 34, none, .move (.t 33)),
          (some 35, some (34, true), .fieldAddr 3 (.t 1)),
          (some 36, some (34, true), .load false 1 (.t 35)),
          (some 37, some (34, true), .call 188 [.t 36, .c (.fn (.func 189) [] [])]),
          (some 38, some (34, true), .un .not (.t 37)),
          (some 39, none, .pick (.t 34) (.t 38) (.c (.v (.bool false)))),
          (some 2, none, .move (.t 39))])
        (.ret)))
        (.skip)))))))
  (.seq (.region [(some 2, none, .move (.c (.v (.bool false))))])
  (.ret)))
def r99 : List ARet := [.tmp 2]

/-- riparian/riparianref04.expr -/
def c100 : ACode :=
  .seq (.region [(some 1, none, .box 24 (.t 0)),
    (some 2, none, .move (.c (.v (.bool false))))])
  (.seq (.seq (.region [(some 5, none, .fieldAddr 0 (.t 1)),
    (some 6, none, .load false 1 (.t 5)),
    (some 7, none, .bin .eql .no (.t 6) (.c (.v (.int .i64 2)))),
    (some 8, none, .move (.t 7)),
    (some 9, some (8, false), .fieldAddr 0 (.t 1)),
    (some 10, some (8, false), .load false 1 (.t 9)),
    (some 11, some (8, false), .bin .eql .no (.t 10) (.c (.v (.int .i64 1)))),
    (some 12, none, .pick (.t 8) (.c (.v (.bool true))) (.t 11))])
  (.cond (.t 12)
    (.seq (.region [(some 2, none, .move (.c (.v (.bool true))))])
    (.ret))
    (.skip)))
  (.seq (.seq (.region [(some 13, none, .load true 4 (.t 1)),
    (some 14, none, .call 121 [.t 13, .c (.str [45]), .c (.v (.int .i64 1))])])
  (.cond (.t 14)
    (.seq (.region [(some 15, none, .fieldAddr 3 (.t 1)),
      (some 16, none, .load false 1 (.t 15)),
      (some 17, none, .indexAddr 4 (.t 16) (.c (.v (.int .i64 0)))),
      (some 18, none, .load true 4 (.t 17)),
      (some 19, none, .call 100 [.t 18]),
      (some 2, none, .move (.t 19))])
    (.ret))
    (.skip)))
  (.seq (.region [(some 20, none, .load true 4 (.t 1)),
    (some 21, none, .call 121 [.t 20, .c (.str [43]), .c (.v (.int .i64 2))]),
    (some 22, none, .move (.t 21)),
    (some 23, some (22, false), .load true 4 (.t 1)),
    (some 24, some (22, false), .call 121 [.t 23, .c (.str [45]), .c (.v (.int .i64 2))]),
    (some 25, none, .pick (.t 22) (.c (.v (.bool true))) (.t 24)),
    (some 26, none, .move (.t 25)),
    (some 27, some (26, false), .load true 4 (.t 1)),
    (some 28, some (26, false), .call 121 [.t 27, .c (.str [42]), .c (.v (.int .i64 2))]),
    (some 29, none, .pick (.t 26) (.c (.v (.bool true))) (.t 28)),
    (some 30, none, .move (.t 29)),
    (some 31, some (30, false), .load true 4 (.t 1)),
    (some 32, some (30, false), .call 121 [.t 31, .c (.str [47]), .c (.v (.int .i64 2))]),
    (some 33, none, .pick (.t 30) (.c (.v (.bool true))) (.t 32)),
    (some 34, none, .move (.t 33)),
    (some 35, some (34, false), .load true 4 (.t 1)),
    (some 36, some (34, false), .call 121 [.t 35, .c (.str [109, 111, 100]), .c (.v (.int .i64 2))]),
    (some 37, none, .pick (.t 34) (.c (.v (.bool true))) (.t 36)),
    (some 3, none, .move (.t 37))])
  (.seq (.seq (.region [(some 38, none, .move (.t 3)),
    (some 39, none, .un .not (.t 38))])
  (.cond (.t 39)
    (.seq (.region [(some 2, none, .move (.c (.v (.bool false))))])
    (.ret))
    (.skip)))
  (.seq (.region [(some 40, none, .fieldAddr 3 (.t 1)),
    (some 41, none, .load false 1 (.t 40)),
    (some 42, none, .indexAddr 4 (.t 41) (.c (.v (.int .i64 0)))),
    (some 43, none, .load true 4 (.t 42)),
    (some 44, none, .call 100 [.t 43]),
    (some 4, none, .move (.t 44))])
  (.seq (.region [(some 45, none, .move (.t 4)),
    (some 46, none, .move (.t 45)),
    (some 47, some (46, true), .fieldAddr 3 (.t 1)),
    (some 48, some (46, true), .load false 1 (.t 47)),
    (some 49, some (46, true), .indexAddr 4 (.t 48) (.c (.v (.int .i64 1)))),
    (some 50, some (46, true), .load true 4 (.t 49)),
    (some 51, some (46, true), .call 100 [.t 50]),
    (some 52, none, .pick (.t 46) (.t 51) (.c (.v (.bool false)))),
    (some 2, none, .move (.t 52))])
  (.ret)))))))
def r100 : List ARet := [.tmp 2]

/-- riparian/prog.test -/
def c101 : ACode :=
  .seq (.region [(some 1, none, .box 24 (.t 0)),
    (some 2, none, .move (.c (.v (.bool false))))])
  (.seq (.seq (.region [(some 5, none, .load true 4 (.t 1)),
    (some 6, none, .call 190 [.t 5, .c (.str [116, 114, 117, 101])])])
  (.cond (.t 6)
    (.seq (.region [(some 2, none, .move (.c (.v (.bool true))))])
    (.ret))
    (.skip)))
  (.seq (.seq (.region [(some 7, none, .fieldAddr 0 (.t 1)),
    (some 8, none, .load false 1 (.t 7)),
    (some 9, none, .bin .neq .no (.t 8) (.c (.v (.int .i64 5))))])
  (.cond (.t 9)
    (.seq (.region [(some 2, none, .move (.c (.v (.bool false))))])
    (.ret))
    (.skip)))
  (.seq (.seq (.region [(some 12, none, .fieldAddr 2 (.t 1)),
    (some 13, none, .load false 1 (.t 12)),
    (some 11, none, .call 191 []),
    (none, none, .chk (some 13) (.load false 1 (.t 12))),
    (some 14, none, .lookup (.one (.str)) (.v (.int .i64 0)) (.t 11) (.t 13) true),
    (some 10, none, .move (.t 14)),
    (some 15, none, .extract (.t 10) 0),
    (some 16, none, .extract (.t 10) 1),
    (some 3, none, .move (.t 15)),
    (some 4, none, .move (.t 16))])
  (.seq (.region [(some 17, none, .move (.t 4))])
  (.cond (.t 17)
    (.seq (.region [(some 18, none, .fieldAddr 3 (.t 1)),
      (some 19, none, .load false 1 (.t 18)),
      (some 20, none, .len .sl (.t 19)),
      (some 21, none, .move (.t 3)),
      (some 22, none, .bin .eql .no (.t 20) (.t 21)),
      (some 2, none, .move (.t 22))])
    (.ret))
    (.skip))))
  (.seq (.region [(some 24, none, .fieldAddr 2 (.t 1)),
    (some 25, none, .load false 1 (.t 24)),
    (some 23, none, .call 192 []),
    (none, none, .chk (some 25) (.load false 1 (.t 24))),
    (some 26, none, .lookup (.one (.str)) (.v (.bool false)) (.t 23) (.t 25) false),
    (some 27, none, .move (.t 26)),
    (some 28, some (27, true), .fieldAddr 3 (.t 1)),
    (some 29, some (27, true), .load false 1 (.t 28)),
    (some 30, some (27, true), .len .sl (.t 29)),
    (some 31, some (27, true), .bin .eql .no (.t 30) (.c (.v (.int .i64 2)))),
    (some 32, none, .pick (.t 27) (.t 31) (.c (.v (.bool false)))),
    (some 33, none, .move (.t 32)),
    (some 34, some (33, true), .fieldAddr 3 (.t 1)),
    (some 35, some (33, true), .load false 1 (.t 34)),
    (some 36, some (33, true), .indexAddr 4 (.t 35) (.c (.v (.int .i64 0)))),
    (some 37, some (33, true), .load true 4 (.t 36)),
    (some 38, some (33, true), .call 99 [.t 37]),
    (some 39, none, .pick (.t 33) (.t 38) (.c (.v (.bool false)))),
    (some 40, none, .move (.t 39)),
    (some 41, some (40, true), .fieldAddr 3 (.t 1)),
    (some 42, some (40, true), .load false 1 (.t 41)),
    (some 43, some (40, true), .indexAddr 4 (.t 42) (.c (.v (.int .i64 1)))),
    (some 44, some (40, true), .load true 4 (.t 43)),
    (some 45, some (40, true), .call 99 [.t 44]),
    (some 46, none, .pick (.t 40) (.t 45) (.c (.v (.bool false)))),
    (some 2, none, .move (.t 46))])
  (.ret)))))
def r101 : List ARet := [.tmp 2]

/-- riparian/riparianref04.test -/
def c102 : ACode :=
  .seq (.region [(some 1, none, .box 24 (.t 0)),
    (some 2, none, .move (.c (.v (.bool false))))])
  (.seq (.seq (.region [(some 5, none, .load true 4 (.t 1)),
    (some 6, none, .call 121 [.t 5, .c (.str [116, 114, 117, 101]), .c (.v (.int .i64 0))]),
    (some 7, none, .move (.t 6)),
    (some 8, some (7, false), .load true 4 (.t 1)),
    (some 9, some (7, false), .call 121 [.t 8, .c (.str [119, 97, 105, 116]), .c (.v (.int .i64 1))]),
    (some 10, none, .pick (.t 7) (.c (.v (.bool true))) (.t 9)),
    (some 11, none, .move (.t 10)),
    (some 12, some (11, false), .load true 4 (.t 1)),
    (some 13, some (11, false), .call 121 [.t 12, .c (.str [105, 110, 116, 101, 103, 101, 114]), .c (.v (.int .i64 1))]),
    (some 14, none, .pick (.t 11) (.c (.v (.bool true))) (.t 13)),
    (some 15, none, .move (.t 14)),
    (some 16, some (15, false), .load true 4 (.t 1)),
    (some 17, some (15, false), .call 121 [.t 16, .c (.str [97, 116, 111, 109]), .c (.v (.int .i64 1))]),
    (some 18, none, .pick (.t 15) (.c (.v (.bool true))) (.t 17)),
    (some 19, none, .move (.t 18)),
    (some 20, some (19, false), .load true 4 (.t 1)),
    (some 21, some (19, false), .call 121 [.t 20, .c (.str [115, 116, 114, 105, 110, 103]), .c (.v (.int .i64 1))]),
    (some 22, none, .pick (.t 19) (.c (.v (.bool true))) (.t 21)),
    (some 23, none, .move (.t 22)),
    (some 24, some (23, false), .load true 4 (.t 1)),
    (some 25, some (23, false), .call 121 [.t 24, .c (.str [118, 101, 99, 116, 111, 114]), .c (.v (.int .i64 1))]),
    (some 26, none, .pick (.t 23) (.c (.v (.bool true))) (.t 25)),
    (some 27, none, .move (.t 26)),
    (some 28, some (27, false), .load true 4 (.t 1)),
    (some 29, some (27, false), .call 121 [.t 28, .c (.str [108, 105, 115, 116]), .c (.v (.int .i64 1))]),
    (some 30, none, .pick (.t 27) (.c (.v (.bool true))) (.t 29)),
    (some 31, none, .move (.t 30)),
    (some 32, some (31, false), .load true 4 (.t 1)),
    (some 33, some (31, false), .call 121 [.t 32, .c (.str [61, 61]), .c (.v (.int .i64 2))]),
    (some 34, none, .pick (.t 31) (.c (.v (.bool true))) (.t 33)),
    (some 35, none, .move (.t 34)),
    (some 36, some (35, false), .load true 4 (.t 1)),
    (some 37, some (35, false), .call 121 [.t 36, .c (.str [92, 61, 61]), .c (.v (.int .i64 2))]),
    (some 38, none, .pick (.t 35) (.c (.v (.bool true))) (.t 37))])
  (.cond (.t 38)
    (.seq (.region [(some 2, none, .move (.c (.v (.bool true))))])
    (.ret))
    (.skip)))
  (.seq (.region [(some 39, none, .load true 4 (.t 1)),
    (some 40, none, .call 121 [.t 39, .c (.str [61, 58, 61]), .c (.v (.int .i64 2))]),
    (some 41, none, .move (.t 40)),
    (some 42, some (41, false), .load true 4 (.t 1)),
    (some 43, some (41, false), .call 121 [.t 42, .c (.str [61, 92, 61]), .c (.v (.int .i64 2))]),
    (some 44, none, .pick (.t 41) (.c (.v (.bool true))) (.t 43)),
    (some 45, none, .move (.t 44)),
    (some 46, some (45, false), .load true 4 (.t 1)),
    (some 47, some (45, false), .call 121 [.t 46, .c (.str [60]), .c (.v (.int .i64 2))]),
    (some 48, none, .pick (.t 45) (.c (.v (.bool true))) (.t 47)),
    (some 49, none, .move (.t 48)),
    (some 50, some (49, false), .load true 4 (.t 1)),
    (some 51, some (49, false), .call 121 [.t 50, .c (.str [61, 60]), .c (.v (.int .i64 2))]),
    (some 52, none, .pick (.t 49) (.c (.v (.bool true))) (.t 51)),
    (some 53, none, .move (.t 52)),
    (some 54, some (53, false), .load true 4 (.t 1)),
    (some 55, some (53, false), .call 121 [.t 54, .c (.str [62]), .c (.v (.int .i64 2))]),
    (some 56, none, .pick (.t 53) (.c (.v (.bool true))) (.t 55)),
    (some 57, none, .move (.t 56)),
    (some 58, some (57, false), .load true 4 (.t 1)),
    (some 59, some (57, false), .call 121 [.t 58, .c (.str [62, 61]), .c (.v (.int .i64 2))]),
    (some 60, none, .pick (.t 57) (.c (.v (.bool true))) (.t 59)),
    (some 3, none, .move (.t 60))])
  (.seq (.seq (.region [(some 61, none, .move (.t 3)),
    (some 62, none, .un .not (.t 61))])
  (.cond (.t 62)
    (.seq (.region [(some 2, none, .move (.c (.v (.bool false))))])
    (.ret))
    (.skip)))
  (.seq (.region [(some 63, none, .fieldAddr 3 (.t 1)),
    (some 64, none, .load false 1 (.t 63)),
    (some 65, none, .indexAddr 4 (.t 64) (.c (.v (.int .i64 0)))),
    (some 66, none, .load true 4 (.t 65)),
    (some 67, none, .call 100 [.t 66]),
    (some 4, none, .move (.t 67))])
  (.seq (.region [(some 68, none, .move (.t 4)),
    (some 69, none, .move (.t 68)),
    (some 70, some (69, true), .fieldAddr 3 (.t 1)),
    (some 71, some (69, true), .load false 1 (.t 70)),
    (some 72, some (69, true), .indexAddr 4 (.t 71) (.c (.v (.int .i64 1)))),
    (some 73, some (69, true), .load true 4 (.t 72)),
    (some 74, some (69, true), .call 100 [.t 73]),
    (some 75, none, .pick (.t 69) (.t 74) (.c (.v (.bool false)))),
    (some 2, none, .move (.t 75))])
  (.ret))))))
def r102 : List ARet := [.tmp 2]

/-- riparian/prog.operations -/
def c103 : ACode :=
  .seq (.region [(some 0, none, .move (.c (.v (.map none))))])
  (.seq (.region [(some 1, none, .mkMap),
    (none, none, .mapUpdate (.one (.str)) (.t 1) (.c (.str [118, 101, 99, 116, 111, 114, 95, 110, 101, 119])) (.c (.v (.int .i64 2)))),
    (none, none, .mapUpdate (.one (.str)) (.t 1) (.c (.str [118, 101, 99, 116, 111, 114, 95, 103, 101, 116])) (.c (.v (.int .i64 4)))),
    (none, none, .mapUpdate (.one (.str)) (.t 1) (.c (.str [118, 101, 99, 116, 111, 114, 95, 115, 101, 116])) (.c (.v (.int .i64 4)))),
    (none, none, .mapUpdate (.one (.str)) (.t 1) (.c (.str [118, 101, 99, 116, 111, 114, 95, 115, 105, 122, 101])) (.c (.v (.int .i64 3)))),
    (none, none, .mapUpdate (.one (.str)) (.t 1) (.c (.str [115, 116, 114, 105, 110, 103, 95, 110, 101, 119])) (.c (.v (.int .i64 2)))),
    (none, none, .mapUpdate (.one (.str)) (.t 1) (.c (.str [115, 116, 114, 105, 110, 103, 95, 103, 101, 116])) (.c (.v (.int .i64 4)))),
    (none, none, .mapUpdate (.one (.str)) (.t 1) (.c (.str [115, 116, 114, 105, 110, 103, 95, 115, 101, 116])) (.c (.v (.int .i64 4)))),
    (none, none, .mapUpdate (.one (.str)) (.t 1) (.c (.str [115, 116, 114, 105, 110, 103, 95, 115, 105, 122, 101])) (.c (.v (.int .i64 3)))),
    (none, none, .mapUpdate (.one (.str)) (.t 1) (.c (.str [115, 116, 114, 105, 110, 103, 95, 106, 111, 105, 110])) (.c (.v (.int .i64 3)))),
    (some 2, none, .move (.t 1)),
    (some 0, none, .move (.t 2))])
  (.ret))
def r103 : List ARet := [.tmp 0]

/-- riparian/prog.fixed -/
def c104 : ACode :=
  .seq (.region [(some 0, none, .move (.c (.v (.map none))))])
  (.seq (.drawn [((some 1, none, .mkMap), []),
    ((some 2, none, .build [.str [], .v (.int .i64 0)] [(0, 1, .c (.str [116, 114, 117, 101]))]), []),
    ((none, none, .mapUpdate (.st [.str, .int .i64]) (.t 1) (.t 2) (.c (.v (.bool true)))), [0, 1]),
    ((some 3, none, .build [.str [], .v (.int .i64 0)] [(0, 1, .c (.str [61])), (1, 1, .c (.v (.int .i64 2)))]), []),
    ((none, none, .mapUpdate (.st [.str, .int .i64]) (.t 1) (.t 3) (.c (.v (.bool true)))), [0, 3]),
    ((some 4, none, .build [.str [], .v (.int .i64 0)] [(0, 1, .c (.str [58, 61])), (1, 1, .c (.v (.int .i64 2)))]), []),
    ((none, none, .mapUpdate (.st [.str, .int .i64]) (.t 1) (.t 4) (.c (.v (.bool true)))), [0, 5]),
    ((some 5, none, .build [.str [], .v (.int .i64 0)] [(0, 1, .c (.str [64])), (1, 1, .c (.v (.int .i64 2)))]), []),
    ((none, none, .mapUpdate (.st [.str, .int .i64]) (.t 1) (.t 5) (.c (.v (.bool true)))), [0, 7]),
    ((some 6, none, .build [.str [], .v (.int .i64 0)] [(0, 1, .c (.str [58, 45])), (1, 1, .c (.v (.int .i64 2)))]), []),
    ((none, none, .mapUpdate (.st [.str, .int .i64]) (.t 1) (.t 6) (.c (.v (.bool true)))), [0, 9]),
    ((some 7, none, .build [.str [], .v (.int .i64 0)] [(0, 1, .c (.str [58, 45])), (1, 1, .c (.v (.int .i64 1)))]), []),
    ((none, none, .mapUpdate (.st [.str, .int .i64]) (.t 1) (.t 7) (.c (.v (.bool true)))), [0, 11]),
    ((some 8, none, .build [.str [], .v (.int .i64 0)] [(0, 1, .c (.str [44])), (1, 1, .c (.v (.int .i64 2)))]), []),
    ((none, none, .mapUpdate (.st [.str, .int .i64]) (.t 1) (.t 8) (.c (.v (.bool true)))), [0, 13]),
    ((some 9, none, .build [.str [], .v (.int .i64 0)] [(0, 1, .c (.str [124])), (1, 1, .c (.v (.int .i64 2)))]), []),
    ((none, none, .mapUpdate (.st [.str, .int .i64]) (.t 1) (.t 9) (.c (.v (.bool true)))), [0, 15]),
    ((some 10, none, .build [.str [], .v (.int .i64 0)] [(0, 1, .c (.str [111, 116, 104, 101, 114, 119, 105, 115, 101]))]), []),
    ((none, none, .mapUpdate (.st [.str, .int .i64]) (.t 1) (.t 10) (.c (.v (.bool true)))), [0, 17]),
    ((some 11, none, .build [.str [], .v (.int .i64 0)] [(0, 1, .c (.str [97, 108, 116, 101, 114, 110, 97, 116, 105, 118, 101, 108, 121]))]), []),
    ((none, none, .mapUpdate (.st [.str, .int .i64]) (.t 1) (.t 11) (.c (.v (.bool true)))), [0, 19]),
    ((some 12, none, .move (.t 1)), [0, 1, 2, 3, 4, 5, 6, 7, 8, 9, 10, 11, 12, 13, 14, 15, 16, 17, 18, 19, 20]),
    ((some 0, none, .move (.t 12)), [21, 0, 1, 2, 3, 4, 5, 6, 7, 8, 9, 10, 11, 12, 13, 14, 15, 16, 17, 18, 19, 20, 21])])
  (.ret))
def r104 : List ARet := [.tmp 0]

/-- riparian/riparianref04.is -/
def c105 : ACode :=
  .seq (.region [(some 3, none, .box 26 (.t 1)),
    (some 4, none, .move (.c (.v (.bool false))))])
  (.seq (.seq (.region [(some 5, none, .move (.c (.v (.int .i64 0))))])
  (.block 0
    (.loop
      (.seq (.seq (.region [(some 6, none, .move (.t 5)),
        (some 7, none, .move (.t 0)),
        (some 8, none, .len .sl (.t 7)),
        (some 9, none, .bin .lss .no (.t 6) (.t 8))])
      (.cond (.t 9)
        (.skip)
        (.exit 0)))
      (.seq (.block 1
        (.seq (.region [(some 12, none, .move (.t 0)),
          (some 13, none, .move (.t 5)),
          (some 14, none, .indexAddr 2 (.t 12) (.t 13)),
          (some 15, none, .load true 2 (.t 14)),
          (some 16, none, .load true 2 (.t 3)),
          (some 17, none, .bin .eql (.st [.str, .int .i64]) (.t 15) (.t 16))])
        (.cond (.t 17)
          (.seq (.region [(some 4, none, .move (.c (.v (.bool true))))])
          (.ret))
          (.skip))))
      (.region [(some 10, none, .move (.t 5)),
        (some 11, none, .bin .add .no (.t 10) (.c (.v (.int .i64 1)))),
        (some 5, none, .move (.t 11))]))))))
  (.seq (.region [(some 4, none, .move (.c (.v (.bool false))))])
  (.ret)))
def r105 : List ARet := [.tmp 4]

/-- riparian/riparianref04.reserved -/
def c106 : ACode :=
  .seq (.region [(some 0, none, .move (.c (.v (.slice none 0 0))))])
  (.seq (.region [(some 2, none, .build [.str [], .v (.int .i64 0)] [(0, 1, .c (.str [116, 114, 117, 101]))]),
    (some 3, none, .build [.str [], .v (.int .i64 0)] [(0, 1, .c (.str [61])), (1, 1, .c (.v (.int .i64 2)))]),
    (some 4, none, .build [.str [], .v (.int .i64 0)] [(0, 1, .c (.str [58, 61])), (1, 1, .c (.v (.int .i64 2)))]),
    (some 5, none, .build [.str [], .v (.int .i64 0)] [(0, 1, .c (.str [64])), (1, 1, .c (.v (.int .i64 2)))]),
    (some 6, none, .build [.str [], .v (.int .i64 0)] [(0, 1, .c (.str [58, 45])), (1, 1, .c (.v (.int .i64 2)))]),
    (some 7, none, .build [.str [], .v (.int .i64 0)] [(0, 1, .c (.str [58, 45])), (1, 1, .c (.v (.int .i64 1)))]),
    (some 8, none, .build [.str [], .v (.int .i64 0)] [(0, 1, .c (.str [44])), (1, 1, .c (.v (.int .i64 2)))]),
    (some 9, none, .build [.str [], .v (.int .i64 0)] [(0, 1, .c (.str [124])), (1, 1, .c (.v (.int .i64 2)))]),
    (some 10, none, .build [.str [], .v (.int .i64 0)] [(0, 1, .c (.str [111, 116, 104, 101, 114, 119, 105, 115, 101]))]),
    (some 11, none, .build [.str [], .v (.int .i64 0)] [(0, 1, .c (.str [97, 108, 116, 101, 114, 110, 97, 116, 105, 118, 101, 108, 121]))]),
    (some 12, none, .buildSlice 26 2 (.agg [.str [], .v (.int .i64 0)]) 10 [(0, .t 2), (1, .t 3), (2, .t 4), (3, .t 5), (4, .t 6), (5, .t 7), (6, .t 8), (7, .t 9), (8, .t 10), (9, .t 11)]),
    (some 1, none, .move (.t 12))])
  (.seq (.region [(some 13, none, .move (.t 1)),
    (some 14, none, .call 193 []),
    (some 15, none, .append 26 2 24 (.t 13) (.t 14)),
    (some 0, none, .move (.t 15))])
  (.ret)))
def r106 : List ARet := [.tmp 0]

/-- slices.IndexFunc[[]riparian/api.Term,riparian/api.Term] -/
def c110 : ACode :=
  .seq (.region [(some 4, none, .move (.c (.v (.int .i64 0))))])
  (.seq (.seq (.region [(some 6, none, .move (.t 0)),
    (some 7, none, .len .sl (.t 6)),
    (some 8, none, .move (.c (.v (.int .i64 0))))])
  (.block 0
    (.loop
      (.seq (.region [(some 9, none, .bin .lss .no (.t 8) (.t 7))])
      (.seq (.cond (.t 9)
        (.skip)
        (.exit 0))
      (.seq (.block 1
        (.seq (.region [(some 10, none, .move (.t 8)),
          (some 5, none, .move (.t 10))])
        (.seq (.region [(some 11, none, .move (.t 1)),
          (some 12, none, .move (.t 0)),
          (some 13, none, .move (.t 5)),
          (some 14, none, .indexAddr 4 (.t 12) (.t 13)),
          (some 15, none, .load true 4 (.t 14)),
          (some 16, none, .callV (.t 11) [.t 15])])
        (.cond (.t 16)
          (.seq (.region [(some 17, none, .move (.t 5)),
            (some 4, none, .move (.t 17))])
          (.ret))
          (.skip)))))
      (.region [(some 18, none, .bin .add .no (.t 8) (.c (.v (.int .i64 1)))),
        (some 8, none, .move (.t 18))])))))))
  (.seq (.region [(some 4, none, .move (.c (.v (.int .i64 (-1)))))])
  (.ret)))
def r110 : List ARet := [.tmp 4]

/-- riparian/riparianref04.fun -/
def c121 : ACode :=
  .seq (.region [(some 3, none, .box 24 (.t 0)),
    (some 6, none, .move (.c (.v (.bool false))))])
  (.seq (.seq (.region [(some 7, none, .move (.t 2)),
    (some 8, none, .bin .eql .no (.t 7) (.c (.v (.int .i64 0))))])
  (.cond (.t 8)
    (.seq (.region [(some 9, none, .fieldAddr 0 (.t 3)),
      (some 10, none, .load false 1 (.t 9)),
      (some 11, none, .bin .eql .no (.t 10) (.c (.v (.int .i64 3)))),
      (some 12, none, .move (.t 11)),
      (some 13, some (12, true), .fieldAddr 2 (.t 3)),
      (some 14, some (12, true), .load false 1 (.t 13)),
      (some 15, some (12, true), .move (.t 1)),
      (some 16, some (12, true), .bin .eql .no (.t 14) (.t 15)),
      (some 17, none, .pick (.t 12) (.t 16) (.c (.v (.bool false)))),
      (some 6, none, .move (.t 17))])
    (.ret))
    (.skip)))
  (.seq (.region [(some 18, none, .fieldAddr 0 (.t 3)),
    (some 19, none, .load false 1 (.t 18)),
    (some 20, none, .bin .eql .no (.t 19) (.c (.v (.int .i64 5)))),
    (some 21, none, .move (.t 20)),
    (some 22, some (21, true), .fieldAddr 2 (.t 3)),
    (some 23, some (21, true), .load false 1 (.t 22)),
    (some 24, some (21, true), .move (.t 1)),
    (some 25, some (21, true), .bin .eql .no (.t 23) (.t 24)),
    (some 26, none, .pick (.t 21) (.t 25) (.c (.v (.bool false)))),
    (some 27, none, .move (.t 26)),
    (some 28, some (27, true), .fieldAddr 3 (.t 3)),
    (some 29, some (27, true), .load false 1 (.t 28)),
    (some 30, some (27, true), .len .sl (.t 29)),
    (some 31, some (27, true), .move (.t 2)),
    (some 32, some (27, true), .bin .eql .no (.t 30) (.t 31)),
    (some 33, none, .pick (.t 27) (.t 32) (.c (.v (.bool false)))),
    (some 6, none, .move (.t 33))])
  (.ret)))
def r121 : List ARet := [.tmp 6]

/-- riparian/term.CheckAll -/
def c181 : ACode :=
  .seq (.region [(some 2, none, .move (.c (.v (.int .i64 0))))])
  (.seq (.region [(some 8, none, .call 243 []),
    (some 4, none, .alloc 256 [.v (.nilFunc), .v (.nilFunc), .v (.nilFunc), .v (.nilFunc), .v (.nilFunc), .v (.nilFunc), .v (.nilFunc)]),
    (some 3, none, .move (.c (.v (.int .i64 4000)))),
    (none, none, .store 7 (.t 4) (.t 8))])
  (.seq (.seq (.region [(some 9, none, .move (.t 0)),
    (some 10, none, .len .sl (.t 9)),
    (some 11, none, .move (.c (.v (.int .i64 0))))])
  (.block 0
    (.loop
      (.seq (.region [(some 12, none, .bin .lss .no (.t 11) (.t 10))])
      (.seq (.cond (.t 12)
        (.skip)
        (.exit 0))
      (.seq (.block 1
        (.seq (.region [(some 13, none, .indexAddr 4 (.t 9) (.t 11)),
          (some 14, none, .load true 4 (.t 13)),
          (some 6, none, .alloc 24 [.v (.int .i64 0), .v (.int .i64 0), .str [], .v (.slice none 0 0)]),
          (none, none, .store 4 (.t 6) (.t 14))])
        (.seq (.region [(some 15, none, .load true 4 (.t 6)),
          (some 16, none, .move (.t 3)),
          (some 17, none, .load true 7 (.t 4)),
          (some 18, none, .call 244 [.t 15, .t 16, .c (.v (.int .i64 600)), .t 17]),
          (some 7, none, .move (.t 18))])
        (.seq (.seq (.region [(some 19, none, .move (.t 7)),
          (some 20, none, .move (.t 3)),
          (some 21, none, .bin .gtr .no (.t 19) (.t 20))])
        (.cond (.t 21)
          (.seq (.region [(some 2, none, .move (.c (.v (.int .i64 3))))])
          (.ret))
          (.skip)))
        (.region [(some 22, none, .move (.t 3)),
          (some 23, none, .move (.t 7)),
          (some 24, none, .bin .sub .no (.t 22) (.t 23)),
          (some 3, none, .move (.t 24))])))))
      (.region [(some 25, none, .bin .add .no (.t 11) (.c (.v (.int .i64 1)))),
        (some 11, none, .move (.t 25))])))))))
  (.seq (.region [(some 2, none, .move (.c (.v (.int .i64 0))))])
  (.ret))))
def r181 : List ARet := [.tmp 2]

/-- riparian/prog.isFun -/
def c182 : ACode :=
  .seq (.region [(some 3, none, .box 24 (.t 0)),
    (some 6, none, .move (.c (.v (.bool false))))])
  (.seq (.region [(some 7, none, .fieldAddr 0 (.t 3)),
    (some 8, none, .load false 1 (.t 7)),
    (some 9, none, .bin .eql .no (.t 8) (.c (.v (.int .i64 5)))),
    (some 10, none, .move (.t 9)),
    (some 11, some (10, true), .fieldAddr 2 (.t 3)),
    (some 12, some (10, true), .load false 1 (.t 11)),
    (some 13, some (10, true), .move (.t 1)),
    (some 14, some (10, true), .bin .eql .no (.t 12) (.t 13)),
    (some 15, none, .pick (.t 10) (.t 14) (.c (.v (.bool false)))),
    (some 16, none, .move (.t 15)),
    (some 17, some (16, true), .fieldAddr 3 (.t 3)),
    (some 18, some (16, true), .load false 1 (.t 17)),
    (some 19, some (16, true), .len .sl (.t 18)),
    (some 20, some (16, true), .move (.t 2)),
    (some 21, some (16, true), .bin .eql .no (.t 19) (.t 20)),
    (some 22, none, .pick (.t 16) (.t 21) (.c (.v (.bool false)))),
    (some 6, none, .move (.t 22))])
  (.ret))
def r182 : List ARet := [.tmp 6]

/-- riparian/prog.kind -/
def c183 : ACode :=
  .seq (.region [(some 1, none, .box 24 (.t 0)),
    (some 2, none, .move (.c (.v (.int .i64 0))))])
  (.seq (.region [(some 8, none, .load true 4 (.t 1)),
    (some 9, none, .call 234 [.t 8]),
    (some 7, none, .move (.t 9)),
    (some 10, none, .extract (.t 7) 0),
    (some 11, none, .extract (.t 7) 1),
    (some 3, none, .alloc 26 [.str [], .v (.int .i64 0)]),
    (none, none, .store 2 (.t 3) (.t 10)),
    (some 4, none, .move (.t 11))])
  (.seq (.seq (.region [(some 14, none, .fieldAddr 2 (.t 1)),
    (some 15, none, .load false 1 (.t 14)),
    (some 13, none, .call 103 []),
    (none, none, .chk (some 15) (.load false 1 (.t 14))),
    (some 16, none, .lookup (.one (.str)) (.v (.int .i64 0)) (.t 13) (.t 15) true),
    (some 12, none, .move (.t 16)),
    (some 17, none, .extract (.t 12) 0),
    (some 18, none, .extract (.t 12) 1),
    (some 5, none, .move (.t 17)),
    (some 6, none, .move (.t 18))])
  (.block 0
    (.seq (.region [(some 20, none, .move (.t 4)),
      (some 21, none, .un .not (.t 20)),
      (some 19, none, .move (.t 21))])
    (.cond (.t 19)
      (.seq (.region [(some 2, none, .move (.c (.v (.int .i64 0))))])
      (.ret))
      (.seq (.region [(some 23, none, .load true 4 (.t 1)),
        (some 24, none, .call 190 [.t 23, .c (.str [116, 114, 117, 101])]),
        (some 22, none, .move (.t 24))])
      (.cond (.t 22)
        (.seq (.region [(some 2, none, .move (.c (.v (.int .i64 2))))])
        (.ret))
        (.seq (.region [(some 26, none, .load true 4 (.t 1)),
          (some 27, none, .call 182 [.t 26, .c (.str [61]), .c (.v (.int .i64 2))]),
          (some 25, none, .move (.t 27))])
        (.cond (.t 25)
          (.seq (.region [(some 2, none, .move (.c (.v (.int .i64 3))))])
          (.ret))
          (.seq (.region [(some 29, none, .load true 4 (.t 1)),
            (some 30, none, .call 182 [.t 29, .c (.str [58, 61]), .c (.v (.int .i64 2))]),
            (some 28, none, .move (.t 30))])
          (.cond (.t 28)
            (.seq (.region [(some 2, none, .move (.c (.v (.int .i64 4))))])
            (.ret))
            (.seq (.region [(some 32, none, .move (.t 6)),
              (some 33, none, .move (.t 32)),
              (some 34, some (33, true), .move (.t 5)),
              (some 35, some (33, true), .fieldAddr 3 (.t 1)),
              (some 36, some (33, true), .load false 1 (.t 35)),
              (some 37, some (33, true), .len .sl (.t 36)),
              (some 38, some (33, true), .bin .eql .no (.t 34) (.t 37)),
              (some 39, none, .pick (.t 33) (.t 38) (.c (.v (.bool false)))),
              (some 31, none, .move (.t 39))])
            (.cond (.t 31)
              (.seq (.region [(some 2, none, .move (.c (.v (.int .i64 5))))])
              (.ret))
              (.seq (.region [(some 42, none, .load true 2 (.t 3)),
                (some 41, none, .call 104 []),
                (none, none, .chk (some 42) (.load true 2 (.t 3))),
                (some 43, none, .lookup (.st [.str, .int .i64]) (.v (.bool false)) (.t 41) (.t 42) false),
                (some 40, none, .move (.t 43))])
              (.cond (.t 40)
                (.seq (.region [(some 2, none, .move (.c (.v (.int .i64 0))))])
                (.ret))
                (.skip)))))))))))))))
  (.seq (.region [(some 2, none, .move (.c (.v (.int .i64 1))))])
  (.ret))))
def r183 : List ARet := [.tmp 2]

/-- riparian/riparianref01.Size -/
def c184 : ACode :=
  .seq (.region [(some 1, none, .box 24 (.t 0)),
    (some 2, none, .move (.c (.v (.int .i64 0)))),
    (some 3, none, .move (.c (.v (.int .i64 0))))])
  (.seq (.region [(some 4, none, .move (.c (.v (.int .i64 1))))])
  (.seq (.region [(some 5, none, .move (.c (.v (.int .i64 0))))])
  (.seq (.seq (.region [(some 6, none, .move (.c (.v (.int .i64 0))))])
  (.block 0
    (.loop
      (.seq (.seq (.region [(some 9, none, .move (.t 6)),
        (some 10, none, .fieldAddr 3 (.t 1)),
        (some 11, none, .load false 1 (.t 10)),
        (some 12, none, .len .sl (.t 11)),
        (some 13, none, .bin .lss .no (.t 9) (.t 12))])
      (.cond (.t 13)
        (.skip)
        (.exit 0)))
      (.seq (.block 1
        (.seq (.region [(some 17, none, .fieldAddr 3 (.t 1)),
          (some 18, none, .load false 1 (.t 17)),
          (some 19, none, .move (.t 6)),
          (some 20, none, .indexAddr 4 (.t 18) (.t 19)),
          (some 21, none, .load true 4 (.t 20)),
          (some 22, none, .call 184 [.t 21]),
          (some 16, none, .move (.t 22)),
          (some 23, none, .extract (.t 16) 0),
          (some 24, none, .extract (.t 16) 1),
          (some 7, none, .move (.t 23)),
          (some 8, none, .move (.t 24))])
        (.seq (.region [(some 25, none, .move (.t 4)),
          (some 26, none, .move (.t 7)),
          (some 27, none, .bin .add .no (.t 25) (.t 26)),
          (some 4, none, .move (.t 27))])
        (.region [(some 28, none, .move (.t 5)),
          (some 29, none, .move (.t 8)),
          (some 30, none, .max (.t 28) (.t 29)),
          (some 5, none, .move (.t 30))]))))
      (.region [(some 14, none, .move (.t 6)),
        (some 15, none, .bin .add .no (.t 14) (.c (.v (.int .i64 1)))),
        (some 6, none, .move (.t 15))]))))))
  (.seq (.region [(some 31, none, .move (.t 4)),
    (some 32, none, .move (.t 5)),
    (some 33, none, .bin .add .no (.t 32) (.c (.v (.int .i64 1)))),
    (some 2, none, .move (.t 31)),
    (some 3, none, .move (.t 33))])
  (.ret)))))
def r184 : List ARet := [.tmp 2, .tmp 3]

/-- riparian/riparianref01.nodes -/
def c185 : ACode :=
  .seq (.region [(some 1, none, .box 24 (.t 0)),
    (some 2, none, .move (.c (.v (.bool false))))])
  (.seq (.seq (.region [(some 5, none, .load true 4 (.t 1)),
    (some 6, none, .call 245 [.t 5]),
    (some 7, none, .un .not (.t 6))])
  (.cond (.t 7)
    (.seq (.region [(some 2, none, .move (.c (.v (.bool false))))])
    (.ret))
    (.skip)))
  (.seq (.seq (.region [(some 3, none, .move (.c (.v (.int .i64 0))))])
  (.block 0
    (.loop
      (.seq (.seq (.region [(some 8, none, .move (.t 3)),
        (some 9, none, .fieldAddr 3 (.t 1)),
        (some 10, none, .load false 1 (.t 9)),
        (some 11, none, .len .sl (.t 10)),
        (some 12, none, .bin .lss .no (.t 8) (.t 11))])
      (.cond (.t 12)
        (.skip)
        (.exit 0)))
      (.seq (.block 1
        (.seq (.region [(some 15, none, .fieldAddr 3 (.t 1)),
          (some 16, none, .load false 1 (.t 15)),
          (some 17, none, .move (.t 3)),
          (some 18, none, .indexAddr 4 (.t 16) (.t 17)),
          (some 19, none, .load true 4 (.t 18)),
          (some 20, none, .call 185 [.t 19]),
          (some 4, none, .move (.t 20))])
        (.seq (.region [(some 21, none, .move (.t 4)),
          (some 22, none, .un .not (.t 21))])
        (.cond (.t 22)
          (.seq (.region [(some 2, none, .move (.c (.v (.bool false))))])
          (.ret))
          (.skip)))))
      (.region [(some 13, none, .move (.t 3)),
        (some 14, none, .bin .add .no (.t 13) (.c (.v (.int .i64 1)))),
        (some 3, none, .move (.t 14))]))))))
  (.seq (.region [(some 2, none, .move (.c (.v (.bool true))))])
  (.ret))))
def r185 : List ARet := [.tmp 2]

/-- riparian/riparianref04.plain -/
def c186 : ACode :=
  .seq (.region [(some 1, none, .box 24 (.t 0)),
    (some 2, none, .move (.c (.v (.int .i64 0))))])
  (.seq (.region [(some 6, none, .load true 4 (.t 1)),
    (some 7, none, .call 202 [.t 6]),
    (some 5, none, .move (.t 7)),
    (some 8, none, .extract (.t 5) 0),
    (some 9, none, .extract (.t 5) 1),
    (some 3, none, .alloc 26 [.str [], .v (.int .i64 0)]),
    (none, none, .store 2 (.t 3) (.t 8)),
    (some 4, none, .move (.t 9))])
  (.seq (.seq (.region [(some 10, none, .move (.t 4)),
    (some 11, none, .un .not (.t 10))])
  (.cond (.t 11)
    (.seq (.region [(some 2, none, .move (.c (.v (.int .i64 0))))])
    (.ret))
    (.skip)))
  (.seq (.seq (.region [(some 12, none, .load true 4 (.t 1)),
    (some 13, none, .call 121 [.t 12, .c (.str [116, 114, 117, 101]), .c (.v (.int .i64 0))])])
  (.cond (.t 13)
    (.seq (.region [(some 2, none, .move (.c (.v (.int .i64 2))))])
    (.ret))
    (.skip)))
  (.seq (.seq (.region [(some 14, none, .load true 4 (.t 1)),
    (some 15, none, .call 121 [.t 14, .c (.str [61]), .c (.v (.int .i64 2))])])
  (.cond (.t 15)
    (.seq (.region [(some 2, none, .move (.c (.v (.int .i64 3))))])
    (.ret))
    (.skip)))
  (.seq (.seq (.region [(some 16, none, .load true 4 (.t 1)),
    (some 17, none, .call 121 [.t 16, .c (.str [58, 61]), .c (.v (.int .i64 2))])])
  (.cond (.t 17)
    (.seq (.region [(some 2, none, .move (.c (.v (.int .i64 4))))])
    (.ret))
    (.skip)))
  (.seq (.seq (.region [(some 19, none, .load true 2 (.t 3)),
    (some 18, none, .call 193 []),
    (none, none, .chk (some 19) (.load true 2 (.t 3))),
    (some 20, none, .call 105 [.t 18, .t 19])])
  (.cond (.t 20)
    (.seq (.region [(some 2, none, .move (.c (.v (.int .i64 5))))])
    (.ret))
    (.skip)))
  (.seq (.seq (.region [(some 21, none, .load true 2 (.t 3)),
    (some 22, none, .call 26 [.t 21])])
  (.cond (.t 22)
    (.seq (.region [(some 2, none, .move (.c (.v (.int .i64 0))))])
    (.ret))
    (.skip)))
  (.seq (.region [(some 2, none, .move (.c (.v (.int .i64 1))))])
  (.ret)))))))))
def r186 : List ARet := [.tmp 2]

/-- slices.Index[[]string,string] -/
def c187 : ACode :=
  .seq (.region [(some 4, none, .move (.c (.v (.int .i64 0))))])
  (.seq (.seq (.region [(some 6, none, .move (.t 0)),
    (some 7, none, .len .sl (.t 6)),
    (some 8, none, .move (.c (.v (.int .i64 0))))])
  (.block 0
    (.loop
      (.seq (.region [(some 9, none, .bin .lss .no (.t 8) (.t 7))])
      (.seq (.cond (.t 9)
        (.skip)
        (.exit 0))
      (.seq (.block 1
        (.seq (.region [(some 10, none, .move (.t 8)),
          (some 5, none, .move (.t 10))])
        (.seq (.region [(some 11, none, .move (.t 1)),
          (some 12, none, .move (.t 0)),
          (some 13, none, .move (.t 5)),
          (some 14, none, .indexAddr 1 (.t 12) (.t 13)),
          (some 15, none, .load false 1 (.t 14)),
          (some 16, none, .bin .eql .no (.t 11) (.t 15))])
        (.cond (.t 16)
          (.seq (.region [(some 17, none, .move (.t 5)),
            (some 4, none, .move (.t 17))])
          (.ret))
          (.skip)))))
      (.region [(some 18, none, .bin .add .no (.t 8) (.c (.v (.int .i64 1)))),
        (some 8, none, .move (.t 18))])))))))
  (.seq (.region [(some 4, none, .move (.c (.v (.int .i64 (-1)))))])
  (.ret)))
def r187 : List ARet := [.tmp 4]

/-- slices.ContainsFunc[[]riparian/api.Term,riparian/api.Term] -/
def c188 : ACode :=
  .seq (.region [(some 4, none, .move (.c (.v (.bool false))))])
  (.seq (.region [(some 5, none, .move (.t 0)),
    (some 6, none, .move (.t 1)),
    (some 7, none, .call 110 [.t 5, .t 6]),
    (some 8, none, .bin .geq .no (.t 7) (.c (.v (.int .i64 0)))),
    (some 4, none, .move (.t 8))])
  (.ret))
def r188 : List ARet := [.tmp 4]

/-- riparian/prog.expr$1 -/
def c189 : ACode :=
  .seq (.region [(some 1, none, .box 24 (.t 0)),
    (some 2, none, .move (.c (.v (.bool false))))])
  (.seq (.region [(some 3, none, .load true 4 (.t 1)),
    (some 4, none, .call 99 [.t 3]),
    (some 5, none, .un .not (.t 4)),
    (some 2, none, .move (.t 5))])
  (.ret))
def r189 : List ARet := [.tmp 2]

/-- riparian/prog.isAtom -/
def c190 : ACode :=
  .seq (.region [(some 2, none, .box 24 (.t 0)),
    (some 4, none, .move (.c (.v (.bool false))))])
  (.seq (.region [(some 5, none, .fieldAddr 0 (.t 2)),
    (some 6, none, .load false 1 (.t 5)),
    (some 7, none, .bin .eql .no (.t 6) (.c (.v (.int .i64 3)))),
    (some 8, none, .move (.t 7)),
    (some 9, some (8, true), .fieldAddr 2 (.t 2)),
    (some 10, some (8, true), .load false 1 (.t 9)),
    (some 11, some (8, true), .move (.t 1)),
    (some 12, some (8, true), .bin .eql .no (.t 10) (.t 11)),
    (some 13, none, .pick (.t 8) (.t 12) (.c (.v (.bool false)))),
    (some 4, none, .move (.t 13))])
  (.ret))
def r190 : List ARet := [.tmp 4]

/-- riparian/prog.tests -/
def c191 : ACode :=
  .seq (.region [(some 0, none, .move (.c (.v (.map none))))])
  (.seq (.region [(some 1, none, .mkMap),
    (none, none, .mapUpdate (.one (.str)) (.t 1) (.c (.str [119, 97, 105, 116])) (.c (.v (.int .i64 1)))),
    (none, none, .mapUpdate (.one (.str)) (.t 1) (.c (.str [105, 110, 116, 101, 103, 101, 114])) (.c (.v (.int .i64 1)))),
    (none, none, .mapUpdate (.one (.str)) (.t 1) (.c (.str [97, 116, 111, 109])) (.c (.v (.int .i64 1)))),
    (none, none, .mapUpdate (.one (.str)) (.t 1) (.c (.str [115, 116, 114, 105, 110, 103])) (.c (.v (.int .i64 1)))),
    (none, none, .mapUpdate (.one (.str)) (.t 1) (.c (.str [118, 101, 99, 116, 111, 114])) (.c (.v (.int .i64 1)))),
    (none, none, .mapUpdate (.one (.str)) (.t 1) (.c (.str [108, 105, 115, 116])) (.c (.v (.int .i64 1)))),
    (none, none, .mapUpdate (.one (.str)) (.t 1) (.c (.str [61, 61])) (.c (.v (.int .i64 2)))),
    (none, none, .mapUpdate (.one (.str)) (.t 1) (.c (.str [92, 61, 61])) (.c (.v (.int .i64 2)))),
    (some 2, none, .move (.t 1)),
    (some 0, none, .move (.t 2))])
  (.ret))
def r191 : List ARet := [.tmp 0]

/-- riparian/prog.comparisons -/
def c192 : ACode :=
  .seq (.region [(some 0, none, .move (.c (.v (.map none))))])
  (.seq (.region [(some 1, none, .mkMap),
    (none, none, .mapUpdate (.one (.str)) (.t 1) (.c (.str [61, 58, 61])) (.c (.v (.bool true)))),
    (none, none, .mapUpdate (.one (.str)) (.t 1) (.c (.str [61, 92, 61])) (.c (.v (.bool true)))),
    (none, none, .mapUpdate (.one (.str)) (.t 1) (.c (.str [60])) (.c (.v (.bool true)))),
    (none, none, .mapUpdate (.one (.str)) (.t 1) (.c (.str [61, 60])) (.c (.v (.bool true)))),
    (none, none, .mapUpdate (.one (.str)) (.t 1) (.c (.str [62])) (.c (.v (.bool true)))),
    (none, none, .mapUpdate (.one (.str)) (.t 1) (.c (.str [62, 61])) (.c (.v (.bool true)))),
    (some 2, none, .move (.t 1)),
    (some 0, none, .move (.t 2))])
  (.ret))
def r192 : List ARet := [.tmp 0]

/-- riparian/riparianref04.data -/
def c193 : ACode :=
  .seq (.region [(some 0, none, .move (.c (.v (.slice none 0 0))))])
  (.seq (.region [(some 1, none, .build [.str [], .v (.int .i64 0)] [(0, 1, .c (.str [118, 101, 99, 116, 111, 114, 95, 110, 101, 119])), (1, 1, .c (.v (.int .i64 2)))]),
    (some 2, none, .build [.str [], .v (.int .i64 0)] [(0, 1, .c (.str [118, 101, 99, 116, 111, 114, 95, 115, 105, 122, 101])), (1, 1, .c (.v (.int .i64 3)))]),
    (some 3, none, .build [.str [], .v (.int .i64 0)] [(0, 1, .c (.str [118, 101, 99, 116, 111, 114, 95, 103, 101, 116])), (1, 1, .c (.v (.int .i64 4)))]),
    (some 4, none, .build [.str [], .v (.int .i64 0)] [(0, 1, .c (.str [118, 101, 99, 116, 111, 114, 95, 115, 101, 116])), (1, 1, .c (.v (.int .i64 4)))]),
    (some 5, none, .build [.str [], .v (.int .i64 0)] [(0, 1, .c (.str [115, 116, 114, 105, 110, 103, 95, 110, 101, 119])), (1, 1, .c (.v (.int .i64 2)))]),
    (some 6, none, .build [.str [], .v (.int .i64 0)] [(0, 1, .c (.str [115, 116, 114, 105, 110, 103, 95, 115, 105, 122, 101])), (1, 1, .c (.v (.int .i64 3)))]),
    (some 7, none, .build [.str [], .v (.int .i64 0)] [(0, 1, .c (.str [115, 116, 114, 105, 110, 103, 95, 103, 101, 116])), (1, 1, .c (.v (.int .i64 4)))]),
    (some 8, none, .build [.str [], .v (.int .i64 0)] [(0, 1, .c (.str [115, 116, 114, 105, 110, 103, 95, 115, 101, 116])), (1, 1, .c (.v (.int .i64 4)))]),
    (some 9, none, .build [.str [], .v (.int .i64 0)] [(0, 1, .c (.str [115, 116, 114, 105, 110, 103, 95, 106, 111, 105, 110])), (1, 1, .c (.v (.int .i64 3)))]),
    (some 10, none, .buildSlice 26 2 (.agg [.str [], .v (.int .i64 0)]) 9 [(0, .t 1), (1, .t 2), (2, .t 3), (3, .t 4), (4, .t 5), (5, .t 6), (6, .t 7), (7, .t 8), (8, .t 9)]),
    (some 0, none, .move (.t 10))])
  (.ret))
def r193 : List ARet := [.tmp 0]

/-- riparian/riparianref04.SymbolOf -/
def c202 : ACode :=
  .seq (.region [(some 1, none, .box 24 (.t 0)),
    (some 2, none, .alloc 26 [.str [], .v (.int .i64 0)]),
    (some 3, none, .move (.c (.v (.bool false))))])
  (.seq (.seq (.region [(some 4, none, .fieldAddr 0 (.t 1)),
    (some 5, none, .load false 1 (.t 4)),
    (some 6, none, .bin .neq .no (.t 5) (.c (.v (.int .i64 3)))),
    (some 7, none, .move (.t 6)),
    (some 8, some (7, true), .fieldAddr 0 (.t 1)),
    (some 9, some (7, true), .load false 1 (.t 8)),
    (some 10, some (7, true), .bin .neq .no (.t 9) (.c (.v (.int .i64 5)))),
    (some 11, none, .pick (.t 7) (.t 10) (.c (.v (.bool false))))])
  (.cond (.t 11)
    (.seq (.region [(some 12, none, .build [.str [], .v (.int .i64 0)] []),
      (none, none, .store 2 (.t 2) (.t 12)),
      (some 3, none, .move (.c (.v (.bool false))))])
    (.ret))
    (.skip)))
  (.seq (.region [(some 13, none, .fieldAddr 2 (.t 1)),
    (some 14, none, .load false 1 (.t 13)),
    (some 15, none, .fieldAddr 3 (.t 1)),
    (some 16, none, .load false 1 (.t 15)),
    (some 17, none, .len .sl (.t 16)),
    (some 18, none, .build [.str [], .v (.int .i64 0)] [(0, 1, .t 14), (1, 1, .t 17)]),
    (none, none, .store 2 (.t 2) (.t 18)),
    (some 3, none, .move (.c (.v (.bool true))))])
  (.ret)))
def r202 : List ARet := [.cell 2 true 2, .tmp 3]

/-- riparian/prog.symbol -/
def c234 : ACode :=
  .seq (.region [(some 1, none, .box 24 (.t 0)),
    (some 2, none, .alloc 26 [.str [], .v (.int .i64 0)]),
    (some 3, none, .move (.c (.v (.bool false))))])
  (.seq (.region [(some 4, none, .fieldAddr 2 (.t 1)),
    (some 5, none, .load false 1 (.t 4)),
    (some 6, none, .fieldAddr 3 (.t 1)),
    (some 7, none, .load false 1 (.t 6)),
    (some 8, none, .len .sl (.t 7)),
    (some 9, none, .build [.str [], .v (.int .i64 0)] [(0, 1, .t 5), (1, 1, .t 8)]),
    (some 10, none, .fieldAddr 0 (.t 1)),
    (some 11, none, .load false 1 (.t 10)),
    (some 12, none, .bin .eql .no (.t 11) (.c (.v (.int .i64 3)))),
    (some 13, none, .move (.t 12)),
    (some 14, some (13, false), .fieldAddr 0 (.t 1)),
    (some 15, some (13, false), .load false 1 (.t 14)),
    (some 16, some (13, false), .bin .eql .no (.t 15) (.c (.v (.int .i64 5)))),
    (some 17, none, .pick (.t 13) (.c (.v (.bool true))) (.t 16)),
    (none, none, .store 2 (.t 2) (.t 9)),
    (none, some (13, false), .chk (some 15) (.load false 1 (.t 14))),
    (some 3, none, .move (.t 17))])
  (.ret))
def r234 : List ARet := [.cell 2 true 2, .tmp 3]

/-- riparian/term.forms -/
def c243 : ACode :=
  .seq (.region [(some 0, none, .alloc 256 [.v (.nilFunc), .v (.nilFunc), .v (.nilFunc), .v (.nilFunc), .v (.nilFunc), .v (.nilFunc), .v (.nilFunc)])])
  (.seq (.region [(some 1, none, .alloc 287 [.v (.nilFunc)]),
    (none, none, .store 1 (.t 1) (.c (.fn (.func 282) [] [])))])
  (.seq (.region [(some 2, none, .mkFunc 283 [] [.t 1]),
    (some 3, none, .mkFunc 284 [] [.t 1]),
    (some 4, none, .mkFunc 285 [] [.t 1]),
    (some 5, none, .mkFunc 287 [] [.t 1]),
    (some 6, none, .mkFunc 288 [] [.t 1]),
    (some 7, none, .mkFunc 289 [] [.t 1]),
    (some 8, none, .build [.v (.nilFunc), .v (.nilFunc), .v (.nilFunc), .v (.nilFunc), .v (.nilFunc), .v (.nilFunc), .v (.nilFunc)] [(1, 1, .t 2), (2, 1, .t 3), (3, 1, .t 4), (4, 1, .t 5), (5, 1, .t 6), (6, 1, .t 7)]),
    (none, none, .store 7 (.t 0) (.t 8))])
  (.ret)))
def r243 : List ARet := [.cell 0 true 7]

/-- riparian/term.count -/
def c244 : ACode :=
  .seq (.region [(some 4, none, .box 24 (.t 0)),
    (some 7, none, .box 256 (.t 3)),
    (some 8, none, .move (.c (.v (.int .i64 0))))])
  (.seq (.seq (.region [(some 12, none, .move (.t 2)),
    (some 13, none, .bin .lss .no (.t 12) (.c (.v (.int .i64 1)))),
    (some 14, none, .move (.t 13)),
    (some 15, some (14, false), .move (.t 1)),
    (some 16, some (14, false), .bin .lss .no (.t 15) (.c (.v (.int .i64 1)))),
    (some 17, none, .pick (.t 14) (.c (.v (.bool true))) (.t 16)),
    (some 18, none, .move (.t 17)),
    (some 19, some (18, false), .fieldAddr 0 (.t 4)),
    (some 20, some (18, false), .load false 1 (.t 19)),
    (some 21, some (18, false), .bin .lss .no (.t 20) (.c (.v (.int .i64 1)))),
    (some 22, none, .pick (.t 18) (.c (.v (.bool true))) (.t 21)),
    (some 23, none, .move (.t 22)),
    (some 24, some (23, false), .fieldAddr 0 (.t 4)),
    (some 25, some (23, false), .load false 1 (.t 24)),
    (some 26, some (23, false), .bin .gtr .no (.t 25) (.c (.v (.int .i64 6)))),
    (some 27, none, .pick (.t 23) (.c (.v (.bool true))) (.t 26)),
    (some 28, none, .move (.t 27)),
    (some 29, some (28, false), .fieldAddr 0 (.t 4)),
    (some 30, some (28, false), .load false 1 (.t 29)),
    (some 31, some (28, false), .indexAddrArr 7 1 (.t 7) (.t 30)),
    (some 32, some (28, false), .load false 1 (.t 31)),
    (some 33, some (28, false), .load true 4 (.t 4)),
    (some 34, some (28, false), .callV (.t 32) [.t 33]),
    (some 35, some (28, false), .un .not (.t 34)),
    (some 36, none, .pick (.t 28) (.c (.v (.bool true))) (.t 35))])
  (.cond (.t 36)
    (.seq (.region [(some 37, none, .move (.t 1)),
      (some 38, none, .bin .add .no (.t 37) (.c (.v (.int .i64 1)))),
      (some 8, none, .move (.t 38))])
    (.ret))
    (.skip)))
  (.seq (.region [(some 9, none, .move (.c (.v (.int .i64 1))))])
  (.seq (.seq (.region [(some 39, none, .fieldAddr 3 (.t 4)),
    (some 40, none, .load false 1 (.t 39)),
    (some 41, none, .len .sl (.t 40)),
    (some 42, none, .move (.c (.v (.int .i64 0))))])
  (.block 0
    (.loop
      (.seq (.region [(some 43, none, .bin .lss .no (.t 42) (.t 41))])
      (.seq (.cond (.t 43)
        (.skip)
        (.exit 0))
      (.seq (.block 1
        (.seq (.region [(some 44, none, .indexAddr 4 (.t 40) (.t 42)),
          (some 45, none, .load true 4 (.t 44)),
          (some 11, none, .alloc 24 [.v (.int .i64 0), .v (.int .i64 0), .str [], .v (.slice none 0 0)]),
          (none, none, .store 4 (.t 11) (.t 45))])
        (.seq (.region [(some 46, none, .move (.t 9)),
          (some 47, none, .load true 4 (.t 11)),
          (some 48, none, .move (.t 1)),
          (some 49, none, .move (.t 9)),
          (some 50, none, .bin .sub .no (.t 48) (.t 49)),
          (some 51, none, .move (.t 2)),
          (some 52, none, .bin .sub .no (.t 51) (.c (.v (.int .i64 1)))),
          (some 53, none, .load true 7 (.t 7)),
          (some 54, none, .call 244 [.t 47, .t 50, .t 52, .t 53]),
          (some 55, none, .bin .add .no (.t 46) (.t 54)),
          (some 9, none, .move (.t 55))])
        (.seq (.region [(some 56, none, .move (.t 9)),
          (some 57, none, .move (.t 1)),
          (some 58, none, .bin .gtr .no (.t 56) (.t 57))])
        (.cond (.t 58)
          (.seq (.region [(some 59, none, .move (.t 1)),
            (some 60, none, .bin .add .no (.t 59) (.c (.v (.int .i64 1)))),
            (some 8, none, .move (.t 60))])
          (.ret))
          (.skip))))))
      (.region [(some 61, none, .bin .add .no (.t 42) (.c (.v (.int .i64 1)))),
        (some 42, none, .move (.t 61))])))))))
  (.seq (.region [(some 62, none, .move (.t 9)),
    (some 8, none, .move (.t 62))])
  (.ret)))))
def r244 : List ARet := [.tmp 8]

/-- riparian/riparianref01.node -/
def c245 : ACode :=
  .seq (.region [(some 1, none, .box 24 (.t 0)),
    (some 2, none, .move (.c (.v (.bool false))))])
  (.seq (.region [(some 4, none, .fieldAddr 3 (.t 1)),
    (some 5, none, .load false 1 (.t 4)),
    (some 6, none, .len .sl (.t 5)),
    (some 3, none, .move (.t 6))])
  (.seq (.seq (.region [(some 7, none, .fieldAddr 0 (.t 1)),
    (some 8, none, .load false 1 (.t 7))])
  (.block 0
    (.seq (.region [(some 10, none, .bin .eql .no (.t 8) (.c (.v (.int .i64 1)))),
      (some 9, none, .move (.t 10))])
    (.cond (.t 9)
      (.seq (.region [(some 11, none, .fieldAddr 1 (.t 1)),
        (some 12, none, .load false 1 (.t 11)),
        (some 13, none, .bin .geq .no (.t 12) (.c (.v (.int .i64 0)))),
        (some 14, none, .move (.t 13)),
        (some 15, some (14, true), .fieldAddr 1 (.t 1)),
        (some 16, some (14, true), .load false 1 (.t 15)),
        (some 17, some (14, true), .bin .lss .no (.t 16) (.c (.v (.int .i64 100000)))),
        (some 18, none, .pick (.t 14) (.t 17) (.c (.v (.bool false)))),
        (some 19, none, .move (.t 18)),
        (some 20, some (19, true), .fieldAddr 2 (.t 1)),
        (some 21, some (19, true), .load false 1 (.t 20)),
        (some 22, some (19, true), .bin .eql .no (.t 21) (.c (.str []))),
        (some 23, none, .pick (.t 19) (.t 22) (.c (.v (.bool false)))),
        (some 24, none, .move (.t 23)),
        (some 25, some (24, true), .move (.t 3)),
        (some 26, some (24, true), .bin .eql .no (.t 25) (.c (.v (.int .i64 0)))),
        (some 27, none, .pick (.t 24) (.t 26) (.c (.v (.bool false)))),
        (some 2, none, .move (.t 27))])
      (.ret))
      (.seq (.region [(some 29, none, .bin .eql .no (.t 8) (.c (.v (.int .i64 2)))),
        (some 28, none, .move (.t 29))])
      (.cond (.t 28)
        (.seq (.region [(some 30, none, .fieldAddr 1 (.t 1)),
          (some 31, none, .load false 1 (.t 30)),
          (some 32, none, .bin .geq .no (.t 31) (.c (.v (.int .i64 (-2147483647))))),
          (some 33, none, .move (.t 32)),
          (some 34, some (33, true), .fieldAddr 1 (.t 1)),
          (some 35, some (33, true), .load false 1 (.t 34)),
          (some 36, some (33, true), .bin .leq .no (.t 35) (.c (.v (.int .i64 2147483647)))),
          (some 37, none, .pick (.t 33) (.t 36) (.c (.v (.bool false)))),
          (some 38, none, .move (.t 37)),
          (some 39, some (38, true), .fieldAddr 2 (.t 1)),
          (some 40, some (38, true), .load false 1 (.t 39)),
          (some 41, some (38, true), .bin .eql .no (.t 40) (.c (.str []))),
          (some 42, none, .pick (.t 38) (.t 41) (.c (.v (.bool false)))),
          (some 43, none, .move (.t 42)),
          (some 44, some (43, true), .move (.t 3)),
          (some 45, some (43, true), .bin .eql .no (.t 44) (.c (.v (.int .i64 0)))),
          (some 46, none, .pick (.t 43) (.t 45) (.c (.v (.bool false)))),
          (some 2, none, .move (.t 46))])
        (.ret))
        (.seq (.region [(some 48, none, .bin .eql .no (.t 8) (.c (.v (.int .i64 3)))),
          (some 47, none, .move (.t 48))])
        (.cond (.t 47)
          (.seq (.region [(some 49, none, .fieldAddr 1 (.t 1)),
            (some 50, none, .load false 1 (.t 49)),
            (some 51, none, .bin .eql .no (.t 50) (.c (.v (.int .i64 0)))),
            (some 52, none, .move (.t 51)),
            (some 53, some (52, true), .fieldAddr 2 (.t 1)),
            (some 54, some (52, true), .load false 1 (.t 53)),
            (some 55, some (52, true), .call 247 [.t 54]),
            (some 56, none, .pick (.t 52) (.t 55) (.c (.v (.bool false)))),
            (some 57, none, .move (.t 56)),
            (some 58, some (57, true), .move (.t 3)),
            (some 59, some (57, true), .bin .eql .no (.t 58) (.c (.v (.int .i64 0)))),
            (some 60, none, .pick (.t 57) (.t 59) (.c (.v (.bool false)))),
            (some 2, none, .move (.t 60))])
          (.ret))
          (.seq (.region [(some 62, none, .bin .eql .no (.t 8) (.c (.v (.int .i64 4)))),
            (some 61, none, .move (.t 62))])
          (.cond (.t 61)
            (.seq (.region [(some 63, none, .fieldAddr 1 (.t 1)),
              (some 64, none, .load false 1 (.t 63)),
              (some 65, none, .bin .eql .no (.t 64) (.c (.v (.int .i64 0)))),
              (some 66, none, .move (.t 65)),
              (some 67, some (66, true), .fieldAddr 2 (.t 1)),
              (some 68, some (66, true), .load false 1 (.t 67)),
              (some 69, some (66, true), .len .str (.t 68)),
              (some 70, some (66, true), .bin .leq .no (.t 69) (.c (.v (.int .i64 255)))),
              (some 71, none, .pick (.t 66) (.t 70) (.c (.v (.bool false)))),
              (some 72, none, .move (.t 71)),
              (some 73, some (72, true), .move (.t 3)),
              (some 74, some (72, true), .bin .eql .no (.t 73) (.c (.v (.int .i64 0)))),
              (some 75, none, .pick (.t 72) (.t 74) (.c (.v (.bool false)))),
              (some 2, none, .move (.t 75))])
            (.ret))
            (.seq (.region [(some 77, none, .bin .eql .no (.t 8) (.c (.v (.int .i64 5)))),
              (some 76, none, .move (.t 77))])
            (.cond (.t 76)
              (.seq (.region [(some 78, none, .fieldAddr 1 (.t 1)),
                (some 79, none, .load false 1 (.t 78)),
                (some 80, none, .bin .eql .no (.t 79) (.c (.v (.int .i64 0)))),
                (some 81, none, .move (.t 80)),
                (some 82, some (81, true), .fieldAddr 2 (.t 1)),
                (some 83, some (81, true), .load false 1 (.t 82)),
                (some 84, some (81, true), .call 247 [.t 83]),
                (some 85, none, .pick (.t 81) (.t 84) (.c (.v (.bool false)))),
                (some 86, none, .move (.t 85)),
                (some 87, some (86, true), .move (.t 3)),
                (some 88, some (86, true), .bin .geq .no (.t 87) (.c (.v (.int .i64 1)))),
                (some 89, none, .pick (.t 86) (.t 88) (.c (.v (.bool false)))),
                (some 90, none, .move (.t 89)),
                (some 91, some (90, true), .move (.t 3)),
                (some 92, some (90, true), .bin .leq .no (.t 91) (.c (.v (.int .i64 16)))),
                (some 93, none, .pick (.t 90) (.t 92) (.c (.v (.bool false)))),
                (some 2, none, .move (.t 93))])
              (.ret))
              (.seq (.region [(some 95, none, .bin .eql .no (.t 8) (.c (.v (.int .i64 6)))),
                (some 94, none, .move (.t 95))])
              (.cond (.t 94)
                (.seq (.region [(some 96, none, .fieldAddr 1 (.t 1)),
                  (some 97, none, .load false 1 (.t 96)),
                  (some 98, none, .bin .eql .no (.t 97) (.c (.v (.int .i64 0)))),
                  (some 99, none, .move (.t 98)),
                  (some 100, some (99, true), .fieldAddr 2 (.t 1)),
                  (some 101, some (99, true), .load false 1 (.t 100)),
                  (some 102, some (99, true), .bin .eql .no (.t 101) (.c (.str []))),
                  (some 103, none, .pick (.t 99) (.t 102) (.c (.v (.bool false)))),
                  (some 104, none, .move (.t 103)),
                  (some 105, some (104, true), .move (.t 3)),
                  (some 106, some (104, true), .bin .leq .no (.t 105) (.c (.v (.int .i64 64)))),
                  (some 107, none, .pick (.t 104) (.t 106) (.c (.v (.bool false)))),
                  (some 2, none, .move (.t 107))])
                (.ret))
                (.skip)))))))))))))))
  (.seq (.region [(some 2, none, .move (.c (.v (.bool false))))])
  (.ret))))
def r245 : List ARet := [.tmp 2]

/-- riparian/riparianref01.Name -/
def c247 : ACode :=
  .seq (.region [(some 2, none, .move (.c (.v (.bool false))))])
  (.seq (.seq (.region [(some 3, none, .move (.c (.v (.int .i64 0))))])
  (.block 0
    (.loop
      (.seq (.seq (.region [(some 4, none, .move (.t 3)),
        (some 5, none, .move (.t 0)),
        (some 6, none, .len .str (.t 5)),
        (some 7, none, .bin .lss .no (.t 4) (.t 6))])
      (.cond (.t 7)
        (.skip)
        (.exit 0)))
      (.seq (.block 1
        (.seq (.region [(some 10, none, .move (.t 0)),
          (some 11, none, .move (.t 3)),
          (some 12, none, .indexStr (.t 10) (.t 11)),
          (some 13, none, .bin .lss .no (.t 12) (.c (.v (.int .u8 32)))),
          (some 14, none, .move (.t 13)),
          (some 15, some (14, false), .move (.t 0)),
          (some 16, some (14, false), .move (.t 3)),
          (some 17, some (14, false), .indexStr (.t 15) (.t 16)),
          (some 18, some (14, false), .bin .gtr .no (.t 17) (.c (.v (.int .u8 126)))),
          (some 19, none, .pick (.t 14) (.c (.v (.bool true))) (.t 18))])
        (.cond (.t 19)
          (.seq (.region [(some 2, none, .move (.c (.v (.bool false))))])
          (.ret))
          (.skip))))
      (.region [(some 8, none, .move (.t 3)),
        (some 9, none, .bin .add .no (.t 8) (.c (.v (.int .i64 1)))),
        (some 3, none, .move (.t 9))]))))))
  (.seq (.region [(some 20, none, .move (.t 0)),
    (some 21, none, .len .str (.t 20)),
    (some 22, none, .bin .geq .no (.t 21) (.c (.v (.int .i64 1)))),
    (some 23, none, .move (.t 22)),
    (some 24, some (23, true), .move (.t 0)),
    (some 25, some (23, true), .len .str (.t 24)),
    (some 26, some (23, true), .bin .leq .no (.t 25) (.c (.v (.int .i64 32)))),
    (some 27, none, .pick (.t 23) (.t 26) (.c (.v (.bool false)))),
    (some 2, none, .move (.t 27))])
  (.ret)))
def r247 : List ARet := [.tmp 2]

/-- riparian/term.forms$1 -/
def c282 : ACode :=
  .seq (.region [(some 4, none, .box 24 (.t 0)),
    (some 8, none, .move (.c (.v (.bool false))))])
  (.seq (.region [(some 9, none, .move (.t 1)),
    (some 10, none, .move (.t 9)),
    (some 11, some (10, false), .fieldAddr 1 (.t 4)),
    (some 12, some (10, false), .load false 1 (.t 11)),
    (some 13, some (10, false), .bin .eql .no (.t 12) (.c (.v (.int .i64 0)))),
    (some 14, none, .pick (.t 10) (.c (.v (.bool true))) (.t 13)),
    (some 15, none, .move (.t 14)),
    (some 16, some (15, true), .move (.t 2)),
    (some 17, some (15, true), .move (.t 16)),
    (some 18, some (17, false), .fieldAddr 2 (.t 4)),
    (some 19, some (17, false), .load false 1 (.t 18)),
    (some 20, some (17, false), .bin .eql .no (.t 19) (.c (.str []))),
    (some 21, some (15, true), .pick (.t 17) (.c (.v (.bool true))) (.t 20)),
    (some 22, none, .pick (.t 15) (.t 21) (.c (.v (.bool false)))),
    (some 23, none, .move (.t 22)),
    (some 24, some (23, true), .move (.t 3)),
    (some 25, some (23, true), .move (.t 24)),
    (some 26, some (25, false), .fieldAddr 3 (.t 4)),
    (some 27, some (25, false), .load false 1 (.t 26)),
    (some 28, some (25, false), .len .sl (.t 27)),
    (some 29, some (25, false), .bin .eql .no (.t 28) (.c (.v (.int .i64 0)))),
    (some 30, some (23, true), .pick (.t 25) (.c (.v (.bool true))) (.t 29)),
    (some 31, none, .pick (.t 23) (.t 30) (.c (.v (.bool false)))),
    (some 8, none, .move (.t 31))])
  (.ret))
def r282 : List ARet := [.tmp 8]

/-- riparian/term.forms$2 -/
def c283 : ACode :=
  .seq (.region [(some 2, none, .box 24 (.t 0)),
    (some 3, none, .move (.c (.v (.bool false))))])
  (.seq (.region [(some 4, none, .load false 1 (.t 1)),
    (some 5, none, .load true 4 (.t 2)),
    (some 6, none, .callV (.t 4) [.t 5, .c (.v (.bool true)), .c (.v (.bool false)), .c (.v (.bool false))]),
    (some 7, none, .move (.t 6)),
    (some 8, some (7, true), .fieldAddr 1 (.t 2)),
    (some 9, some (7, true), .load false 1 (.t 8)),
    (some 10, some (7, true), .bin .geq .no (.t 9) (.c (.v (.int .i64 0)))),
    (some 11, none, .pick (.t 7) (.t 10) (.c (.v (.bool false)))),
    (some 12, none, .move (.t 11)),
    (some 13, some (12, true), .fieldAddr 1 (.t 2)),
    (some 14, some (12, true), .load false 1 (.t 13)),
    (some 15, some (12, true), .bin .lss .no (.t 14) (.c (.v (.int .i64 100000)))),
    (some 16, none, .pick (.t 12) (.t 15) (.c (.v (.bool false)))),
    (some 3, none, .move (.t 16))])
  (.ret))
def r283 : List ARet := [.tmp 3]

/-- riparian/term.forms$3 -/
def c284 : ACode :=
  .seq (.region [(some 2, none, .box 24 (.t 0)),
    (some 3, none, .move (.c (.v (.bool false))))])
  (.seq (.region [(some 4, none, .load false 1 (.t 1)),
    (some 5, none, .load true 4 (.t 2)),
    (some 6, none, .callV (.t 4) [.t 5, .c (.v (.bool true)), .c (.v (.bool false)), .c (.v (.bool false))]),
    (some 7, none, .move (.t 6)),
    (some 8, some (7, true), .fieldAddr 1 (.t 2)),
    (some 9, some (7, true), .load false 1 (.t 8)),
    (some 10, some (7, true), .bin .geq .no (.t 9) (.c (.v (.int .i64 (-2147483647))))),
    (some 11, none, .pick (.t 7) (.t 10) (.c (.v (.bool false)))),
    (some 12, none, .move (.t 11)),
    (some 13, some (12, true), .fieldAddr 1 (.t 2)),
    (some 14, some (12, true), .load false 1 (.t 13)),
    (some 15, some (12, true), .bin .leq .no (.t 14) (.c (.v (.int .i64 2147483647)))),
    (some 16, none, .pick (.t 12) (.t 15) (.c (.v (.bool false)))),
    (some 3, none, .move (.t 16))])
  (.ret))
def r284 : List ARet := [.tmp 3]

/-- riparian/term.forms$4 -/
def c285 : ACode :=
  .seq (.region [(some 2, none, .box 24 (.t 0)),
    (some 3, none, .move (.c (.v (.bool false))))])
  (.seq (.region [(some 4, none, .load false 1 (.t 1)),
    (some 5, none, .load true 4 (.t 2)),
    (some 6, none, .callV (.t 4) [.t 5, .c (.v (.bool false)), .c (.v (.bool true)), .c (.v (.bool false))]),
    (some 7, none, .move (.t 6)),
    (some 8, some (7, true), .fieldAddr 2 (.t 2)),
    (some 9, some (7, true), .load false 1 (.t 8)),
    (some 10, some (7, true), .call 286 [.t 9]),
    (some 11, none, .pick (.t 7) (.t 10) (.c (.v (.bool false)))),
    (some 3, none, .move (.t 11))])
  (.ret))
def r285 : List ARet := [.tmp 3]

/-- riparian/term.name -/
def c286 : ACode :=
  .seq (.region [(some 2, none, .move (.c (.v (.bool false))))])
  (.seq (.region [(some 3, none, .move (.c (.fn (.func 311) [] [])))])
  (.seq (.region [(some 4, none, .move (.t 0)),
    (some 5, none, .len .str (.t 4)),
    (some 6, none, .bin .geq .no (.t 5) (.c (.v (.int .i64 1)))),
    (some 7, none, .move (.t 6)),
    (some 8, some (7, true), .move (.t 0)),
    (some 9, some (7, true), .len .str (.t 8)),
    (some 10, some (7, true), .bin .leq .no (.t 9) (.c (.v (.int .i64 32)))),
    (some 11, none, .pick (.t 7) (.t 10) (.c (.v (.bool false)))),
    (some 12, none, .move (.t 11)),
    (some 13, some (12, true), .move (.t 0)),
    (some 14, some (12, true), .move (.t 3)),
    (some 15, some (12, true), .call 301 [.t 13, .t 14]),
    (some 16, some (12, true), .bin .lss .no (.t 15) (.c (.v (.int .i64 0)))),
    (some 17, none, .pick (.t 12) (.t 16) (.c (.v (.bool false)))),
    (some 2, none, .move (.t 17))])
  (.ret)))
def r286 : List ARet := [.tmp 2]

/-- riparian/term.forms$5 -/
def c287 : ACode :=
  .seq (.region [(some 2, none, .box 24 (.t 0)),
    (some 3, none, .move (.c (.v (.bool false))))])
  (.seq (.region [(some 4, none, .load false 1 (.t 1)),
    (some 5, none, .load true 4 (.t 2)),
    (some 6, none, .callV (.t 4) [.t 5, .c (.v (.bool false)), .c (.v (.bool true)), .c (.v (.bool false))]),
    (some 7, none, .move (.t 6)),
    (some 8, some (7, true), .fieldAddr 2 (.t 2)),
    (some 9, some (7, true), .load false 1 (.t 8)),
    (some 10, some (7, true), .len .str (.t 9)),
    (some 11, some (7, true), .bin .leq .no (.t 10) (.c (.v (.int .i64 255)))),
    (some 12, none, .pick (.t 7) (.t 11) (.c (.v (.bool false)))),
    (some 3, none, .move (.t 12))])
  (.ret))
def r287 : List ARet := [.tmp 3]

/-- riparian/term.forms$6 -/
def c288 : ACode :=
  .seq (.region [(some 2, none, .box 24 (.t 0)),
    (some 3, none, .move (.c (.v (.bool false))))])
  (.seq (.region [(some 4, none, .load false 1 (.t 1)),
    (some 5, none, .load true 4 (.t 2)),
    (some 6, none, .callV (.t 4) [.t 5, .c (.v (.bool false)), .c (.v (.bool true)), .c (.v (.bool true))]),
    (some 7, none, .move (.t 6)),
    (some 8, some (7, true), .fieldAddr 2 (.t 2)),
    (some 9, some (7, true), .load false 1 (.t 8)),
    (some 10, some (7, true), .call 286 [.t 9]),
    (some 11, none, .pick (.t 7) (.t 10) (.c (.v (.bool false)))),
    (some 12, none, .move (.t 11)),
    (some 13, some (12, true), .fieldAddr 3 (.t 2)),
    (some 14, some (12, true), .load false 1 (.t 13)),
    (some 15, some (12, true), .len .sl (.t 14)),
    (some 16, some (12, true), .bin .geq .no (.t 15) (.c (.v (.int .i64 1)))),
    (some 17, none, .pick (.t 12) (.t 16) (.c (.v (.bool false)))),
    (some 18, none, .move (.t 17)),
    (some 19, some (18, true), .fieldAddr 3 (.t 2)),
    (some 20, some (18, true), .load false 1 (.t 19)),
    (some 21, some (18, true), .len .sl (.t 20)),
    (some 22, some (18, true), .bin .leq .no (.t 21) (.c (.v (.int .i64 16)))),
    (some 23, none, .pick (.t 18) (.t 22) (.c (.v (.bool false)))),
    (some 3, none, .move (.t 23))])
  (.ret))
def r288 : List ARet := [.tmp 3]

/-- riparian/term.forms$7 -/
def c289 : ACode :=
  .seq (.region [(some 2, none, .box 24 (.t 0)),
    (some 3, none, .move (.c (.v (.bool false))))])
  (.seq (.region [(some 4, none, .load false 1 (.t 1)),
    (some 5, none, .load true 4 (.t 2)),
    (some 6, none, .callV (.t 4) [.t 5, .c (.v (.bool false)), .c (.v (.bool false)), .c (.v (.bool true))]),
    (some 7, none, .move (.t 6)),
    (some 8, some (7, true), .fieldAddr 3 (.t 2)),
    (some 9, some (7, true), .load false 1 (.t 8)),
    (some 10, some (7, true), .len .sl (.t 9)),
    (some 11, some (7, true), .bin .leq .no (.t 10) (.c (.v (.int .i64 64)))),
    (some 12, none, .pick (.t 7) (.t 11) (.c (.v (.bool false)))),
    (some 3, none, .move (.t 12))])
  (.ret))
def r289 : List ARet := [.tmp 3]

/-- strings.IndexFunc -/
def c301 : ACode :=
  .seq (.region [(some 4, none, .move (.c (.v (.int .i64 0))))])
  (.seq (.region [(some 5, none, .move (.t 0)),
    (some 6, none, .move (.t 1)),
    (some 7, none, .call 315 [.t 5, .t 6, .c (.v (.bool true))]),
    (some 4, none, .move (.t 7))])
  (.ret))
def r301 : List ARet := [.tmp 4]

/-- riparian/term.name$1 -/
def c311 : ACode :=
  .seq (.region [(some 2, none, .move (.c (.v (.bool false))))])
  (.seq (.region [(some 3, none, .move (.t 0)),
    (some 4, none, .bin .lss .no (.t 3) (.c (.v (.int .i32 32)))),
    (some 5, none, .move (.t 4)),
    (some 6, some (5, false), .move (.t 0)),
    (some 7, some (5, false), .bin .gtr .no (.t 6) (.c (.v (.int .i32 126)))),
    (some 8, none, .pick (.t 5) (.c (.v (.bool true))) (.t 7)),
    (some 2, none, .move (.t 8))])
  (.ret))
def r311 : List ARet := [.tmp 2]

/-- strings.indexFunc -/
def c315 : ACode :=
  .seq (.region [(some 6, none, .move (.c (.v (.int .i64 0))))])
  (.seq (.seq (.region [(some 9, none, .move (.t 0)),
    (some 10, none, .rangeStr (.t 9))])
  (.block 0
    (.loop
      (.seq (.region [(some 11, none, .nextStr (.t 10)),
        (some 12, none, .extract (.t 11) 0)])
      (.seq (.cond (.t 12)
        (.skip)
        (.exit 0))
      (.block 1
        (.seq (.region [(some 13, none, .extract (.t 11) 1),
          (some 14, none, .extract (.t 11) 2),
          (some 7, none, .move (.t 13)),
          (some 8, none, .move (.t 14))])
        (.seq (.region [(some 15, none, .move (.t 1)),
          (some 16, none, .move (.t 8)),
          (some 17, none, .callV (.t 15) [.t 16]),
          (some 18, none, .move (.t 2)),
          (some 19, none, .bin .eql .bl (.t 17) (.t 18))])
        (.cond (.t 19)
          (.seq (.region [(some 20, none, .move (.t 7)),
            (some 6, none, .move (.t 20))])
          (.ret))
          (.skip))))))))))
  (.seq (.region [(some 6, none, .move (.c (.v (.int .i64 (-1)))))])
  (.ret)))
def r315 : List ARet := [.tmp 6]


theorem k3 : Coded Tryz.prog 3 c3 r3 70 := ⟨Tryz.f3, Tryz.func3, by kernel_rfl, by kernel_rfl, by kernel_rfl⟩
theorem k17 : Coded Tryz.prog 17 c17 r17 26 := ⟨Tryz.f17, Tryz.func17, by kernel_rfl, by kernel_rfl, by kernel_rfl⟩
theorem k18 : Coded Tryz.prog 18 c18 r18 14 := ⟨Tryz.f18, Tryz.func18, by kernel_rfl, by kernel_rfl, by kernel_rfl⟩
theorem k19 : Coded Tryz.prog 19 c19 r19 16 := ⟨Tryz.f19, Tryz.func19, by kernel_rfl, by kernel_rfl, by kernel_rfl⟩
theorem k20 : Coded Tryz.prog 20 c20 r20 10 := ⟨Tryz.f20, Tryz.func20, by kernel_rfl, by kernel_rfl, by kernel_rfl⟩
theorem k21 : Coded Tryz.prog 21 c21 r21 11 := ⟨Tryz.f21, Tryz.func21, by kernel_rfl, by kernel_rfl, by kernel_rfl⟩
theorem k22 : Coded Tryz.prog 22 c22 r22 10 := ⟨Tryz.f22, Tryz.func22, by kernel_rfl, by kernel_rfl, by kernel_rfl⟩
theorem k23 : Coded Tryz.prog 23 c23 r23 11 := ⟨Tryz.f23, Tryz.func23, by kernel_rfl, by kernel_rfl, by kernel_rfl⟩
theorem k24 : Coded Tryz.prog 24 c24 r24 55 := ⟨Tryz.f24, Tryz.func24, by kernel_rfl, by kernel_rfl, by kernel_rfl⟩
theorem k25 : Coded Tryz.prog 25 c25 r25 24 := ⟨Tryz.f25, Tryz.func25, by kernel_rfl, by kernel_rfl, by kernel_rfl⟩
theorem k26 : Coded Tryz.prog 26 c26 r26 6 := ⟨Tryz.f26, Tryz.func26, by kernel_rfl, by kernel_rfl, by kernel_rfl⟩
theorem k94 : Coded Tryz.prog 94 c94 r94 42 := ⟨Tryz.f94, Tryz.func94, by kernel_rfl, by kernel_rfl, by kernel_rfl⟩
theorem k95 : Coded Tryz.prog 95 c95 r95 6 := ⟨Tryz.f95, Tryz.func95, by kernel_rfl, by kernel_rfl, by kernel_rfl⟩
theorem k96 : Coded Tryz.prog 96 c96 r96 42 := ⟨Tryz.f96, Tryz.func96, by kernel_rfl, by kernel_rfl, by kernel_rfl⟩
theorem k97 : Coded Tryz.prog 97 c97 r97 20 := ⟨Tryz.f97, Tryz.func97, by kernel_rfl, by kernel_rfl, by kernel_rfl⟩
theorem k98 : Coded Tryz.prog 98 c98 r98 49 := ⟨Tryz.f98, Tryz.func98, by kernel_rfl, by kernel_rfl, by kernel_rfl⟩
theorem k99 : Coded Tryz.prog 99 c99 r99 40 := ⟨Tryz.f99, Tryz.func99, by kernel_rfl, by kernel_rfl, by kernel_rfl⟩
theorem k100 : Coded Tryz.prog 100 c100 r100 53 := ⟨Tryz.f100, Tryz.func100, by kernel_rfl, by kernel_rfl, by kernel_rfl⟩
theorem k101 : Coded Tryz.prog 101 c101 r101 47 := ⟨Tryz.f101, Tryz.func101, by kernel_rfl, by kernel_rfl, by kernel_rfl⟩
theorem k102 : Coded Tryz.prog 102 c102 r102 76 := ⟨Tryz.f102, Tryz.func102, by kernel_rfl, by kernel_rfl, by kernel_rfl⟩
theorem k103 : Coded Tryz.prog 103 c103 r103 3 := ⟨Tryz.f103, Tryz.func103, by kernel_rfl, by kernel_rfl, by kernel_rfl⟩
theorem k104 : Coded Tryz.prog 104 c104 r104 13 := ⟨Tryz.f104, Tryz.func104, by kernel_rfl, by kernel_rfl, by kernel_rfl⟩
theorem k105 : Coded Tryz.prog 105 c105 r105 18 := ⟨Tryz.f105, Tryz.func105, by kernel_rfl, by kernel_rfl, by kernel_rfl⟩
theorem k106 : Coded Tryz.prog 106 c106 r106 16 := ⟨Tryz.f106, Tryz.func106, by kernel_rfl, by kernel_rfl, by kernel_rfl⟩
theorem k110 : Coded Tryz.prog 110 c110 r110 19 := ⟨Tryz.f110, Tryz.func110, by kernel_rfl, by kernel_rfl, by kernel_rfl⟩
theorem k121 : Coded Tryz.prog 121 c121 r121 34 := ⟨Tryz.f121, Tryz.func121, by kernel_rfl, by kernel_rfl, by kernel_rfl⟩
theorem k181 : Coded Tryz.prog 181 c181 r181 26 := ⟨Tryz.f181, Tryz.func181, by kernel_rfl, by kernel_rfl, by kernel_rfl⟩
theorem k182 : Coded Tryz.prog 182 c182 r182 23 := ⟨Tryz.f182, Tryz.func182, by kernel_rfl, by kernel_rfl, by kernel_rfl⟩
theorem k183 : Coded Tryz.prog 183 c183 r183 44 := ⟨Tryz.f183, Tryz.func183, by kernel_rfl, by kernel_rfl, by kernel_rfl⟩
theorem k184 : Coded Tryz.prog 184 c184 r184 34 := ⟨Tryz.f184, Tryz.func184, by kernel_rfl, by kernel_rfl, by kernel_rfl⟩
theorem k185 : Coded Tryz.prog 185 c185 r185 23 := ⟨Tryz.f185, Tryz.func185, by kernel_rfl, by kernel_rfl, by kernel_rfl⟩
theorem k186 : Coded Tryz.prog 186 c186 r186 23 := ⟨Tryz.f186, Tryz.func186, by kernel_rfl, by kernel_rfl, by kernel_rfl⟩
theorem k187 : Coded Tryz.prog 187 c187 r187 19 := ⟨Tryz.f187, Tryz.func187, by kernel_rfl, by kernel_rfl, by kernel_rfl⟩
theorem k188 : Coded Tryz.prog 188 c188 r188 9 := ⟨Tryz.f188, Tryz.func188, by kernel_rfl, by kernel_rfl, by kernel_rfl⟩
theorem k189 : Coded Tryz.prog 189 c189 r189 6 := ⟨Tryz.f189, Tryz.func189, by kernel_rfl, by kernel_rfl, by kernel_rfl⟩
theorem k190 : Coded Tryz.prog 190 c190 r190 14 := ⟨Tryz.f190, Tryz.func190, by kernel_rfl, by kernel_rfl, by kernel_rfl⟩
theorem k191 : Coded Tryz.prog 191 c191 r191 3 := ⟨Tryz.f191, Tryz.func191, by kernel_rfl, by kernel_rfl, by kernel_rfl⟩
theorem k192 : Coded Tryz.prog 192 c192 r192 3 := ⟨Tryz.f192, Tryz.func192, by kernel_rfl, by kernel_rfl, by kernel_rfl⟩
theorem k193 : Coded Tryz.prog 193 c193 r193 11 := ⟨Tryz.f193, Tryz.func193, by kernel_rfl, by kernel_rfl, by kernel_rfl⟩
theorem k202 : Coded Tryz.prog 202 c202 r202 19 := ⟨Tryz.f202, Tryz.func202, by kernel_rfl, by kernel_rfl, by kernel_rfl⟩
theorem k234 : Coded Tryz.prog 234 c234 r234 18 := ⟨Tryz.f234, Tryz.func234, by kernel_rfl, by kernel_rfl, by kernel_rfl⟩
theorem k243 : Coded Tryz.prog 243 c243 r243 9 := ⟨Tryz.f243, Tryz.func243, by kernel_rfl, by kernel_rfl, by kernel_rfl⟩
theorem k244 : Coded Tryz.prog 244 c244 r244 63 := ⟨Tryz.f244, Tryz.func244, by kernel_rfl, by kernel_rfl, by kernel_rfl⟩
theorem k245 : Coded Tryz.prog 245 c245 r245 108 := ⟨Tryz.f245, Tryz.func245, by kernel_rfl, by kernel_rfl, by kernel_rfl⟩
theorem k247 : Coded Tryz.prog 247 c247 r247 28 := ⟨Tryz.f247, Tryz.func247, by kernel_rfl, by kernel_rfl, by kernel_rfl⟩
theorem k282 : Coded Tryz.prog 282 c282 r282 32 := ⟨Tryz.f282, Tryz.func282, by kernel_rfl, by kernel_rfl, by kernel_rfl⟩
theorem k283 : Coded Tryz.prog 283 c283 r283 17 := ⟨Tryz.f283, Tryz.func283, by kernel_rfl, by kernel_rfl, by kernel_rfl⟩
theorem k284 : Coded Tryz.prog 284 c284 r284 17 := ⟨Tryz.f284, Tryz.func284, by kernel_rfl, by kernel_rfl, by kernel_rfl⟩
theorem k285 : Coded Tryz.prog 285 c285 r285 12 := ⟨Tryz.f285, Tryz.func285, by kernel_rfl, by kernel_rfl, by kernel_rfl⟩
theorem k286 : Coded Tryz.prog 286 c286 r286 18 := ⟨Tryz.f286, Tryz.func286, by kernel_rfl, by kernel_rfl, by kernel_rfl⟩
theorem k287 : Coded Tryz.prog 287 c287 r287 13 := ⟨Tryz.f287, Tryz.func287, by kernel_rfl, by kernel_rfl, by kernel_rfl⟩
theorem k288 : Coded Tryz.prog 288 c288 r288 24 := ⟨Tryz.f288, Tryz.func288, by kernel_rfl, by kernel_rfl, by kernel_rfl⟩
theorem k289 : Coded Tryz.prog 289 c289 r289 13 := ⟨Tryz.f289, Tryz.func289, by kernel_rfl, by kernel_rfl, by kernel_rfl⟩
theorem k301 : Coded Tryz.prog 301 c301 r301 8 := ⟨Tryz.f301, Tryz.func301, by kernel_rfl, by kernel_rfl, by kernel_rfl⟩
theorem k311 : Coded Tryz.prog 311 c311 r311 9 := ⟨Tryz.f311, Tryz.func311, by kernel_rfl, by kernel_rfl, by kernel_rfl⟩
theorem k315 : Coded Tryz.prog 315 c315 r315 21 := ⟨Tryz.f315, Tryz.func315, by kernel_rfl, by kernel_rfl, by kernel_rfl⟩
end Go.Rip
