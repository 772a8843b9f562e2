/- The codes of functions, as the machine reads them. -/
import Derived.Test.YtndcajdameofjaaGreatDoorProg
import Derived.KernelRfl
import Derived.Test.YtndcajdameofjaaGreatDoorRipAI

namespace Go.Rip
open Go Go.Proofs
set_option maxRecDepth 100000
/-- riparian/riparianlaw04.ProgChecks -/
def c7 : ACode :=
  .seq (.region [(some 5, none, .box 68 (.t 0)),
    (some 7, none, .box 37 (.t 2)),
    (some 8, none, .box 49 (.t 3)),
    (some 9, none, .box 26 (.t 4)),
    (some 10, none, .move (.c (.v (.bool false))))])
  (.seq (.seq (.region [(some 15, none, .call 16 []),
    (some 16, none, .un .not (.t 15))])
  (.cond (.t 16)
    (.seq (.region [(some 10, none, .move (.c (.v (.bool false))))])
    (.ret))
    (.skip)))
  (.seq (.seq (.region [(some 17, none, .load true 1 (.t 7)),
    (some 18, none, .call 27 [.t 17]),
    (some 19, none, .un .not (.t 18)),
    (some 20, none, .move (.t 19)),
    (some 21, some (20, false), .fieldAddr 2 (.t 5)),
    (some 22, some (20, false), .load false 1 (.t 21)),
    (some 23, some (20, false), .fieldAddr 3 (.t 5)),
    (some 24, some (20, false), .load false 1 (.t 23)),
    (some 25, some (20, false), .fieldAddr 4 (.t 5)),
    (some 26, some (20, false), .load false 1 (.t 25)),
    (some 27, some (20, false), .buildSlice 22 1 (.v (.slice none 0 0)) 3 [(0, .t 22), (1, .t 24), (2, .t 26)]),
    (some 28, some (20, false), .call 17 [.c (.v (.int .i64 2000)), .t 27]),
    (some 29, some (20, false), .un .not (.t 28)),
    (some 30, none, .pick (.t 20) (.c (.v (.bool true))) (.t 29)),
    (some 31, none, .move (.t 30)),
    (some 32, some (31, false), .fieldAddr 1 (.t 8)),
    (some 33, some (31, false), .load false 1 (.t 32)),
    (some 34, some (31, false), .buildSlice 22 1 (.v (.slice none 0 0)) 1 [(0, .t 33)]),
    (some 35, some (31, false), .call 17 [.c (.v (.int .i64 2000)), .t 34]),
    (some 36, some (31, false), .un .not (.t 35)),
    (some 37, none, .pick (.t 31) (.c (.v (.bool true))) (.t 36)),
    (some 38, none, .move (.t 37)),
    (some 39, some (38, false), .fieldAddr 0 (.t 9)),
    (some 40, some (38, false), .load false 1 (.t 39)),
    (some 41, some (38, false), .len .str (.t 40)),
    (some 42, some (38, false), .bin .gtr .no (.t 41) (.c (.v (.int .i64 500)))),
    (some 43, none, .pick (.t 38) (.c (.v (.bool true))) (.t 42))])
  (.cond (.t 43)
    (.seq (.region [(some 10, none, .move (.c (.v (.bool true))))])
    (.ret))
    (.skip)))
  (.seq (.region [(some 45, none, .load true 1 (.t 7)),
    (some 46, none, .load true 2 (.t 9)),
    (some 47, none, .call 49 [.t 45, .t 46]),
    (some 44, none, .move (.t 47)),
    (some 48, none, .extract (.t 44) 0),
    (some 49, none, .extract (.t 44) 1),
    (some 11, none, .move (.t 48)),
    (some 12, none, .move (.t 49))])
  (.seq (.region [(some 51, none, .load true 1 (.t 7)),
    (some 52, none, .load true 2 (.t 9)),
    (some 53, none, .call 50 [.t 51, .t 52]),
    (some 50, none, .move (.t 53)),
    (some 54, none, .extract (.t 50) 0),
    (some 55, none, .extract (.t 50) 1),
    (some 13, none, .move (.t 54)),
    (some 14, none, .move (.t 55))])
  (.seq (.region [(some 56, none, .load true 5 (.t 5)),
    (some 57, none, .move (.t 1)),
    (some 59, none, .load true 5 (.t 5)),
    (some 60, none, .move (.t 1)),
    (some 58, none, .call 51 [.t 56, .t 57]),
    (none, none, .chk (some 59) (.load true 5 (.t 5))),
    (some 61, none, .call 52 [.t 59, .t 60]),
    (some 62, none, .bin .eql .no (.t 58) (.t 61)),
    (some 63, none, .move (.t 62)),
    (some 64, some (63, true), .load true 1 (.t 7)),
    (some 66, some (63, true), .load true 1 (.t 7)),
    (some 65, some (63, true), .call 32 [.t 64]),
    (none, some (63, true), .chk (some 66) (.load true 1 (.t 7))),
    (some 67, some (63, true), .call 53 [.t 66]),
    (some 68, some (63, true), .bin .eql .no (.t 65) (.t 67)),
    (some 69, none, .pick (.t 63) (.t 68) (.c (.v (.bool false)))),
    (some 70, none, .move (.t 69)),
    (some 71, some (70, true), .load true 1 (.t 7)),
    (some 72, some (70, true), .load true 2 (.t 8)),
    (some 74, some (70, true), .load true 1 (.t 7)),
    (some 75, some (70, true), .load true 2 (.t 8)),
    (some 73, some (70, true), .call 54 [.t 71, .t 72]),
    (none, some (70, true), .chk (some 75) (.load true 2 (.t 8))),
    (none, some (70, true), .chk (some 74) (.load true 1 (.t 7))),
    (some 76, some (70, true), .call 55 [.t 74, .t 75]),
    (some 77, some (70, true), .bin .eql .no (.t 73) (.t 76)),
    (some 78, none, .pick (.t 70) (.t 77) (.c (.v (.bool false)))),
    (some 79, none, .move (.t 78)),
    (some 80, some (79, true), .move (.t 11)),
    (some 81, some (79, true), .move (.t 13)),
    (some 82, some (79, true), .bin .eql .no (.t 80) (.t 81)),
    (some 83, none, .pick (.t 79) (.t 82) (.c (.v (.bool false)))),
    (some 84, none, .move (.t 83)),
    (some 85, some (84, true), .move (.t 12)),
    (some 86, some (84, true), .move (.t 14)),
    (some 87, some (84, true), .bin .eql .no (.t 85) (.t 86)),
    (some 88, none, .pick (.t 84) (.t 87) (.c (.v (.bool false)))),
    (some 10, none, .move (.t 88))])
  (.ret))))))
def r7 : List ARet := [.tmp 10]

/-- riparian/riparianlaw04.small -/
def c27 : ACode :=
  .seq (.region [(some 1, none, .box 37 (.t 0)),
    (some 2, none, .move (.c (.v (.bool false))))])
  (.seq (.region [(some 3, none, .alloc 3 [.v (.int .i64 0)]),
    (none, none, .store 1 (.t 3) (.c (.v (.int .i64 5000)))),
    (some 4, none, .move (.c (.v (.int .i64 0))))])
  (.seq (.seq (.region [(some 13, none, .fieldAddr 0 (.t 1)),
    (some 14, none, .load false 1 (.t 13)),
    (some 15, none, .len .sl (.t 14)),
    (some 16, none, .bin .gtr .no (.t 15) (.c (.v (.int .i64 80))))])
  (.cond (.t 16)
    (.seq (.region [(some 2, none, .move (.c (.v (.bool false))))])
    (.ret))
    (.skip)))
  (.seq (.seq (.region [(some 17, none, .fieldAddr 0 (.t 1)),
    (some 18, none, .load false 1 (.t 17)),
    (some 19, none, .len .sl (.t 18)),
    (some 20, none, .move (.c (.v (.int .i64 0))))])
  (.block 0
    (.loop
      (.seq (.region [(some 21, none, .bin .lss .no (.t 20) (.t 19))])
      (.seq (.cond (.t 21)
        (.skip)
        (.exit 0))
      (.seq (.block 1
        (.seq (.region [(some 22, none, .indexAddr 3 (.t 18) (.t 20)),
          (some 23, none, .load true 3 (.t 22)),
          (some 6, none, .alloc 60 [.str [], .v (.int .i64 0), .v (.slice none 0 0)]),
          (none, none, .store 3 (.t 6) (.t 23))])
        (.seq (.region [(some 24, none, .move (.t 4)),
          (some 25, none, .fieldAddr 2 (.t 6)),
          (some 26, none, .load false 1 (.t 25)),
          (some 27, none, .len .sl (.t 26)),
          (some 28, none, .bin .add .no (.t 24) (.t 27)),
          (some 4, none, .move (.t 28))])
        (.seq (.seq (.region [(some 29, none, .move (.t 4)),
          (some 30, none, .bin .gtr .no (.t 29) (.c (.v (.int .i64 120)))),
          (some 31, none, .move (.t 30)),
          (some 32, some (31, false), .fieldAddr 0 (.t 6)),
          (some 33, some (31, false), .load false 1 (.t 32)),
          (some 34, some (31, false), .len .str (.t 33)),
          (some 35, some (31, false), .bin .gtr .no (.t 34) (.c (.v (.int .i64 500)))),
          (some 36, none, .pick (.t 31) (.c (.v (.bool true))) (.t 35))])
        (.cond (.t 36)
          (.seq (.region [(some 2, none, .move (.c (.v (.bool false))))])
          (.ret))
          (.skip)))
        (.seq (.region [(some 37, none, .fieldAddr 2 (.t 6)),
          (some 38, none, .load false 1 (.t 37)),
          (some 39, none, .len .sl (.t 38)),
          (some 40, none, .move (.c (.v (.int .i64 0))))])
        (.block 2
          (.loop
            (.seq (.region [(some 41, none, .bin .lss .no (.t 40) (.t 39))])
            (.seq (.cond (.t 41)
              (.skip)
              (.exit 2))
            (.seq (.block 3
              (.seq (.region [(some 42, none, .indexAddr 5 (.t 38) (.t 40)),
                (some 43, none, .load true 5 (.t 42)),
                (some 8, none, .alloc 68 [.v (.int .i64 0), .v (.int .i64 0), .v (.slice none 0 0), .v (.slice none 0 0), .v (.slice none 0 0)]),
                (none, none, .store 5 (.t 8) (.t 43))])
              (.seq (.region [(some 44, none, .fieldAddr 2 (.t 8)),
                (some 45, none, .load false 1 (.t 44)),
                (some 46, none, .fieldAddr 3 (.t 8)),
                (some 47, none, .load false 1 (.t 46)),
                (some 48, none, .fieldAddr 4 (.t 8)),
                (some 49, none, .load false 1 (.t 48)),
                (some 50, none, .buildSlice 22 1 (.v (.slice none 0 0)) 3 [(0, .t 45), (1, .t 47), (2, .t 49)]),
                (some 51, none, .len .sl (.t 50)),
                (some 52, none, .move (.c (.v (.int .i64 0))))])
              (.block 4
                (.loop
                  (.seq (.region [(some 53, none, .bin .lss .no (.t 52) (.t 51))])
                  (.seq (.cond (.t 53)
                    (.skip)
                    (.exit 4))
                  (.seq (.block 5
                    (.seq (.region [(some 54, none, .indexAddr 1 (.t 50) (.t 52)),
                      (some 55, none, .load false 1 (.t 54)),
                      (some 10, none, .move (.t 55))])
                    (.seq (.region [(some 56, none, .move (.t 10)),
                      (some 57, none, .len .sl (.t 56)),
                      (some 58, none, .move (.c (.v (.int .i64 0))))])
                    (.block 6
                      (.loop
                        (.seq (.region [(some 59, none, .bin .lss .no (.t 58) (.t 57))])
                        (.seq (.cond (.t 59)
                          (.skip)
                          (.exit 6))
                        (.seq (.block 7
                          (.seq (.region [(some 60, none, .indexAddr 4 (.t 56) (.t 58)),
                            (some 61, none, .load true 4 (.t 60)),
                            (some 12, none, .alloc 24 [.v (.int .i64 0), .v (.int .i64 0), .str [], .v (.slice none 0 0)]),
                            (none, none, .store 4 (.t 12) (.t 61))])
                          (.seq (.region [(some 62, none, .load true 4 (.t 12)),
                            (some 63, none, .call 94 [.t 62, .t 3, .c (.v (.int .i64 1))]),
                            (some 64, none, .un .not (.t 63))])
                          (.cond (.t 64)
                            (.seq (.region [(some 2, none, .move (.c (.v (.bool false))))])
                            (.ret))
                            (.skip)))))
                        (.region [(some 65, none, .bin .add .no (.t 58) (.c (.v (.int .i64 1)))),
                          (some 58, none, .move (.t 65))])))))))))
                  (.region [(some 66, none, .bin .add .no (.t 52) (.c (.v (.int .i64 1)))),
                    (some 52, none, .move (.t 66))])))))))))
            (.region [(some 67, none, .bin .add .no (.t 40) (.c (.v (.int .i64 1)))),
              (some 40, none, .move (.t 67))])))))))))))
      (.region [(some 68, none, .bin .add .no (.t 20) (.c (.v (.int .i64 1)))),
        (some 20, none, .move (.t 68))])))))))
  (.seq (.region [(some 2, none, .move (.c (.v (.bool true))))])
  (.ret)))))
def r27 : List ARet := [.tmp 2]

/-- riparian/prog.Check -/
def c32 : ACode :=
  .seq (.region [(some 1, none, .box 37 (.t 0)),
    (some 2, none, .move (.c (.v (.int .i64 0))))])
  (.seq (.region [(some 6, none, .load true 1 (.t 1)),
    (some 7, none, .call 116 [.t 6]),
    (some 5, none, .move (.t 7)),
    (some 8, none, .extract (.t 5) 0),
    (some 9, none, .extract (.t 5) 1),
    (some 3, none, .alloc 153 [.v (.slice none 0 0), .v (.map none), .v (.map none)]),
    (none, none, .store 3 (.t 3) (.t 8)),
    (some 4, none, .move (.t 9))])
  (.seq (.region [(some 10, none, .move (.t 4)),
    (some 2, none, .move (.t 10))])
  (.ret)))
def r32 : List ARet := [.tmp 2]

/-- slices.Contains[[]int,int] -/
def c43 : ACode :=
  .seq (.region [(some 4, none, .move (.c (.v (.bool false))))])
  (.seq (.region [(some 5, none, .move (.t 0)),
    (some 6, none, .move (.t 1)),
    (some 7, none, .call 134 [.t 5, .t 6]),
    (some 8, none, .bin .geq .no (.t 7) (.c (.v (.int .i64 0)))),
    (some 4, none, .move (.t 8))])
  (.ret))
def r43 : List ARet := [.tmp 4]

/-- riparian/prog.Find -/
def c49 : ACode :=
  .seq (.region [(some 2, none, .box 37 (.t 0)),
    (some 3, none, .box 26 (.t 1)),
    (some 4, none, .move (.c (.v (.int .i64 0)))),
    (some 5, none, .move (.c (.v (.int .i64 0))))])
  (.seq (.region [(some 11, none, .load true 1 (.t 2)),
    (some 12, none, .call 116 [.t 11]),
    (some 10, none, .move (.t 12)),
    (some 13, none, .extract (.t 10) 0),
    (some 14, none, .extract (.t 10) 1),
    (some 6, none, .alloc 153 [.v (.slice none 0 0), .v (.map none), .v (.map none)]),
    (none, none, .store 3 (.t 6) (.t 13)),
    (some 7, none, .move (.t 14))])
  (.seq (.seq (.region [(some 15, none, .move (.t 7)),
    (some 16, none, .bin .neq .no (.t 15) (.c (.v (.int .i64 0))))])
  (.cond (.t 16)
    (.seq (.region [(some 17, none, .move (.t 7)),
      (some 4, none, .move (.c (.v (.int .i64 0)))),
      (some 5, none, .move (.t 17))])
    (.ret))
    (.skip)))
  (.seq (.region [(some 19, none, .fieldAddr 1 (.t 6)),
    (some 20, none, .load true 2 (.t 19)),
    (some 21, none, .load true 2 (.t 3)),
    (some 22, none, .call 142 [.t 20, .t 21]),
    (some 18, none, .move (.t 22)),
    (some 23, none, .extract (.t 18) 0),
    (some 24, none, .extract (.t 18) 1),
    (some 8, none, .move (.t 23)),
    (some 9, none, .move (.t 24))])
  (.seq (.region [(some 25, none, .move (.t 8)),
    (some 4, none, .move (.t 25)),
    (some 5, none, .move (.c (.v (.int .i64 0))))])
  (.ret)))))
def r49 : List ARet := [.tmp 4, .tmp 5]

/-- riparian/riparianref04.Find -/
def c50 : ACode :=
  .seq (.region [(some 2, none, .box 37 (.t 0)),
    (some 3, none, .box 26 (.t 1)),
    (some 4, none, .move (.c (.v (.int .i64 0)))),
    (some 5, none, .move (.c (.v (.int .i64 0))))])
  (.seq (.region [(some 7, none, .load true 1 (.t 2)),
    (some 8, none, .call 117 [.t 7]),
    (some 6, none, .move (.t 8))])
  (.seq (.seq (.region [(some 9, none, .move (.t 6)),
    (some 10, none, .un .not (.t 9))])
  (.cond (.t 10)
    (.seq (.region [(some 4, none, .move (.c (.v (.int .i64 0)))),
      (some 5, none, .move (.c (.v (.int .i64 5))))])
    (.ret))
    (.skip)))
  (.seq (.region [(some 11, none, .load true 1 (.t 2)),
    (some 12, none, .load true 2 (.t 3)),
    (some 13, none, .call 123 [.t 11, .t 12]),
    (some 4, none, .move (.t 13)),
    (some 5, none, .move (.c (.v (.int .i64 0))))])
  (.ret))))
def r50 : List ARet := [.tmp 4, .tmp 5]

/-- riparian/prog.CheckClause -/
def c51 : ACode :=
  .seq (.region [(some 2, none, .box 68 (.t 0)),
    (some 4, none, .move (.c (.v (.int .i64 0))))])
  (.seq (.seq (.region [(some 5, none, .move (.t 1)),
    (some 6, none, .bin .lss .no (.t 5) (.c (.v (.int .i64 0)))),
    (some 7, none, .move (.t 6)),
    (some 8, some (7, false), .move (.t 1)),
    (some 9, some (7, false), .bin .gtr .no (.t 8) (.c (.v (.int .i64 16)))),
    (some 10, none, .pick (.t 7) (.c (.v (.bool true))) (.t 9))])
  (.cond (.t 10)
    (.seq (.region [(some 4, none, .move (.c (.v (.int .i64 1))))])
    (.ret))
    (.skip)))
  (.seq (.seq (.region [(some 11, none, .load true 5 (.t 2)),
    (some 12, none, .move (.t 1)),
    (some 13, none, .call 143 [.t 11, .t 12]),
    (some 14, none, .un .not (.t 13))])
  (.cond (.t 14)
    (.seq (.region [(some 4, none, .move (.c (.v (.int .i64 40))))])
    (.ret))
    (.skip)))
  (.seq (.region [(some 4, none, .move (.c (.v (.int .i64 0))))])
  (.ret))))
def r51 : List ARet := [.tmp 4]

/-- riparian/riparianref04.CheckClause -/
def c52 : ACode :=
  .seq (.region [(some 2, none, .box 68 (.t 0)),
    (some 4, none, .move (.c (.v (.int .i64 0))))])
  (.seq (.seq (.region [(some 6, none, .move (.t 1)),
    (some 7, none, .bin .lss .no (.t 6) (.c (.v (.int .i64 0)))),
    (some 8, none, .move (.t 7)),
    (some 9, some (8, false), .move (.t 1)),
    (some 10, some (8, false), .bin .gtr .no (.t 9) (.c (.v (.int .i64 16)))),
    (some 11, none, .pick (.t 8) (.c (.v (.bool true))) (.t 10))])
  (.cond (.t 11)
    (.seq (.region [(some 4, none, .move (.c (.v (.int .i64 1))))])
    (.ret))
    (.skip)))
  (.seq (.region [(some 12, none, .load true 5 (.t 2)),
    (some 13, none, .move (.t 1)),
    (some 14, none, .call 144 [.t 12, .t 13]),
    (some 5, none, .move (.t 14))])
  (.seq (.seq (.region [(some 15, none, .move (.t 5)),
    (some 16, none, .un .not (.t 15))])
  (.cond (.t 16)
    (.seq (.region [(some 4, none, .move (.c (.v (.int .i64 40))))])
    (.ret))
    (.skip)))
  (.seq (.region [(some 4, none, .move (.c (.v (.int .i64 0))))])
  (.ret)))))
def r52 : List ARet := [.tmp 4]

/-- riparian/riparianref04.Check -/
def c53 : ACode :=
  .seq (.region [(some 1, none, .box 37 (.t 0)),
    (some 2, none, .move (.c (.v (.int .i64 0))))])
  (.seq (.region [(some 4, none, .load true 1 (.t 1)),
    (some 5, none, .call 117 [.t 4]),
    (some 3, none, .move (.t 5))])
  (.seq (.seq (.region [(some 6, none, .move (.t 3)),
    (some 7, none, .un .not (.t 6))])
  (.cond (.t 7)
    (.seq (.region [(some 2, none, .move (.c (.v (.int .i64 5))))])
    (.ret))
    (.skip)))
  (.seq (.region [(some 2, none, .move (.c (.v (.int .i64 0))))])
  (.ret))))
def r53 : List ARet := [.tmp 2]

/-- riparian/prog.CheckQuery -/
def c54 : ACode :=
  .seq (.region [(some 2, none, .box 37 (.t 0)),
    (some 3, none, .box 49 (.t 1)),
    (some 4, none, .move (.c (.v (.int .i64 0))))])
  (.seq (.region [(some 8, none, .load true 1 (.t 2)),
    (some 9, none, .load true 2 (.t 3)),
    (some 10, none, .call 145 [.t 8, .t 9]),
    (some 7, none, .move (.t 10)),
    (some 11, none, .extract (.t 7) 0),
    (some 12, none, .extract (.t 7) 1),
    (some 5, none, .alloc 153 [.v (.slice none 0 0), .v (.map none), .v (.map none)]),
    (none, none, .store 3 (.t 5) (.t 11)),
    (some 6, none, .move (.t 12))])
  (.seq (.region [(some 13, none, .move (.t 6)),
    (some 4, none, .move (.t 13))])
  (.ret)))
def r54 : List ARet := [.tmp 4]

/-- riparian/riparianref04.CheckQuery -/
def c55 : ACode :=
  .seq (.region [(some 2, none, .box 37 (.t 0)),
    (some 3, none, .box 49 (.t 1)),
    (some 4, none, .move (.c (.v (.int .i64 0))))])
  (.seq (.region [(some 7, none, .load true 1 (.t 2)),
    (some 8, none, .call 117 [.t 7]),
    (some 5, none, .move (.t 8))])
  (.seq (.region [(some 9, none, .load true 2 (.t 3)),
    (some 10, none, .call 127 [.t 9]),
    (some 6, none, .move (.t 10))])
  (.seq (.seq (.region [(some 11, none, .move (.t 5)),
    (some 12, none, .un .not (.t 11)),
    (some 13, none, .move (.t 12)),
    (some 14, some (13, false), .move (.t 6)),
    (some 15, some (13, false), .un .not (.t 14)),
    (some 16, none, .pick (.t 13) (.c (.v (.bool true))) (.t 15)),
    (some 17, none, .move (.t 16)),
    (some 18, some (17, false), .load true 1 (.t 2)),
    (some 19, some (17, false), .fieldAddr 1 (.t 3)),
    (some 20, some (17, false), .load false 1 (.t 19)),
    (some 21, some (17, false), .call 146 [.t 18, .t 20, .c (.v (.slice none 0 0))]),
    (some 22, some (17, false), .un .not (.t 21)),
    (some 23, none, .pick (.t 17) (.c (.v (.bool true))) (.t 22))])
  (.cond (.t 23)
    (.seq (.region [(some 4, none, .move (.c (.v (.int .i64 5))))])
    (.ret))
    (.skip)))
  (.seq (.region [(some 4, none, .move (.c (.v (.int .i64 0))))])
  (.ret)))))
def r55 : List ARet := [.tmp 4]

/-- riparian/riparianref01.VarsOf -/
def c59 : ACode :=
  .seq (.region [(some 2, none, .move (.c (.v (.slice none 0 0))))])
  (.seq (.region [(some 3, none, .move (.c (.v (.slice none 0 0))))])
  (.seq (.seq (.region [(some 4, none, .move (.c (.v (.int .i64 0))))])
  (.block 0
    (.loop
      (.seq (.seq (.region [(some 5, none, .move (.t 4)),
        (some 6, none, .move (.t 0)),
        (some 7, none, .len .sl (.t 6)),
        (some 8, none, .bin .lss .no (.t 5) (.t 7))])
      (.cond (.t 8)
        (.skip)
        (.exit 0)))
      (.seq (.block 1
        (.region [(some 11, none, .move (.t 0)),
          (some 12, none, .move (.t 4)),
          (some 13, none, .indexAddr 4 (.t 11) (.t 12)),
          (some 14, none, .load true 4 (.t 13)),
          (some 15, none, .move (.t 3)),
          (some 16, none, .call 149 [.t 14, .t 15]),
          (some 3, none, .move (.t 16))]))
      (.region [(some 9, none, .move (.t 4)),
        (some 10, none, .bin .add .no (.t 9) (.c (.v (.int .i64 1)))),
        (some 4, none, .move (.t 10))]))))))
  (.seq (.region [(some 17, none, .move (.t 3)),
    (some 2, none, .move (.t 17))])
  (.ret))))
def r59 : List ARet := [.tmp 2]

/-- riparian/riparianref04.Parts -/
def c60 : ACode :=
  .seq (.region [(some 1, none, .box 68 (.t 0)),
    (some 2, none, .move (.c (.v (.slice none 0 0))))])
  (.seq (.region [(some 3, none, .move (.c (.v (.slice none 0 0))))])
  (.seq (.region [(some 4, none, .move (.t 3)),
    (some 5, none, .fieldAddr 2 (.t 1)),
    (some 6, none, .load false 1 (.t 5)),
    (some 7, none, .append 24 4 56 (.t 4) (.t 6)),
    (some 3, none, .move (.t 7))])
  (.seq (.region [(some 8, none, .move (.t 3)),
    (some 9, none, .fieldAddr 3 (.t 1)),
    (some 10, none, .load false 1 (.t 9)),
    (some 11, none, .append 24 4 56 (.t 8) (.t 10)),
    (some 3, none, .move (.t 11))])
  (.seq (.region [(some 12, none, .move (.t 3)),
    (some 13, none, .fieldAddr 4 (.t 1)),
    (some 14, none, .load false 1 (.t 13)),
    (some 15, none, .append 24 4 56 (.t 12) (.t 14)),
    (some 2, none, .move (.t 15))])
  (.ret)))))
def r60 : List ARet := [.tmp 2]

/-- slices.ContainsFunc[[]int,int] -/
def c61 : ACode :=
  .seq (.region [(some 4, none, .move (.c (.v (.bool false))))])
  (.seq (.region [(some 5, none, .move (.t 0)),
    (some 6, none, .move (.t 1)),
    (some 7, none, .call 150 [.t 5, .t 6]),
    (some 8, none, .bin .geq .no (.t 7) (.c (.v (.int .i64 0)))),
    (some 4, none, .move (.t 8))])
  (.ret))
def r61 : List ARet := [.tmp 4]

/-- riparian/prog.open -/
def c116 : ACode :=
  .seq (.region [(some 1, none, .box 37 (.t 0)),
    (some 2, none, .alloc 153 [.v (.slice none 0 0), .v (.map none), .v (.map none)]),
    (some 3, none, .move (.c (.v (.int .i64 0))))])
  (.seq (.region [(some 7, none, .load true 1 (.t 1)),
    (some 8, none, .call 197 [.t 7]),
    (some 6, none, .move (.t 8)),
    (some 9, none, .extract (.t 6) 0),
    (some 10, none, .extract (.t 6) 1),
    (some 4, none, .alloc 151 [.v (.map none), .v (.map none)]),
    (none, none, .store 2 (.t 4) (.t 9)),
    (some 5, none, .move (.t 10))])
  (.seq (.seq (.region [(some 11, none, .move (.t 5)),
    (some 12, none, .un .not (.t 11)),
    (some 13, none, .move (.t 12)),
    (some 14, some (13, false), .load true 2 (.t 4)),
    (some 15, some (13, false), .load true 1 (.t 1)),
    (some 16, some (13, false), .call 198 [.t 14, .t 15]),
    (some 17, some (13, false), .un .not (.t 16)),
    (some 18, none, .pick (.t 13) (.c (.v (.bool true))) (.t 17))])
  (.cond (.t 18)
    (.seq (.region [(some 19, none, .build [.v (.slice none 0 0), .v (.map none), .v (.map none)] []),
      (none, none, .store 3 (.t 2) (.t 19)),
      (some 3, none, .move (.c (.v (.int .i64 5))))])
    (.ret))
    (.skip)))
  (.seq (.region [(some 20, none, .load true 1 (.t 1)),
    (some 21, none, .load true 2 (.t 4)),
    (some 22, none, .build [.v (.slice none 0 0), .v (.map none), .v (.map none)] [(0, 1, .t 20), (1, 2, .t 21)]),
    (none, none, .store 3 (.t 2) (.t 22)),
    (some 3, none, .move (.c (.v (.int .i64 0))))])
  (.ret))))
def r116 : List ARet := [.cell 2 true 3, .tmp 3]

/-- riparian/riparianref04.Is -/
def c117 : ACode :=
  .seq (.region [(some 1, none, .box 37 (.t 0)),
    (some 2, none, .move (.c (.v (.bool false))))])
  (.seq (.region [(some 3, none, .load true 1 (.t 1)),
    (some 4, none, .call 199 [.t 3, .c (.v (.slice none 0 0))]),
    (some 2, none, .move (.t 4))])
  (.ret))
def r117 : List ARet := [.tmp 2]

/-- riparian/riparianref04.find -/
def c123 : ACode :=
  .seq (.region [(some 2, none, .box 37 (.t 0)),
    (some 3, none, .box 26 (.t 1)),
    (some 4, none, .move (.c (.v (.int .i64 0))))])
  (.seq (.seq (.region [(some 5, none, .move (.c (.v (.int .i64 0))))])
  (.block 0
    (.loop
      (.seq (.seq (.region [(some 6, none, .move (.t 5)),
        (some 7, none, .fieldAddr 0 (.t 2)),
        (some 8, none, .load false 1 (.t 7)),
        (some 9, none, .len .sl (.t 8)),
        (some 10, none, .bin .lss .no (.t 6) (.t 9))])
      (.cond (.t 10)
        (.skip)
        (.exit 0)))
      (.seq (.block 1
        (.seq (.region [(some 13, none, .fieldAddr 0 (.t 2)),
          (some 14, none, .load false 1 (.t 13)),
          (some 15, none, .move (.t 5)),
          (some 16, none, .indexAddr 3 (.t 14) (.t 15)),
          (some 17, none, .fieldAddr 0 (.t 16)),
          (some 18, none, .load false 1 (.t 17)),
          (some 19, none, .fieldAddr 0 (.t 3)),
          (some 20, none, .load false 1 (.t 19)),
          (some 21, none, .bin .eql .no (.t 18) (.t 20)),
          (some 22, none, .move (.t 21)),
          (some 23, some (22, true), .fieldAddr 0 (.t 2)),
          (some 24, some (22, true), .load false 1 (.t 23)),
          (some 25, some (22, true), .move (.t 5)),
          (some 26, some (22, true), .indexAddr 3 (.t 24) (.t 25)),
          (some 27, some (22, true), .fieldAddr 1 (.t 26)),
          (some 28, some (22, true), .load false 1 (.t 27)),
          (some 29, some (22, true), .fieldAddr 1 (.t 3)),
          (some 30, some (22, true), .load false 1 (.t 29)),
          (some 31, some (22, true), .bin .eql .no (.t 28) (.t 30)),
          (some 32, none, .pick (.t 22) (.t 31) (.c (.v (.bool false))))])
        (.cond (.t 32)
          (.seq (.region [(some 33, none, .move (.t 5)),
            (some 4, none, .move (.t 33))])
          (.ret))
          (.skip))))
      (.region [(some 11, none, .move (.t 5)),
        (some 12, none, .bin .add .no (.t 11) (.c (.v (.int .i64 1)))),
        (some 5, none, .move (.t 12))]))))))
  (.seq (.region [(some 4, none, .move (.c (.v (.int .i64 (-1)))))])
  (.ret)))
def r123 : List ARet := [.tmp 4]

/-- riparian/prog.goals -/
def c125 : ACode :=
  .seq (.region [(some 1, none, .box 49 (.t 0)),
    (some 2, none, .move (.c (.v (.bool false))))])
  (.seq (.region [(some 3, none, .fieldAddr 1 (.t 1)),
    (some 4, none, .load false 1 (.t 3)),
    (some 5, none, .len .sl (.t 4)),
    (some 6, none, .bin .leq .no (.t 5) (.c (.v (.int .i64 16)))),
    (some 7, none, .move (.t 6)),
    (some 8, some (7, true), .fieldAddr 1 (.t 1)),
    (some 9, some (7, true), .load false 1 (.t 8)),
    (some 10, some (7, true), .call 181 [.t 9]),
    (some 11, some (7, true), .bin .eql .no (.t 10) (.c (.v (.int .i64 0)))),
    (some 12, none, .pick (.t 7) (.t 11) (.c (.v (.bool false)))),
    (some 13, none, .move (.t 12)),
    (some 14, some (13, true), .fieldAddr 1 (.t 1)),
    (some 15, some (13, true), .load false 1 (.t 14)),
    (some 16, some (13, true), .call 203 [.t 15]),
    (some 17, some (13, true), .bin .leq .no (.t 16) (.c (.v (.int .i64 400)))),
    (some 18, none, .pick (.t 13) (.t 17) (.c (.v (.bool false)))),
    (some 19, none, .move (.t 18)),
    (some 20, some (19, true), .fieldAddr 0 (.t 1)),
    (some 21, some (19, true), .load false 1 (.t 20)),
    (some 22, some (19, true), .bin .leq .no (.t 21) (.c (.v (.int .i64 64)))),
    (some 23, none, .pick (.t 19) (.t 22) (.c (.v (.bool false)))),
    (some 24, none, .move (.t 23)),
    (some 25, some (24, true), .fieldAddr 1 (.t 1)),
    (some 26, some (24, true), .load false 1 (.t 25)),
    (some 27, some (24, true), .fieldAddr 0 (.t 1)),
    (some 28, some (24, true), .load false 1 (.t 27)),
    (some 29, some (24, true), .call 204 [.t 26, .t 28]),
    (some 30, none, .pick (.t 24) (.t 29) (.c (.v (.bool false)))),
    (some 31, none, .move (.t 30)),
    (some 32, some (31, true), .fieldAddr 1 (.t 1)),
    (some 33, some (31, true), .load false 1 (.t 32)),
    (some 34, some (31, true), .call 188 [.t 33, .c (.fn (.func 205) [] [])]),
    (some 35, some (31, true), .un .not (.t 34)),
    (some 36, none, .pick (.t 31) (.t 35) (.c (.v (.bool false)))),
    (some 2, none, .move (.t 36))])
  (.ret))
def r125 : List ARet := [.tmp 2]

/-- riparian/riparianref04.goals -/
def c127 : ACode :=
  .seq (.region [(some 1, none, .box 49 (.t 0)),
    (some 2, none, .move (.c (.v (.bool false))))])
  (.seq (.region [(some 8, none, .fieldAddr 1 (.t 1)),
    (some 9, none, .load false 1 (.t 8)),
    (some 10, none, .call 170 [.t 9]),
    (some 3, none, .move (.t 10))])
  (.seq (.seq (.region [(some 11, none, .move (.t 3)),
    (some 12, none, .un .not (.t 11)),
    (some 13, none, .move (.t 12)),
    (some 14, some (13, false), .fieldAddr 1 (.t 1)),
    (some 15, some (13, false), .load false 1 (.t 14)),
    (some 16, some (13, false), .call 209 [.t 15]),
    (some 17, some (13, false), .bin .gtr .no (.t 16) (.c (.v (.int .i64 400)))),
    (some 18, none, .pick (.t 13) (.c (.v (.bool true))) (.t 17)),
    (some 19, none, .move (.t 18)),
    (some 20, some (19, false), .fieldAddr 1 (.t 1)),
    (some 21, some (19, false), .load false 1 (.t 20)),
    (some 22, some (19, false), .len .sl (.t 21)),
    (some 23, some (19, false), .bin .gtr .no (.t 22) (.c (.v (.int .i64 16)))),
    (some 24, none, .pick (.t 19) (.c (.v (.bool true))) (.t 23)),
    (some 25, none, .move (.t 24)),
    (some 26, some (25, false), .fieldAddr 1 (.t 1)),
    (some 27, some (25, false), .load false 1 (.t 26)),
    (some 28, some (25, false), .fieldAddr 0 (.t 1)),
    (some 29, some (25, false), .load false 1 (.t 28)),
    (some 30, some (25, false), .call 210 [.t 27, .t 29]),
    (some 31, some (25, false), .un .not (.t 30)),
    (some 32, none, .pick (.t 25) (.c (.v (.bool true))) (.t 31))])
  (.cond (.t 32)
    (.seq (.region [(some 2, none, .move (.c (.v (.bool false))))])
    (.ret))
    (.skip)))
  (.seq (.seq (.region [(some 4, none, .move (.c (.v (.int .i64 0))))])
  (.block 0
    (.loop
      (.seq (.seq (.region [(some 33, none, .move (.t 4)),
        (some 34, none, .fieldAddr 1 (.t 1)),
        (some 35, none, .load false 1 (.t 34)),
        (some 36, none, .len .sl (.t 35)),
        (some 37, none, .bin .lss .no (.t 33) (.t 36))])
      (.cond (.t 37)
        (.skip)
        (.exit 0)))
      (.seq (.block 1
        (.seq (.region [(some 41, none, .fieldAddr 1 (.t 1)),
          (some 42, none, .load false 1 (.t 41)),
          (some 43, none, .move (.t 4)),
          (some 44, none, .indexAddr 4 (.t 42) (.t 43)),
          (some 45, none, .load true 4 (.t 44)),
          (some 46, none, .call 98 [.t 45]),
          (some 40, none, .move (.t 46)),
          (some 47, none, .extract (.t 40) 0),
          (some 48, none, .extract (.t 40) 1),
          (some 49, none, .extract (.t 40) 2),
          (some 7, none, .alloc 24 [.v (.int .i64 0), .v (.int .i64 0), .str [], .v (.slice none 0 0)]),
          (some 5, none, .move (.t 47)),
          (some 6, none, .move (.t 48)),
          (none, none, .store 4 (.t 7) (.t 49))])
        (.seq (.region [(some 50, none, .move (.t 5)),
          (some 51, none, .bin .eql .no (.t 50) (.c (.v (.int .i64 0))))])
        (.cond (.t 51)
          (.seq (.region [(some 2, none, .move (.c (.v (.bool false))))])
          (.ret))
          (.skip)))))
      (.region [(some 38, none, .move (.t 4)),
        (some 39, none, .bin .add .no (.t 38) (.c (.v (.int .i64 1)))),
        (some 4, none, .move (.t 39))]))))))
  (.seq (.region [(some 2, none, .move (.c (.v (.bool true))))])
  (.ret)))))
def r127 : List ARet := [.tmp 2]

/-- slices.Index[[]int,int] -/
def c134 : ACode :=
  .seq (.region [(some 4, none, .move (.c (.v (.int .i64 0))))])
  (.seq (.seq (.region [(some 6, none, .move (.t 0)),
    (some 7, none, .len .sl (.t 6)),
    (some 8, none, .move (.c (.v (.int .i64 0))))])
  (.block 0
    (.loop
      (.seq (.region [(some 9, none, .bin .lss .no (.t 8) (.t 7))])
      (.seq (.cond (.t 9)
        (.skip)
        (.exit 0))
      (.seq (.block 1
        (.seq (.region [(some 10, none, .move (.t 8)),
          (some 5, none, .move (.t 10))])
        (.seq (.region [(some 11, none, .move (.t 1)),
          (some 12, none, .move (.t 0)),
          (some 13, none, .move (.t 5)),
          (some 14, none, .indexAddr 1 (.t 12) (.t 13)),
          (some 15, none, .load false 1 (.t 14)),
          (some 16, none, .bin .eql .no (.t 11) (.t 15))])
        (.cond (.t 16)
          (.seq (.region [(some 17, none, .move (.t 5)),
            (some 4, none, .move (.t 17))])
          (.ret))
          (.skip)))))
      (.region [(some 18, none, .bin .add .no (.t 8) (.c (.v (.int .i64 1)))),
        (some 8, none, .move (.t 18))])))))))
  (.seq (.region [(some 4, none, .move (.c (.v (.int .i64 (-1)))))])
  (.ret)))
def r134 : List ARet := [.tmp 4]

/-- riparian/prog.shaped -/
def c139 : ACode :=
  .seq (.region [(some 2, none, .box 68 (.t 0)),
    (some 4, none, .move (.c (.v (.bool false))))])
  (.seq (.seq (.region [(some 12, none, .fieldAddr 0 (.t 2)),
    (some 13, none, .load false 1 (.t 12)),
    (some 14, none, .bin .lss .no (.t 13) (.c (.v (.int .i64 0)))),
    (some 15, none, .move (.t 14)),
    (some 16, some (15, false), .fieldAddr 0 (.t 2)),
    (some 17, some (15, false), .load false 1 (.t 16)),
    (some 18, some (15, false), .bin .gtr .no (.t 17) (.c (.v (.int .i64 2)))),
    (some 19, none, .pick (.t 15) (.c (.v (.bool true))) (.t 18)),
    (some 20, none, .move (.t 19)),
    (some 21, some (20, false), .fieldAddr 2 (.t 2)),
    (some 22, some (20, false), .load false 1 (.t 21)),
    (some 23, some (20, false), .len .sl (.t 22)),
    (some 24, some (20, false), .move (.t 1)),
    (some 25, some (20, false), .bin .neq .no (.t 23) (.t 24)),
    (some 26, none, .pick (.t 20) (.c (.v (.bool true))) (.t 25)),
    (some 27, none, .move (.t 26)),
    (some 28, some (27, false), .fieldAddr 3 (.t 2)),
    (some 29, some (27, false), .load false 1 (.t 28)),
    (some 30, some (27, false), .len .sl (.t 29)),
    (some 31, some (27, false), .bin .gtr .no (.t 30) (.c (.v (.int .i64 8)))),
    (some 32, none, .pick (.t 27) (.c (.v (.bool true))) (.t 31)),
    (some 33, none, .move (.t 32)),
    (some 34, some (33, false), .fieldAddr 4 (.t 2)),
    (some 35, some (33, false), .load false 1 (.t 34)),
    (some 36, some (33, false), .len .sl (.t 35)),
    (some 37, some (33, false), .bin .gtr .no (.t 36) (.c (.v (.int .i64 16)))),
    (some 38, none, .pick (.t 33) (.c (.v (.bool true))) (.t 37))])
  (.cond (.t 38)
    (.seq (.region [(some 4, none, .move (.c (.v (.bool false))))])
    (.ret))
    (.skip)))
  (.seq (.region [(some 39, none, .load true 5 (.t 2)),
    (some 40, none, .call 140 [.t 39]),
    (some 5, none, .move (.t 40))])
  (.seq (.seq (.region [(some 41, none, .move (.t 5)),
    (some 42, none, .call 181 [.t 41]),
    (some 43, none, .bin .neq .no (.t 42) (.c (.v (.int .i64 0)))),
    (some 44, none, .move (.t 43)),
    (some 45, some (44, false), .move (.t 5)),
    (some 46, some (44, false), .call 203 [.t 45]),
    (some 47, some (44, false), .bin .gtr .no (.t 46) (.c (.v (.int .i64 400)))),
    (some 48, none, .pick (.t 44) (.c (.v (.bool true))) (.t 47))])
  (.cond (.t 48)
    (.seq (.region [(some 4, none, .move (.c (.v (.bool false))))])
    (.ret))
    (.skip)))
  (.seq (.region [(some 50, none, .move (.t 5)),
    (some 51, none, .call 211 [.t 50]),
    (some 49, none, .move (.t 51)),
    (some 52, none, .extract (.t 49) 0),
    (some 53, none, .extract (.t 49) 1),
    (some 6, none, .move (.t 52)),
    (some 7, none, .move (.t 53))])
  (.seq (.region [(some 55, none, .fieldAddr 2 (.t 2)),
    (some 56, none, .load false 1 (.t 55)),
    (some 57, none, .call 211 [.t 56]),
    (some 54, none, .move (.t 57)),
    (some 58, none, .extract (.t 54) 0),
    (some 59, none, .extract (.t 54) 1),
    (some 8, none, .alloc 61 [.v (.slice none 0 0)]),
    (none, none, .store 1 (.t 8) (.t 58)),
    (some 9, none, .move (.t 59))])
  (.seq (.region [(some 61, none, .fieldAddr 3 (.t 2)),
    (some 62, none, .load false 1 (.t 61)),
    (some 63, none, .call 211 [.t 62]),
    (some 60, none, .move (.t 63)),
    (some 64, none, .extract (.t 60) 0),
    (some 65, none, .extract (.t 60) 1),
    (some 10, none, .move (.t 64)),
    (some 11, none, .move (.t 65))])
  (.seq (.region [(some 66, none, .move (.t 6)),
    (some 67, none, .len .sl (.t 66)),
    (some 68, none, .bin .leq .no (.t 67) (.c (.v (.int .i64 64)))),
    (some 69, none, .move (.t 68)),
    (some 70, some (69, true), .move (.t 10)),
    (some 71, some (69, true), .mkFunc 215 [] [.t 8]),
    (some 72, some (69, true), .call 61 [.t 70, .t 71]),
    (some 73, some (69, true), .un .not (.t 72)),
    (some 74, none, .pick (.t 69) (.t 73) (.c (.v (.bool false)))),
    (some 75, none, .move (.t 74)),
    (some 76, some (75, true), .fieldAddr 3 (.t 2)),
    (some 77, some (75, true), .load false 1 (.t 76)),
    (some 78, some (75, true), .call 188 [.t 77, .c (.fn (.func 216) [] [])]),
    (some 79, some (75, true), .un .not (.t 78)),
    (some 80, none, .pick (.t 75) (.t 79) (.c (.v (.bool false)))),
    (some 81, none, .move (.t 80)),
    (some 82, some (81, true), .fieldAddr 4 (.t 2)),
    (some 83, some (81, true), .load false 1 (.t 82)),
    (some 84, some (81, true), .call 188 [.t 83, .c (.fn (.func 217) [] [])]),
    (some 85, some (81, true), .un .not (.t 84)),
    (some 86, none, .pick (.t 81) (.t 85) (.c (.v (.bool false)))),
    (some 4, none, .move (.t 86))])
  (.ret))))))))
def r139 : List ARet := [.tmp 4]

/-- riparian/prog.together -/
def c140 : ACode :=
  .seq (.region [(some 1, none, .box 68 (.t 0)),
    (some 2, none, .move (.c (.v (.slice none 0 0))))])
  (.seq (.region [(some 3, none, .fieldAddr 2 (.t 1)),
    (some 4, none, .load false 1 (.t 3)),
    (some 5, none, .fieldAddr 3 (.t 1)),
    (some 6, none, .load false 1 (.t 5)),
    (some 7, none, .fieldAddr 4 (.t 1)),
    (some 8, none, .load false 1 (.t 7)),
    (some 9, none, .buildSlice 22 1 (.v (.slice none 0 0)) 3 [(0, .t 4), (1, .t 6), (2, .t 8)]),
    (some 10, none, .call 218 [.t 9]),
    (some 2, none, .move (.t 10))])
  (.ret))
def r140 : List ARet := [.tmp 2]

/-- (riparian/prog.table).index -/
def c142 : ACode :=
  .seq (.region [(some 2, none, .box 151 (.t 0)),
    (some 3, none, .box 26 (.t 1)),
    (some 4, none, .move (.c (.v (.int .i64 0)))),
    (some 5, none, .move (.c (.v (.bool false))))])
  (.seq (.seq (.region [(some 9, none, .fieldAddr 0 (.t 2)),
    (some 10, none, .load false 1 (.t 9)),
    (some 11, none, .load true 2 (.t 3)),
    (some 12, none, .lookup (.st [.str, .int .i64]) (.v (.int .i64 0)) (.t 10) (.t 11) true),
    (some 8, none, .move (.t 12)),
    (some 13, none, .extract (.t 8) 0),
    (some 14, none, .extract (.t 8) 1),
    (some 6, none, .move (.t 13)),
    (some 7, none, .move (.t 14))])
  (.seq (.region [(some 15, none, .move (.t 7))])
  (.cond (.t 15)
    (.seq (.region [(some 16, none, .move (.t 6)),
      (some 4, none, .move (.t 16)),
      (some 5, none, .move (.c (.v (.bool true))))])
    (.ret))
    (.skip))))
  (.seq (.region [(some 17, none, .fieldAddr 1 (.t 2)),
    (some 18, none, .load false 1 (.t 17)),
    (some 19, none, .load true 2 (.t 3)),
    (some 20, none, .lookup (.st [.str, .int .i64]) (.v (.bool false)) (.t 18) (.t 19) false),
    (some 4, none, .move (.c (.v (.int .i64 (-1))))),
    (some 5, none, .move (.t 20))])
  (.ret)))
def r142 : List ARet := [.tmp 4, .tmp 5]

/-- riparian/prog.isClause -/
def c143 : ACode :=
  .seq (.region [(some 2, none, .box 68 (.t 0)),
    (some 4, none, .move (.c (.v (.bool false))))])
  (.seq (.region [(some 5, none, .load true 5 (.t 2)),
    (some 6, none, .move (.t 1)),
    (some 7, none, .call 139 [.t 5, .t 6]),
    (some 8, none, .move (.t 7)),
    (some 9, some (8, true), .load true 5 (.t 2)),
    (some 11, some (8, true), .fieldAddr 1 (.t 2)),
    (some 12, some (8, true), .load false 1 (.t 11)),
    (some 10, some (8, true), .call 140 [.t 9]),
    (none, some (8, true), .chk (some 12) (.load false 1 (.t 11))),
    (some 13, some (8, true), .call 204 [.t 10, .t 12]),
    (some 14, none, .pick (.t 8) (.t 13) (.c (.v (.bool false)))),
    (some 4, none, .move (.t 14))])
  (.ret))
def r143 : List ARet := [.tmp 4]

/-- riparian/riparianref04.IsClause -/
def c144 : ACode :=
  .seq (.region [(some 2, none, .box 68 (.t 0)),
    (some 4, none, .move (.c (.v (.bool false))))])
  (.seq (.region [(some 16, none, .load true 5 (.t 2)),
    (some 17, none, .call 60 [.t 16]),
    (some 5, none, .move (.t 17))])
  (.seq (.region [(some 18, none, .move (.t 5)),
    (some 19, none, .call 170 [.t 18]),
    (some 6, none, .move (.t 19))])
  (.seq (.seq (.region [(some 20, none, .move (.t 6)),
    (some 21, none, .un .not (.t 20)),
    (some 22, none, .move (.t 21)),
    (some 23, some (22, false), .move (.t 5)),
    (some 24, some (22, false), .call 209 [.t 23]),
    (some 25, some (22, false), .bin .gtr .no (.t 24) (.c (.v (.int .i64 400)))),
    (some 26, none, .pick (.t 22) (.c (.v (.bool true))) (.t 25)),
    (some 27, none, .move (.t 26)),
    (some 28, some (27, false), .move (.t 5)),
    (some 29, some (27, false), .fieldAddr 1 (.t 2)),
    (some 30, some (27, false), .load false 1 (.t 29)),
    (some 31, some (27, false), .call 210 [.t 28, .t 30]),
    (some 32, some (27, false), .un .not (.t 31)),
    (some 33, none, .pick (.t 27) (.c (.v (.bool true))) (.t 32))])
  (.cond (.t 33)
    (.seq (.region [(some 4, none, .move (.c (.v (.bool false))))])
    (.ret))
    (.skip)))
  (.seq (.seq (.region [(some 34, none, .fieldAddr 0 (.t 2)),
    (some 35, none, .load false 1 (.t 34)),
    (some 36, none, .bin .lss .no (.t 35) (.c (.v (.int .i64 0)))),
    (some 37, none, .move (.t 36)),
    (some 38, some (37, false), .fieldAddr 0 (.t 2)),
    (some 39, some (37, false), .load false 1 (.t 38)),
    (some 40, some (37, false), .bin .gtr .no (.t 39) (.c (.v (.int .i64 2)))),
    (some 41, none, .pick (.t 37) (.c (.v (.bool true))) (.t 40)),
    (some 42, none, .move (.t 41)),
    (some 43, some (42, false), .fieldAddr 2 (.t 2)),
    (some 44, some (42, false), .load false 1 (.t 43)),
    (some 45, some (42, false), .len .sl (.t 44)),
    (some 46, some (42, false), .move (.t 1)),
    (some 47, some (42, false), .bin .neq .no (.t 45) (.t 46)),
    (some 48, none, .pick (.t 42) (.c (.v (.bool true))) (.t 47)),
    (some 49, none, .move (.t 48)),
    (some 50, some (49, false), .fieldAddr 3 (.t 2)),
    (some 51, some (49, false), .load false 1 (.t 50)),
    (some 52, some (49, false), .len .sl (.t 51)),
    (some 53, some (49, false), .bin .gtr .no (.t 52) (.c (.v (.int .i64 8)))),
    (some 54, none, .pick (.t 49) (.c (.v (.bool true))) (.t 53)),
    (some 55, none, .move (.t 54)),
    (some 56, some (55, false), .fieldAddr 4 (.t 2)),
    (some 57, some (55, false), .load false 1 (.t 56)),
    (some 58, some (55, false), .len .sl (.t 57)),
    (some 59, some (55, false), .bin .gtr .no (.t 58) (.c (.v (.int .i64 16)))),
    (some 60, none, .pick (.t 55) (.c (.v (.bool true))) (.t 59))])
  (.cond (.t 60)
    (.seq (.region [(some 4, none, .move (.c (.v (.bool false))))])
    (.ret))
    (.skip)))
  (.seq (.seq (.region [(some 7, none, .move (.c (.v (.int .i64 0))))])
  (.block 0
    (.loop
      (.seq (.seq (.region [(some 61, none, .move (.t 7)),
        (some 62, none, .fieldAddr 3 (.t 2)),
        (some 63, none, .load false 1 (.t 62)),
        (some 64, none, .len .sl (.t 63)),
        (some 65, none, .bin .lss .no (.t 61) (.t 64))])
      (.cond (.t 65)
        (.skip)
        (.exit 0)))
      (.seq (.block 1
        (.seq (.region [(some 68, none, .fieldAddr 3 (.t 2)),
          (some 69, none, .load false 1 (.t 68)),
          (some 70, none, .move (.t 7)),
          (some 71, none, .indexAddr 4 (.t 69) (.t 70)),
          (some 72, none, .load true 4 (.t 71)),
          (some 73, none, .call 102 [.t 72]),
          (some 8, none, .move (.t 73))])
        (.seq (.region [(some 74, none, .move (.t 8)),
          (some 75, none, .un .not (.t 74))])
        (.cond (.t 75)
          (.seq (.region [(some 4, none, .move (.c (.v (.bool false))))])
          (.ret))
          (.skip)))))
      (.region [(some 66, none, .move (.t 7)),
        (some 67, none, .bin .add .no (.t 66) (.c (.v (.int .i64 1)))),
        (some 7, none, .move (.t 67))]))))))
  (.seq (.seq (.region [(some 9, none, .move (.c (.v (.int .i64 0))))])
  (.block 2
    (.loop
      (.seq (.seq (.region [(some 76, none, .move (.t 9)),
        (some 77, none, .fieldAddr 4 (.t 2)),
        (some 78, none, .load false 1 (.t 77)),
        (some 79, none, .len .sl (.t 78)),
        (some 80, none, .bin .lss .no (.t 76) (.t 79))])
      (.cond (.t 80)
        (.skip)
        (.exit 2)))
      (.seq (.block 3
        (.seq (.region [(some 84, none, .fieldAddr 4 (.t 2)),
          (some 85, none, .load false 1 (.t 84)),
          (some 86, none, .move (.t 9)),
          (some 87, none, .indexAddr 4 (.t 85) (.t 86)),
          (some 88, none, .load true 4 (.t 87)),
          (some 89, none, .call 98 [.t 88]),
          (some 83, none, .move (.t 89)),
          (some 90, none, .extract (.t 83) 0),
          (some 91, none, .extract (.t 83) 1),
          (some 92, none, .extract (.t 83) 2),
          (some 12, none, .alloc 24 [.v (.int .i64 0), .v (.int .i64 0), .str [], .v (.slice none 0 0)]),
          (some 10, none, .move (.t 90)),
          (some 11, none, .move (.t 91)),
          (none, none, .store 4 (.t 12) (.t 92))])
        (.seq (.region [(some 93, none, .move (.t 10)),
          (some 94, none, .bin .eql .no (.t 93) (.c (.v (.int .i64 0))))])
        (.cond (.t 94)
          (.seq (.region [(some 4, none, .move (.c (.v (.bool false))))])
          (.ret))
          (.skip)))))
      (.region [(some 81, none, .move (.t 9)),
        (some 82, none, .bin .add .no (.t 81) (.c (.v (.int .i64 1)))),
        (some 9, none, .move (.t 82))]))))))
  (.seq (.region [(some 95, none, .fieldAddr 2 (.t 2)),
    (some 96, none, .load false 1 (.t 95)),
    (some 97, none, .call 59 [.t 96]),
    (some 13, none, .move (.t 97))])
  (.seq (.region [(some 98, none, .fieldAddr 3 (.t 2)),
    (some 99, none, .load false 1 (.t 98)),
    (some 100, none, .call 59 [.t 99]),
    (some 14, none, .move (.t 100))])
  (.seq (.seq (.region [(some 15, none, .move (.c (.v (.int .i64 0))))])
  (.block 4
    (.loop
      (.seq (.seq (.region [(some 101, none, .move (.t 15)),
        (some 102, none, .move (.t 14)),
        (some 103, none, .len .sl (.t 102)),
        (some 104, none, .bin .lss .no (.t 101) (.t 103))])
      (.cond (.t 104)
        (.skip)
        (.exit 4)))
      (.seq (.block 5
        (.seq (.region [(some 107, none, .move (.t 13)),
          (some 108, none, .move (.t 14)),
          (some 109, none, .move (.t 15)),
          (some 110, none, .indexAddr 1 (.t 108) (.t 109)),
          (some 111, none, .load false 1 (.t 110)),
          (some 112, none, .call 219 [.t 107, .t 111]),
          (some 113, none, .un .not (.t 112))])
        (.cond (.t 113)
          (.seq (.region [(some 4, none, .move (.c (.v (.bool false))))])
          (.ret))
          (.skip))))
      (.region [(some 105, none, .move (.t 15)),
        (some 106, none, .bin .add .no (.t 105) (.c (.v (.int .i64 1)))),
        (some 15, none, .move (.t 106))]))))))
  (.seq (.region [(some 4, none, .move (.c (.v (.bool true))))])
  (.ret)))))))))))
def r144 : List ARet := [.tmp 4]

/-- riparian/prog.query -/
def c145 : ACode :=
  .seq (.region [(some 2, none, .box 37 (.t 0)),
    (some 3, none, .box 49 (.t 1)),
    (some 4, none, .alloc 153 [.v (.slice none 0 0), .v (.map none), .v (.map none)]),
    (some 5, none, .move (.c (.v (.int .i64 0))))])
  (.seq (.region [(some 9, none, .load true 1 (.t 2)),
    (some 10, none, .call 116 [.t 9]),
    (some 8, none, .move (.t 10)),
    (some 11, none, .extract (.t 8) 0),
    (some 12, none, .extract (.t 8) 1),
    (some 6, none, .alloc 153 [.v (.slice none 0 0), .v (.map none), .v (.map none)]),
    (none, none, .store 3 (.t 6) (.t 11)),
    (some 7, none, .move (.t 12))])
  (.seq (.seq (.region [(some 13, none, .move (.t 7)),
    (some 14, none, .bin .neq .no (.t 13) (.c (.v (.int .i64 0))))])
  (.cond (.t 14)
    (.seq (.region [(some 15, none, .load true 3 (.t 6)),
      (some 16, none, .move (.t 7)),
      (none, none, .store 3 (.t 4) (.t 15)),
      (some 5, none, .move (.t 16))])
    (.ret))
    (.skip)))
  (.seq (.seq (.region [(some 17, none, .load true 2 (.t 3)),
    (some 18, none, .call 125 [.t 17]),
    (some 19, none, .un .not (.t 18)),
    (some 20, none, .move (.t 19)),
    (some 21, some (20, false), .fieldAddr 1 (.t 6)),
    (some 22, some (20, false), .load true 2 (.t 21)),
    (some 23, some (20, false), .fieldAddr 1 (.t 3)),
    (some 24, some (20, false), .load false 1 (.t 23)),
    (some 25, some (20, false), .call 220 [.t 22, .t 24]),
    (some 26, some (20, false), .un .not (.t 25)),
    (some 27, none, .pick (.t 20) (.c (.v (.bool true))) (.t 26))])
  (.cond (.t 27)
    (.seq (.region [(some 28, none, .load true 3 (.t 6)),
      (none, none, .store 3 (.t 4) (.t 28)),
      (some 5, none, .move (.c (.v (.int .i64 5))))])
    (.ret))
    (.skip)))
  (.seq (.region [(some 29, none, .load true 3 (.t 6)),
    (none, none, .store 3 (.t 4) (.t 29)),
    (some 5, none, .move (.c (.v (.int .i64 0))))])
  (.ret)))))
def r145 : List ARet := [.cell 4 true 3, .tmp 5]

/-- riparian/riparianref04.calls -/
def c146 : ACode :=
  .seq (.region [(some 3, none, .box 37 (.t 0)),
    (some 6, none, .move (.c (.v (.bool false))))])
  (.seq (.seq (.region [(some 7, none, .move (.c (.v (.int .i64 0))))])
  (.block 0
    (.loop
      (.seq (.seq (.region [(some 10, none, .move (.t 7)),
        (some 11, none, .move (.t 1)),
        (some 12, none, .len .sl (.t 11)),
        (some 13, none, .bin .lss .no (.t 10) (.t 12))])
      (.cond (.t 13)
        (.skip)
        (.exit 0)))
      (.seq (.block 1
        (.seq (.region [(some 17, none, .move (.t 1)),
          (some 18, none, .move (.t 7)),
          (some 19, none, .indexAddr 4 (.t 17) (.t 18)),
          (some 20, none, .load true 4 (.t 19)),
          (some 21, none, .call 221 [.t 20]),
          (some 16, none, .move (.t 21)),
          (some 22, none, .extract (.t 16) 0),
          (some 23, none, .extract (.t 16) 1),
          (some 8, none, .alloc 26 [.str [], .v (.int .i64 0)]),
          (none, none, .store 2 (.t 8) (.t 22)),
          (some 9, none, .move (.t 23))])
        (.seq (.region [(some 24, none, .move (.t 9)),
          (some 25, none, .move (.t 24)),
          (some 26, some (25, true), .load true 1 (.t 3)),
          (some 27, some (25, true), .load true 2 (.t 8)),
          (some 28, some (25, true), .call 123 [.t 26, .t 27]),
          (some 29, some (25, true), .bin .lss .no (.t 28) (.c (.v (.int .i64 0)))),
          (some 30, none, .pick (.t 25) (.t 29) (.c (.v (.bool false)))),
          (some 31, none, .move (.t 30)),
          (some 32, some (31, true), .move (.t 2)),
          (some 33, some (31, true), .load true 2 (.t 8)),
          (some 34, some (31, true), .call 105 [.t 32, .t 33]),
          (some 35, some (31, true), .un .not (.t 34)),
          (some 36, none, .pick (.t 31) (.t 35) (.c (.v (.bool false))))])
        (.cond (.t 36)
          (.seq (.region [(some 6, none, .move (.c (.v (.bool false))))])
          (.ret))
          (.skip)))))
      (.region [(some 14, none, .move (.t 7)),
        (some 15, none, .bin .add .no (.t 14) (.c (.v (.int .i64 1)))),
        (some 7, none, .move (.t 15))]))))))
  (.seq (.region [(some 6, none, .move (.c (.v (.bool true))))])
  (.ret)))
def r146 : List ARet := [.tmp 6]

/-- riparian/riparianref01.variables -/
def c149 : ACode :=
  .seq (.region [(some 2, none, .box 24 (.t 0)),
    (some 4, none, .move (.c (.v (.slice none 0 0))))])
  (.seq (.seq (.region [(some 6, none, .fieldAddr 0 (.t 2)),
    (some 7, none, .load false 1 (.t 6)),
    (some 8, none, .bin .eql .no (.t 7) (.c (.v (.int .i64 1)))),
    (some 9, none, .move (.t 8)),
    (some 10, some (9, true), .move (.t 1)),
    (some 11, some (9, true), .fieldAddr 1 (.t 2)),
    (some 12, some (9, true), .load false 1 (.t 11)),
    (some 13, some (9, true), .call 219 [.t 10, .t 12]),
    (some 14, some (9, true), .un .not (.t 13)),
    (some 15, none, .pick (.t 9) (.t 14) (.c (.v (.bool false))))])
  (.cond (.t 15)
    (.region [(some 16, none, .move (.t 1)),
      (some 17, none, .fieldAddr 1 (.t 2)),
      (some 18, none, .load false 1 (.t 17)),
      (some 19, none, .buildSlice 3 1 (.v (.int .i64 0)) 1 [(0, .t 18)]),
      (some 20, none, .append 3 1 8 (.t 16) (.t 19)),
      (some 1, none, .move (.t 20))])
    (.skip)))
  (.seq (.seq (.region [(some 5, none, .move (.c (.v (.int .i64 0))))])
  (.block 0
    (.loop
      (.seq (.seq (.region [(some 21, none, .move (.t 5)),
        (some 22, none, .fieldAddr 3 (.t 2)),
        (some 23, none, .load false 1 (.t 22)),
        (some 24, none, .len .sl (.t 23)),
        (some 25, none, .bin .lss .no (.t 21) (.t 24))])
      (.cond (.t 25)
        (.skip)
        (.exit 0)))
      (.seq (.block 1
        (.region [(some 28, none, .fieldAddr 3 (.t 2)),
          (some 29, none, .load false 1 (.t 28)),
          (some 30, none, .move (.t 5)),
          (some 31, none, .indexAddr 4 (.t 29) (.t 30)),
          (some 32, none, .load true 4 (.t 31)),
          (some 33, none, .move (.t 1)),
          (some 34, none, .call 149 [.t 32, .t 33]),
          (some 1, none, .move (.t 34))]))
      (.region [(some 26, none, .move (.t 5)),
        (some 27, none, .bin .add .no (.t 26) (.c (.v (.int .i64 1)))),
        (some 5, none, .move (.t 27))]))))))
  (.seq (.region [(some 35, none, .move (.t 1)),
    (some 4, none, .move (.t 35))])
  (.ret))))
def r149 : List ARet := [.tmp 4]

/-- slices.IndexFunc[[]int,int] -/
def c150 : ACode :=
  .seq (.region [(some 4, none, .move (.c (.v (.int .i64 0))))])
  (.seq (.seq (.region [(some 6, none, .move (.t 0)),
    (some 7, none, .len .sl (.t 6)),
    (some 8, none, .move (.c (.v (.int .i64 0))))])
  (.block 0
    (.loop
      (.seq (.region [(some 9, none, .bin .lss .no (.t 8) (.t 7))])
      (.seq (.cond (.t 9)
        (.skip)
        (.exit 0))
      (.seq (.block 1
        (.seq (.region [(some 10, none, .move (.t 8)),
          (some 5, none, .move (.t 10))])
        (.seq (.region [(some 11, none, .move (.t 1)),
          (some 12, none, .move (.t 0)),
          (some 13, none, .move (.t 5)),
          (some 14, none, .indexAddr 1 (.t 12) (.t 13)),
          (some 15, none, .load false 1 (.t 14)),
          (some 16, none, .callV (.t 11) [.t 15])])
        (.cond (.t 16)
          (.seq (.region [(some 17, none, .move (.t 5)),
            (some 4, none, .move (.t 17))])
          (.ret))
          (.skip)))))
      (.region [(some 18, none, .bin .add .no (.t 8) (.c (.v (.int .i64 1)))),
        (some 8, none, .move (.t 18))])))))))
  (.seq (.region [(some 4, none, .move (.c (.v (.int .i64 (-1)))))])
  (.ret)))
def r150 : List ARet := [.tmp 4]

/-- riparian/riparianref01.Together -/
def c170 : ACode :=
  .seq (.region [(some 2, none, .move (.c (.v (.bool false))))])
  (.seq (.region [(some 3, none, .move (.c (.v (.int .i64 0))))])
  (.seq (.seq (.region [(some 4, none, .move (.c (.v (.int .i64 0))))])
  (.block 0
    (.loop
      (.seq (.seq (.region [(some 8, none, .move (.t 4)),
        (some 9, none, .move (.t 0)),
        (some 10, none, .len .sl (.t 9)),
        (some 11, none, .bin .lss .no (.t 8) (.t 10))])
      (.cond (.t 11)
        (.skip)
        (.exit 0)))
      (.seq (.block 1
        (.seq (.region [(some 14, none, .move (.t 0)),
          (some 15, none, .move (.t 4)),
          (some 16, none, .indexAddr 4 (.t 14) (.t 15)),
          (some 17, none, .load true 4 (.t 16)),
          (some 18, none, .call 97 [.t 17]),
          (some 5, none, .move (.t 18))])
        (.seq (.seq (.region [(some 19, none, .move (.t 5)),
          (some 20, none, .un .not (.t 19))])
        (.cond (.t 20)
          (.seq (.region [(some 2, none, .move (.c (.v (.bool false))))])
          (.ret))
          (.skip)))
        (.seq (.region [(some 22, none, .move (.t 0)),
          (some 23, none, .move (.t 4)),
          (some 24, none, .indexAddr 4 (.t 22) (.t 23)),
          (some 25, none, .load true 4 (.t 24)),
          (some 26, none, .call 184 [.t 25]),
          (some 21, none, .move (.t 26)),
          (some 27, none, .extract (.t 21) 0),
          (some 28, none, .extract (.t 21) 1),
          (some 6, none, .move (.t 27)),
          (some 7, none, .move (.t 28))])
        (.region [(some 29, none, .move (.t 3)),
          (some 30, none, .move (.t 6)),
          (some 31, none, .bin .add .no (.t 29) (.t 30)),
          (some 3, none, .move (.t 31))])))))
      (.region [(some 12, none, .move (.t 4)),
        (some 13, none, .bin .add .no (.t 12) (.c (.v (.int .i64 1)))),
        (some 4, none, .move (.t 13))]))))))
  (.seq (.region [(some 32, none, .move (.t 3)),
    (some 33, none, .bin .leq .no (.t 32) (.c (.v (.int .i64 4000)))),
    (some 2, none, .move (.t 33))])
  (.ret))))
def r170 : List ARet := [.tmp 2]

/-- riparian/prog.tabled -/
def c197 : ACode :=
  .seq (.region [(some 1, none, .box 37 (.t 0)),
    (some 2, none, .alloc 151 [.v (.map none), .v (.map none)]),
    (some 3, none, .move (.c (.v (.bool false))))])
  (.seq (.region [(some 10, none, .mkMap),
    (some 11, none, .build [.v (.map none), .v (.map none)] [(0, 1, .t 10)]),
    (some 4, none, .alloc 151 [.v (.map none), .v (.map none)]),
    (none, none, .store 2 (.t 4) (.t 11))])
  (.seq (.seq (.region [(some 12, none, .fieldAddr 0 (.t 1)),
    (some 13, none, .load false 1 (.t 12)),
    (some 14, none, .len .sl (.t 13)),
    (some 15, none, .bin .gtr .no (.t 14) (.c (.v (.int .i64 64))))])
  (.cond (.t 15)
    (.seq (.region [(some 16, none, .load true 2 (.t 4)),
      (none, none, .store 2 (.t 2) (.t 16)),
      (some 3, none, .move (.c (.v (.bool false))))])
    (.ret))
    (.skip)))
  (.seq (.seq (.region [(some 17, none, .fieldAddr 0 (.t 1)),
    (some 18, none, .load false 1 (.t 17)),
    (some 19, none, .len .sl (.t 18)),
    (some 20, none, .move (.c (.v (.int .i64 0))))])
  (.block 0
    (.loop
      (.seq (.region [(some 21, none, .bin .lss .no (.t 20) (.t 19))])
      (.seq (.cond (.t 21)
        (.skip)
        (.exit 0))
      (.seq (.block 1
        (.seq (.region [(some 22, none, .move (.t 20)),
          (some 23, none, .indexAddr 3 (.t 18) (.t 20)),
          (some 24, none, .load true 3 (.t 23)),
          (some 6, none, .alloc 60 [.str [], .v (.int .i64 0), .v (.slice none 0 0)]),
          (some 5, none, .move (.t 22)),
          (none, none, .store 3 (.t 6) (.t 24))])
        (.seq (.region [(some 25, none, .fieldAddr 0 (.t 6)),
          (some 26, none, .load false 1 (.t 25)),
          (some 27, none, .fieldAddr 1 (.t 6)),
          (some 28, none, .load false 1 (.t 27)),
          (some 29, none, .build [.str [], .v (.int .i64 0)] [(0, 1, .t 26), (1, 1, .t 28)]),
          (some 7, none, .alloc 26 [.str [], .v (.int .i64 0)]),
          (none, none, .store 2 (.t 7) (.t 29))])
        (.seq (.seq (.region [(some 31, none, .fieldAddr 0 (.t 4)),
          (some 32, none, .load false 1 (.t 31)),
          (some 33, none, .load true 2 (.t 7)),
          (some 34, none, .lookup (.st [.str, .int .i64]) (.v (.int .i64 0)) (.t 32) (.t 33) true),
          (some 30, none, .move (.t 34)),
          (some 35, none, .extract (.t 30) 0),
          (some 36, none, .extract (.t 30) 1),
          (some 8, none, .move (.t 35)),
          (some 9, none, .move (.t 36))])
        (.seq (.region [(some 37, none, .move (.t 9)),
          (some 38, none, .move (.t 37)),
          (some 39, some (38, false), .fieldAddr 0 (.t 6)),
          (some 40, some (38, false), .load false 1 (.t 39)),
          (some 41, some (38, false), .call 229 [.t 40]),
          (some 42, some (38, false), .un .not (.t 41)),
          (some 43, none, .pick (.t 38) (.c (.v (.bool true))) (.t 42)),
          (some 44, none, .move (.t 43)),
          (some 45, some (44, false), .fieldAddr 1 (.t 6)),
          (some 46, some (44, false), .load false 1 (.t 45)),
          (some 47, some (44, false), .bin .lss .no (.t 46) (.c (.v (.int .i64 0)))),
          (some 48, none, .pick (.t 44) (.c (.v (.bool true))) (.t 47)),
          (some 49, none, .move (.t 48)),
          (some 50, some (49, false), .fieldAddr 1 (.t 6)),
          (some 51, some (49, false), .load false 1 (.t 50)),
          (some 52, some (49, false), .bin .gtr .no (.t 51) (.c (.v (.int .i64 16)))),
          (some 53, none, .pick (.t 49) (.c (.v (.bool true))) (.t 52)),
          (some 54, none, .move (.t 53)),
          (some 55, some (54, false), .load true 2 (.t 7)),
          (some 56, some (54, false), .call 25 [.t 55]),
          (some 57, none, .pick (.t 54) (.c (.v (.bool true))) (.t 56)),
          (some 58, none, .move (.t 57)),
          (some 59, some (58, false), .fieldAddr 2 (.t 6)),
          (some 60, some (58, false), .load false 1 (.t 59)),
          (some 61, some (58, false), .len .sl (.t 60)),
          (some 62, some (58, false), .bin .gtr .no (.t 61) (.c (.v (.int .i64 32)))),
          (some 63, none, .pick (.t 58) (.c (.v (.bool true))) (.t 62))])
        (.cond (.t 63)
          (.seq (.region [(some 64, none, .load true 2 (.t 4)),
            (none, none, .store 2 (.t 2) (.t 64)),
            (some 3, none, .move (.c (.v (.bool false))))])
          (.ret))
          (.skip))))
        (.region [(some 65, none, .fieldAddr 0 (.t 4)),
          (some 66, none, .load false 1 (.t 65)),
          (some 67, none, .load true 2 (.t 7)),
          (some 68, none, .move (.t 5)),
          (none, none, .mapUpdate (.st [.str, .int .i64]) (.t 66) (.t 67) (.t 68))])))))
      (.region [(some 69, none, .bin .add .no (.t 20) (.c (.v (.int .i64 1)))),
        (some 20, none, .move (.t 69))])))))))
  (.seq (.region [(some 70, none, .load true 2 (.t 4)),
    (none, none, .store 2 (.t 2) (.t 70)),
    (some 3, none, .move (.c (.v (.bool true))))])
  (.ret)))))
def r197 : List ARet := [.cell 2 true 2, .tmp 3]

/-- (riparian/prog.table).sound -/
def c198 : ACode :=
  .seq (.region [(some 2, none, .box 151 (.t 0)),
    (some 3, none, .box 37 (.t 1)),
    (some 4, none, .move (.c (.v (.bool false))))])
  (.seq (.seq (.region [(some 9, none, .fieldAddr 0 (.t 3)),
    (some 10, none, .load false 1 (.t 9)),
    (some 11, none, .len .sl (.t 10)),
    (some 12, none, .move (.c (.v (.int .i64 0))))])
  (.block 0
    (.loop
      (.seq (.region [(some 13, none, .bin .lss .no (.t 12) (.t 11))])
      (.seq (.cond (.t 13)
        (.skip)
        (.exit 0))
      (.seq (.block 1
        (.seq (.region [(some 14, none, .indexAddr 3 (.t 10) (.t 12)),
          (some 15, none, .load true 3 (.t 14)),
          (some 6, none, .alloc 60 [.str [], .v (.int .i64 0), .v (.slice none 0 0)]),
          (none, none, .store 3 (.t 6) (.t 15))])
        (.seq (.region [(some 16, none, .fieldAddr 2 (.t 6)),
          (some 17, none, .load false 1 (.t 16)),
          (some 18, none, .len .sl (.t 17)),
          (some 19, none, .move (.c (.v (.int .i64 0))))])
        (.block 2
          (.loop
            (.seq (.region [(some 20, none, .bin .lss .no (.t 19) (.t 18))])
            (.seq (.cond (.t 20)
              (.skip)
              (.exit 2))
            (.seq (.block 3
              (.seq (.region [(some 21, none, .indexAddr 5 (.t 17) (.t 19)),
                (some 22, none, .load true 5 (.t 21)),
                (some 8, none, .alloc 68 [.v (.int .i64 0), .v (.int .i64 0), .v (.slice none 0 0), .v (.slice none 0 0), .v (.slice none 0 0)]),
                (none, none, .store 5 (.t 8) (.t 22))])
              (.seq (.region [(some 23, none, .load true 5 (.t 8)),
                (some 24, none, .fieldAddr 1 (.t 6)),
                (some 25, none, .load false 1 (.t 24)),
                (some 26, none, .call 143 [.t 23, .t 25]),
                (some 27, none, .un .not (.t 26)),
                (some 28, none, .move (.t 27)),
                (some 29, some (28, false), .load true 2 (.t 2)),
                (some 30, some (28, false), .fieldAddr 4 (.t 8)),
                (some 31, some (28, false), .load false 1 (.t 30)),
                (some 32, some (28, false), .call 220 [.t 29, .t 31]),
                (some 33, some (28, false), .un .not (.t 32)),
                (some 34, none, .pick (.t 28) (.c (.v (.bool true))) (.t 33))])
              (.cond (.t 34)
                (.seq (.region [(some 4, none, .move (.c (.v (.bool false))))])
                (.ret))
                (.skip)))))
            (.region [(some 35, none, .bin .add .no (.t 19) (.c (.v (.int .i64 1)))),
              (some 19, none, .move (.t 35))])))))))))
      (.region [(some 36, none, .bin .add .no (.t 12) (.c (.v (.int .i64 1)))),
        (some 12, none, .move (.t 36))])))))))
  (.seq (.region [(some 4, none, .move (.c (.v (.bool true))))])
  (.ret)))
def r198 : List ARet := [.tmp 4]

/-- riparian/riparianref04.program -/
def c199 : ACode :=
  .seq (.region [(some 2, none, .box 37 (.t 0)),
    (some 4, none, .move (.c (.v (.bool false))))])
  (.seq (.seq (.region [(some 12, none, .fieldAddr 0 (.t 2)),
    (some 13, none, .load false 1 (.t 12)),
    (some 14, none, .len .sl (.t 13)),
    (some 15, none, .bin .gtr .no (.t 14) (.c (.v (.int .i64 64))))])
  (.cond (.t 15)
    (.seq (.region [(some 4, none, .move (.c (.v (.bool false))))])
    (.ret))
    (.skip)))
  (.seq (.seq (.region [(some 5, none, .move (.c (.v (.int .i64 0))))])
  (.block 0
    (.loop
      (.seq (.seq (.region [(some 16, none, .move (.t 5)),
        (some 17, none, .fieldAddr 0 (.t 2)),
        (some 18, none, .load false 1 (.t 17)),
        (some 19, none, .len .sl (.t 18)),
        (some 20, none, .bin .lss .no (.t 16) (.t 19))])
      (.cond (.t 20)
        (.skip)
        (.exit 0)))
      (.seq (.block 1
        (.seq (.region [(some 23, none, .fieldAddr 0 (.t 2)),
          (some 24, none, .load false 1 (.t 23)),
          (some 25, none, .move (.t 5)),
          (some 26, none, .indexAddr 3 (.t 24) (.t 25)),
          (some 27, none, .load true 3 (.t 26)),
          (some 6, none, .alloc 60 [.str [], .v (.int .i64 0), .v (.slice none 0 0)]),
          (none, none, .store 3 (.t 6) (.t 27))])
        (.seq (.region [(some 28, none, .fieldAddr 0 (.t 6)),
          (some 29, none, .load false 1 (.t 28)),
          (some 30, none, .fieldAddr 1 (.t 6)),
          (some 31, none, .load false 1 (.t 30)),
          (some 32, none, .build [.str [], .v (.int .i64 0)] [(0, 1, .t 29), (1, 1, .t 31)]),
          (some 7, none, .alloc 26 [.str [], .v (.int .i64 0)]),
          (none, none, .store 2 (.t 7) (.t 32))])
        (.seq (.region [(some 33, none, .fieldAddr 0 (.t 6)),
          (some 34, none, .load false 1 (.t 33)),
          (some 35, none, .call 247 [.t 34]),
          (some 8, none, .move (.t 35))])
        (.seq (.seq (.region [(some 36, none, .move (.t 8)),
          (some 37, none, .un .not (.t 36)),
          (some 38, none, .move (.t 37)),
          (some 39, some (38, false), .fieldAddr 1 (.t 6)),
          (some 40, some (38, false), .load false 1 (.t 39)),
          (some 41, some (38, false), .bin .lss .no (.t 40) (.c (.v (.int .i64 0)))),
          (some 42, none, .pick (.t 38) (.c (.v (.bool true))) (.t 41)),
          (some 43, none, .move (.t 42)),
          (some 44, some (43, false), .fieldAddr 1 (.t 6)),
          (some 45, some (43, false), .load false 1 (.t 44)),
          (some 46, some (43, false), .bin .gtr .no (.t 45) (.c (.v (.int .i64 16)))),
          (some 47, none, .pick (.t 43) (.c (.v (.bool true))) (.t 46)),
          (some 48, none, .move (.t 47)),
          (some 49, some (48, false), .load true 1 (.t 2)),
          (some 50, some (48, false), .load true 2 (.t 7)),
          (some 51, some (48, false), .call 123 [.t 49, .t 50]),
          (some 52, some (48, false), .move (.t 5)),
          (some 53, some (48, false), .bin .neq .no (.t 51) (.t 52)),
          (some 54, none, .pick (.t 48) (.c (.v (.bool true))) (.t 53)),
          (some 55, none, .move (.t 54)),
          (some 56, some (55, false), .load true 2 (.t 7)),
          (some 57, some (55, false), .call 26 [.t 56]),
          (some 58, none, .pick (.t 55) (.c (.v (.bool true))) (.t 57)),
          (some 59, none, .move (.t 58)),
          (some 60, some (59, false), .fieldAddr 2 (.t 6)),
          (some 61, some (59, false), .load false 1 (.t 60)),
          (some 62, some (59, false), .len .sl (.t 61)),
          (some 63, some (59, false), .bin .gtr .no (.t 62) (.c (.v (.int .i64 32)))),
          (some 64, none, .pick (.t 59) (.c (.v (.bool true))) (.t 63))])
        (.cond (.t 64)
          (.seq (.region [(some 4, none, .move (.c (.v (.bool false))))])
          (.ret))
          (.skip)))
        (.seq (.region [(some 9, none, .move (.c (.v (.int .i64 0))))])
        (.block 2
          (.loop
            (.seq (.seq (.region [(some 65, none, .move (.t 9)),
              (some 66, none, .fieldAddr 2 (.t 6)),
              (some 67, none, .load false 1 (.t 66)),
              (some 68, none, .len .sl (.t 67)),
              (some 69, none, .bin .lss .no (.t 65) (.t 68))])
            (.cond (.t 69)
              (.skip)
              (.exit 2)))
            (.seq (.block 3
              (.seq (.region [(some 72, none, .fieldAddr 2 (.t 6)),
                (some 73, none, .load false 1 (.t 72)),
                (some 74, none, .move (.t 9)),
                (some 75, none, .indexAddr 5 (.t 73) (.t 74)),
                (some 76, none, .load true 5 (.t 75)),
                (some 10, none, .alloc 68 [.v (.int .i64 0), .v (.int .i64 0), .v (.slice none 0 0), .v (.slice none 0 0), .v (.slice none 0 0)]),
                (none, none, .store 5 (.t 10) (.t 76))])
              (.seq (.region [(some 77, none, .load true 5 (.t 10)),
                (some 78, none, .fieldAddr 1 (.t 6)),
                (some 79, none, .load false 1 (.t 78)),
                (some 80, none, .call 144 [.t 77, .t 79]),
                (some 11, none, .move (.t 80))])
              (.seq (.region [(some 81, none, .move (.t 11)),
                (some 82, none, .un .not (.t 81)),
                (some 83, none, .move (.t 82)),
                (some 84, some (83, false), .load true 1 (.t 2)),
                (some 85, some (83, false), .fieldAddr 4 (.t 10)),
                (some 86, some (83, false), .load false 1 (.t 85)),
                (some 87, some (83, false), .move (.t 1)),
                (some 88, some (83, false), .call 146 [.t 84, .t 86, .t 87]),
                (some 89, some (83, false), .un .not (.t 88)),
                (some 90, none, .pick (.t 83) (.c (.v (.bool true))) (.t 89))])
              (.cond (.t 90)
                (.seq (.region [(some 4, none, .move (.c (.v (.bool false))))])
                (.ret))
                (.skip))))))
            (.region [(some 70, none, .move (.t 9)),
              (some 71, none, .bin .add .no (.t 70) (.c (.v (.int .i64 1)))),
              (some 9, none, .move (.t 71))])))))))))))
      (.region [(some 21, none, .move (.t 5)),
        (some 22, none, .bin .add .no (.t 21) (.c (.v (.int .i64 1)))),
        (some 5, none, .move (.t 22))]))))))
  (.seq (.region [(some 4, none, .move (.c (.v (.bool true))))])
  (.ret))))
def r199 : List ARet := [.tmp 4]

/-- riparian/prog.nodes -/
def c203 : ACode :=
  .seq (.region [(some 2, none, .move (.c (.v (.int .i64 0))))])
  (.seq (.region [(some 3, none, .move (.c (.v (.int .i64 0))))])
  (.seq (.seq (.region [(some 8, none, .move (.t 0)),
    (some 9, none, .len .sl (.t 8)),
    (some 10, none, .move (.c (.v (.int .i64 0))))])
  (.block 0
    (.loop
      (.seq (.region [(some 11, none, .bin .lss .no (.t 10) (.t 9))])
      (.seq (.cond (.t 11)
        (.skip)
        (.exit 0))
      (.seq (.block 1
        (.seq (.region [(some 12, none, .indexAddr 4 (.t 8) (.t 10)),
          (some 13, none, .load true 4 (.t 12)),
          (some 5, none, .alloc 24 [.v (.int .i64 0), .v (.int .i64 0), .str [], .v (.slice none 0 0)]),
          (none, none, .store 4 (.t 5) (.t 13))])
        (.seq (.region [(some 15, none, .load true 4 (.t 5)),
          (some 16, none, .call 248 [.t 15]),
          (some 14, none, .move (.t 16)),
          (some 17, none, .extract (.t 14) 0),
          (some 18, none, .extract (.t 14) 1),
          (some 6, none, .move (.t 17)),
          (some 7, none, .move (.t 18))])
        (.region [(some 19, none, .move (.t 3)),
          (some 20, none, .move (.t 6)),
          (some 21, none, .bin .add .no (.t 19) (.t 20)),
          (some 3, none, .move (.t 21))]))))
      (.region [(some 22, none, .bin .add .no (.t 10) (.c (.v (.int .i64 1)))),
        (some 10, none, .move (.t 22))])))))))
  (.seq (.region [(some 23, none, .move (.t 3)),
    (some 2, none, .move (.t 23))])
  (.ret))))
def r203 : List ARet := [.tmp 2]

/-- riparian/prog.normal -/
def c204 : ACode :=
  .seq (.region [(some 4, none, .move (.c (.v (.bool false))))])
  (.seq (.region [(some 10, none, .move (.t 0)),
    (some 11, none, .call 211 [.t 10]),
    (some 9, none, .move (.t 11)),
    (some 12, none, .extract (.t 9) 0),
    (some 13, none, .extract (.t 9) 1),
    (some 5, none, .move (.t 12)),
    (some 6, none, .move (.t 13))])
  (.seq (.seq (.region [(some 14, none, .move (.t 5)),
    (some 15, none, .len .sl (.t 14)),
    (some 16, none, .move (.c (.v (.int .i64 0))))])
  (.block 0
    (.loop
      (.seq (.region [(some 17, none, .bin .lss .no (.t 16) (.t 15))])
      (.seq (.cond (.t 17)
        (.skip)
        (.exit 0))
      (.seq (.block 1
        (.seq (.region [(some 18, none, .move (.t 16)),
          (some 19, none, .indexAddr 1 (.t 14) (.t 16)),
          (some 20, none, .load false 1 (.t 19)),
          (some 7, none, .move (.t 18)),
          (some 8, none, .move (.t 20))])
        (.seq (.region [(some 21, none, .move (.t 8)),
          (some 22, none, .move (.t 7)),
          (some 23, none, .bin .neq .no (.t 21) (.t 22))])
        (.cond (.t 23)
          (.seq (.region [(some 4, none, .move (.c (.v (.bool false))))])
          (.ret))
          (.skip)))))
      (.region [(some 24, none, .bin .add .no (.t 16) (.c (.v (.int .i64 1)))),
        (some 16, none, .move (.t 24))])))))))
  (.seq (.region [(some 25, none, .move (.t 5)),
    (some 26, none, .len .sl (.t 25)),
    (some 27, none, .move (.t 1)),
    (some 28, none, .bin .eql .no (.t 26) (.t 27)),
    (some 4, none, .move (.t 28))])
  (.ret))))
def r204 : List ARet := [.tmp 4]

/-- riparian/prog.goals$1 -/
def c205 : ACode :=
  .seq (.region [(some 1, none, .box 24 (.t 0)),
    (some 2, none, .move (.c (.v (.bool false))))])
  (.seq (.region [(some 7, none, .load true 4 (.t 1)),
    (some 8, none, .call 96 [.t 7]),
    (some 6, none, .move (.t 8)),
    (some 9, none, .extract (.t 6) 0),
    (some 10, none, .extract (.t 6) 1),
    (some 11, none, .extract (.t 6) 2),
    (some 5, none, .alloc 24 [.v (.int .i64 0), .v (.int .i64 0), .str [], .v (.slice none 0 0)]),
    (some 3, none, .move (.t 9)),
    (some 4, none, .move (.t 10)),
    (none, none, .store 4 (.t 5) (.t 11))])
  (.seq (.region [(some 12, none, .move (.t 3)),
    (some 13, none, .bin .eql .no (.t 12) (.c (.v (.int .i64 0)))),
    (some 2, none, .move (.t 13))])
  (.ret)))
def r205 : List ARet := [.tmp 2]

/-- riparian/riparianref04.counted -/
def c209 : ACode :=
  .seq (.region [(some 2, none, .move (.c (.v (.int .i64 0))))])
  (.seq (.region [(some 3, none, .move (.c (.v (.int .i64 0))))])
  (.seq (.seq (.region [(some 4, none, .move (.c (.v (.int .i64 0))))])
  (.block 0
    (.loop
      (.seq (.seq (.region [(some 7, none, .move (.t 4)),
        (some 8, none, .move (.t 0)),
        (some 9, none, .len .sl (.t 8)),
        (some 10, none, .bin .lss .no (.t 7) (.t 9))])
      (.cond (.t 10)
        (.skip)
        (.exit 0)))
      (.seq (.block 1
        (.seq (.region [(some 14, none, .move (.t 0)),
          (some 15, none, .move (.t 4)),
          (some 16, none, .indexAddr 4 (.t 14) (.t 15)),
          (some 17, none, .load true 4 (.t 16)),
          (some 18, none, .call 184 [.t 17]),
          (some 13, none, .move (.t 18)),
          (some 19, none, .extract (.t 13) 0),
          (some 20, none, .extract (.t 13) 1),
          (some 5, none, .move (.t 19)),
          (some 6, none, .move (.t 20))])
        (.region [(some 21, none, .move (.t 3)),
          (some 22, none, .move (.t 5)),
          (some 23, none, .bin .add .no (.t 21) (.t 22)),
          (some 3, none, .move (.t 23))])))
      (.region [(some 11, none, .move (.t 4)),
        (some 12, none, .bin .add .no (.t 11) (.c (.v (.int .i64 1)))),
        (some 4, none, .move (.t 12))]))))))
  (.seq (.region [(some 24, none, .move (.t 3)),
    (some 2, none, .move (.t 24))])
  (.ret))))
def r209 : List ARet := [.tmp 2]

/-- riparian/riparianref04.normal -/
def c210 : ACode :=
  .seq (.region [(some 4, none, .move (.c (.v (.bool false))))])
  (.seq (.region [(some 7, none, .move (.t 0)),
    (some 8, none, .call 59 [.t 7]),
    (some 5, none, .move (.t 8))])
  (.seq (.seq (.region [(some 6, none, .move (.c (.v (.int .i64 0))))])
  (.block 0
    (.loop
      (.seq (.seq (.region [(some 9, none, .move (.t 6)),
        (some 10, none, .move (.t 5)),
        (some 11, none, .len .sl (.t 10)),
        (some 12, none, .bin .lss .no (.t 9) (.t 11))])
      (.cond (.t 12)
        (.skip)
        (.exit 0)))
      (.seq (.block 1
        (.seq (.region [(some 15, none, .move (.t 5)),
          (some 16, none, .move (.t 6)),
          (some 17, none, .indexAddr 1 (.t 15) (.t 16)),
          (some 18, none, .load false 1 (.t 17)),
          (some 19, none, .move (.t 6)),
          (some 20, none, .bin .neq .no (.t 18) (.t 19))])
        (.cond (.t 20)
          (.seq (.region [(some 4, none, .move (.c (.v (.bool false))))])
          (.ret))
          (.skip))))
      (.region [(some 13, none, .move (.t 6)),
        (some 14, none, .bin .add .no (.t 13) (.c (.v (.int .i64 1)))),
        (some 6, none, .move (.t 14))]))))))
  (.seq (.region [(some 21, none, .move (.t 1)),
    (some 22, none, .move (.t 5)),
    (some 23, none, .len .sl (.t 22)),
    (some 24, none, .bin .eql .no (.t 21) (.t 23)),
    (some 25, none, .move (.t 24)),
    (some 26, some (25, true), .move (.t 1)),
    (some 27, some (25, true), .bin .leq .no (.t 26) (.c (.v (.int .i64 64)))),
    (some 28, none, .pick (.t 25) (.t 27) (.c (.v (.bool false)))),
    (some 4, none, .move (.t 28))])
  (.ret))))
def r210 : List ARet := [.tmp 4]

/-- riparian/term.Vars -/
def c211 : ACode :=
  .seq (.region [(some 2, none, .move (.c (.v (.slice none 0 0)))),
    (some 3, none, .move (.c (.v (.int .i64 0))))])
  (.seq (.seq (.region [(some 5, none, .move (.t 0)),
    (some 6, none, .call 181 [.t 5]),
    (some 4, none, .move (.t 6))])
  (.seq (.region [(some 7, none, .move (.t 4)),
    (some 8, none, .bin .neq .no (.t 7) (.c (.v (.int .i64 0))))])
  (.cond (.t 8)
    (.seq (.region [(some 9, none, .move (.t 4)),
      (some 2, none, .move (.c (.v (.slice none 0 0)))),
      (some 3, none, .move (.t 9))])
    (.ret))
    (.skip))))
  (.seq (.region [(some 10, none, .move (.t 0)),
    (some 11, none, .call 249 [.t 10]),
    (some 2, none, .move (.t 11)),
    (some 3, none, .move (.c (.v (.int .i64 0))))])
  (.ret)))
def r211 : List ARet := [.tmp 2, .tmp 3]

/-- riparian/prog.shaped$1 -/
def c215 : ACode :=
  .seq (.region [(some 3, none, .move (.c (.v (.bool false))))])
  (.seq (.region [(some 4, none, .load false 1 (.t 1)),
    (some 5, none, .move (.t 0)),
    (some 6, none, .call 43 [.t 4, .t 5]),
    (some 7, none, .un .not (.t 6)),
    (some 3, none, .move (.t 7))])
  (.ret))
def r215 : List ARet := [.tmp 3]

/-- riparian/prog.shaped$2 -/
def c216 : ACode :=
  .seq (.region [(some 1, none, .box 24 (.t 0)),
    (some 2, none, .move (.c (.v (.bool false))))])
  (.seq (.region [(some 3, none, .load true 4 (.t 1)),
    (some 4, none, .call 101 [.t 3]),
    (some 5, none, .un .not (.t 4)),
    (some 2, none, .move (.t 5))])
  (.ret))
def r216 : List ARet := [.tmp 2]

/-- riparian/prog.shaped$3 -/
def c217 : ACode :=
  .seq (.region [(some 1, none, .box 24 (.t 0)),
    (some 2, none, .move (.c (.v (.bool false))))])
  (.seq (.region [(some 7, none, .load true 4 (.t 1)),
    (some 8, none, .call 96 [.t 7]),
    (some 6, none, .move (.t 8)),
    (some 9, none, .extract (.t 6) 0),
    (some 10, none, .extract (.t 6) 1),
    (some 11, none, .extract (.t 6) 2),
    (some 5, none, .alloc 24 [.v (.int .i64 0), .v (.int .i64 0), .str [], .v (.slice none 0 0)]),
    (some 3, none, .move (.t 9)),
    (some 4, none, .move (.t 10)),
    (none, none, .store 4 (.t 5) (.t 11))])
  (.seq (.region [(some 12, none, .move (.t 3)),
    (some 13, none, .bin .eql .no (.t 12) (.c (.v (.int .i64 0)))),
    (some 2, none, .move (.t 13))])
  (.ret)))
def r217 : List ARet := [.tmp 2]

/-- slices.Concat[[]riparian/api.Term,riparian/api.Term] -/
def c218 : ACode :=
  .seq (.region [(some 2, none, .move (.c (.v (.slice none 0 0))))])
  (.seq (.region [(some 3, none, .move (.c (.v (.int .i64 0))))])
  (.seq (.seq (.region [(some 9, none, .move (.t 0)),
    (some 10, none, .len .sl (.t 9)),
    (some 11, none, .move (.c (.v (.int .i64 0))))])
  (.block 0
    (.loop
      (.seq (.region [(some 12, none, .bin .lss .no (.t 11) (.t 10))])
      (.seq (.cond (.t 12)
        (.skip)
        (.exit 0))
      (.seq (.block 1
        (.seq (.region [(some 13, none, .indexAddr 1 (.t 9) (.t 11)),
          (some 14, none, .load false 1 (.t 13)),
          (some 5, none, .move (.t 14))])
        (.seq (.region [(some 15, none, .move (.t 3)),
          (some 16, none, .move (.t 5)),
          (some 17, none, .len .sl (.t 16)),
          (some 18, none, .bin .add .no (.t 15) (.t 17)),
          (some 3, none, .move (.t 18))])
        (.seq (.region [(some 19, none, .move (.t 3)),
          (some 20, none, .bin .lss .no (.t 19) (.c (.v (.int .i64 0))))])
        (.cond (.t 20)
          (.region [(some 21, none, .mkIface 9 (.c (.str [108, 101, 110, 32, 111, 117, 116, 32, 111, 102, 32, 114, 97, 110, 103, 101]))),
            (none, none, .panic (.t 21))])
          (.skip))))))
      (.region [(some 22, none, .bin .add .no (.t 11) (.c (.v (.int .i64 1)))),
        (some 11, none, .move (.t 22))])))))))
  (.seq (.region [(some 23, none, .move (.t 3)),
    (some 24, none, .call 253 [.c (.v (.slice none 0 0)), .t 23]),
    (some 6, none, .move (.t 24))])
  (.seq (.seq (.region [(some 25, none, .move (.t 0)),
    (some 26, none, .len .sl (.t 25)),
    (some 27, none, .move (.c (.v (.int .i64 0))))])
  (.block 2
    (.loop
      (.seq (.region [(some 28, none, .bin .lss .no (.t 27) (.t 26))])
      (.seq (.cond (.t 28)
        (.skip)
        (.exit 2))
      (.seq (.block 3
        (.seq (.region [(some 29, none, .indexAddr 1 (.t 25) (.t 27)),
          (some 30, none, .load false 1 (.t 29)),
          (some 8, none, .move (.t 30))])
        (.region [(some 31, none, .move (.t 6)),
          (some 32, none, .move (.t 8)),
          (some 33, none, .append 24 4 56 (.t 31) (.t 32)),
          (some 6, none, .move (.t 33))])))
      (.region [(some 34, none, .bin .add .no (.t 27) (.c (.v (.int .i64 1)))),
        (some 27, none, .move (.t 34))])))))))
  (.seq (.region [(some 35, none, .move (.t 6)),
    (some 2, none, .move (.t 35))])
  (.ret))))))
def r218 : List ARet := [.tmp 2]

/-- riparian/riparianref01.In -/
def c219 : ACode :=
  .seq (.region [(some 4, none, .move (.c (.v (.bool false))))])
  (.seq (.seq (.region [(some 5, none, .move (.c (.v (.int .i64 0))))])
  (.block 0
    (.loop
      (.seq (.seq (.region [(some 6, none, .move (.t 5)),
        (some 7, none, .move (.t 0)),
        (some 8, none, .len .sl (.t 7)),
        (some 9, none, .bin .lss .no (.t 6) (.t 8))])
      (.cond (.t 9)
        (.skip)
        (.exit 0)))
      (.seq (.block 1
        (.seq (.region [(some 12, none, .move (.t 0)),
          (some 13, none, .move (.t 5)),
          (some 14, none, .indexAddr 1 (.t 12) (.t 13)),
          (some 15, none, .load false 1 (.t 14)),
          (some 16, none, .move (.t 1)),
          (some 17, none, .bin .eql .no (.t 15) (.t 16))])
        (.cond (.t 17)
          (.seq (.region [(some 4, none, .move (.c (.v (.bool true))))])
          (.ret))
          (.skip))))
      (.region [(some 10, none, .move (.t 5)),
        (some 11, none, .bin .add .no (.t 10) (.c (.v (.int .i64 1)))),
        (some 5, none, .move (.t 11))]))))))
  (.seq (.region [(some 4, none, .move (.c (.v (.bool false))))])
  (.ret)))
def r219 : List ARet := [.tmp 4]

/-- (riparian/prog.table).allowed -/
def c220 : ACode :=
  .seq (.region [(some 2, none, .box 151 (.t 0)),
    (some 4, none, .move (.c (.v (.bool false))))])
  (.seq (.region [(some 5, none, .move (.t 1)),
    (some 6, none, .call 226 [.t 5]),
    (some 7, none, .mkFunc 255 [] [.t 2]),
    (some 8, none, .call 254 [.t 6, .t 7]),
    (some 9, none, .un .not (.t 8)),
    (some 4, none, .move (.t 9))])
  (.ret))
def r220 : List ARet := [.tmp 4]

/-- riparian/riparianref04.callee -/
def c221 : ACode :=
  .seq (.region [(some 1, none, .box 24 (.t 0)),
    (some 2, none, .alloc 26 [.str [], .v (.int .i64 0)]),
    (some 3, none, .move (.c (.v (.bool false))))])
  (.seq (.region [(some 8, none, .load true 4 (.t 1)),
    (some 9, none, .call 98 [.t 8]),
    (some 7, none, .move (.t 9)),
    (some 10, none, .extract (.t 7) 0),
    (some 11, none, .extract (.t 7) 1),
    (some 12, none, .extract (.t 7) 2),
    (some 6, none, .alloc 24 [.v (.int .i64 0), .v (.int .i64 0), .str [], .v (.slice none 0 0)]),
    (some 4, none, .move (.t 10)),
    (some 5, none, .move (.t 11)),
    (none, none, .store 4 (.t 6) (.t 12))])
  (.seq (.seq (.region [(some 13, none, .move (.t 4)),
    (some 14, none, .bin .neq .no (.t 13) (.c (.v (.int .i64 1))))])
  (.cond (.t 14)
    (.seq (.region [(some 15, none, .build [.str [], .v (.int .i64 0)] []),
      (none, none, .store 2 (.t 2) (.t 15)),
      (some 3, none, .move (.c (.v (.bool false))))])
    (.ret))
    (.skip)))
  (.seq (.region [(some 16, none, .load true 4 (.t 6)),
    (some 17, none, .call 202 [.t 16]),
    (some 18, none, .extract (.t 17) 0),
    (some 19, none, .extract (.t 17) 1),
    (none, none, .store 2 (.t 2) (.t 18)),
    (some 3, none, .move (.t 19))])
  (.ret))))
def r221 : List ARet := [.cell 2 true 2, .tmp 3]

/-- riparian/term.nodes -/
def c223 : ACode :=
  .seq (.region [(some 1, none, .box 24 (.t 0)),
    (some 2, none, .move (.c (.v (.nilFunc))))])
  (.seq (.region [(some 3, none, .mkFunc 256 [] [.t 1]),
    (some 2, none, .move (.t 3))])
  (.ret))
def r223 : List ARet := [.tmp 2]

/-- riparian/prog.called -/
def c226 : ACode :=
  .seq (.region [(some 2, none, .move (.c (.v (.slice none 0 0))))])
  (.seq (.region [(some 3, none, .move (.c (.v (.slice none 0 0))))])
  (.seq (.seq (.region [(some 11, none, .move (.t 0)),
    (some 12, none, .len .sl (.t 11)),
    (some 13, none, .move (.c (.v (.int .i64 0))))])
  (.block 0
    (.loop
      (.seq (.region [(some 14, none, .bin .lss .no (.t 13) (.t 12))])
      (.seq (.cond (.t 14)
        (.skip)
        (.exit 0))
      (.seq (.block 1
        (.seq (.region [(some 15, none, .indexAddr 4 (.t 11) (.t 13)),
          (some 16, none, .load true 4 (.t 15)),
          (some 5, none, .alloc 24 [.v (.int .i64 0), .v (.int .i64 0), .str [], .v (.slice none 0 0)]),
          (none, none, .store 4 (.t 5) (.t 16))])
        (.seq (.region [(some 18, none, .load true 4 (.t 5)),
          (some 19, none, .call 96 [.t 18]),
          (some 17, none, .move (.t 19)),
          (some 20, none, .extract (.t 17) 0),
          (some 21, none, .extract (.t 17) 1),
          (some 22, none, .extract (.t 17) 2),
          (some 8, none, .alloc 24 [.v (.int .i64 0), .v (.int .i64 0), .str [], .v (.slice none 0 0)]),
          (some 6, none, .move (.t 20)),
          (some 7, none, .move (.t 21)),
          (none, none, .store 4 (.t 8) (.t 22))])
        (.seq (.region [(some 23, none, .move (.t 6)),
          (some 24, none, .bin .eql .no (.t 23) (.c (.v (.int .i64 1))))])
        (.cond (.t 24)
          (.seq (.region [(some 26, none, .load true 4 (.t 8)),
            (some 27, none, .call 234 [.t 26]),
            (some 25, none, .move (.t 27)),
            (some 28, none, .extract (.t 25) 0),
            (some 29, none, .extract (.t 25) 1),
            (some 9, none, .alloc 26 [.str [], .v (.int .i64 0)]),
            (none, none, .store 2 (.t 9) (.t 28)),
            (some 10, none, .move (.t 29))])
          (.region [(some 30, none, .move (.t 3)),
            (some 31, none, .load true 2 (.t 9)),
            (some 32, none, .buildSlice 26 2 (.agg [.str [], .v (.int .i64 0)]) 1 [(0, .t 31)]),
            (some 33, none, .append 26 2 24 (.t 30) (.t 32)),
            (some 3, none, .move (.t 33))]))
          (.skip))))))
      (.region [(some 34, none, .bin .add .no (.t 13) (.c (.v (.int .i64 1)))),
        (some 13, none, .move (.t 34))])))))))
  (.seq (.region [(some 35, none, .move (.t 3)),
    (some 2, none, .move (.t 35))])
  (.ret))))
def r226 : List ARet := [.tmp 2]

/-- riparian/prog.isName -/
def c229 : ACode :=
  .seq (.region [(some 2, none, .move (.c (.v (.bool false))))])
  (.seq (.region [(some 3, none, .move (.t 0)),
    (some 4, none, .len .str (.t 3)),
    (some 5, none, .bin .geq .no (.t 4) (.c (.v (.int .i64 1)))),
    (some 6, none, .move (.t 5)),
    (some 7, some (6, true), .move (.t 0)),
    (some 8, some (6, true), .len .str (.t 7)),
    (some 9, some (6, true), .bin .leq .no (.t 8) (.c (.v (.int .i64 32)))),
    (some 10, none, .pick (.t 6) (.t 9) (.c (.v (.bool false)))),
    (some 11, none, .move (.t 10)),
    (some 12, some (11, true), .move (.t 0)),
    (some 13, some (11, true), .call 259 [.t 12, .c (.fn (.func 260) [] [])]),
    (some 14, some (11, true), .un .not (.t 13)),
    (some 15, none, .pick (.t 11) (.t 14) (.c (.v (.bool false)))),
    (some 2, none, .move (.t 15))])
  (.ret))
def r229 : List ARet := [.tmp 2]

/-- riparian/term.Size -/
def c248 : ACode :=
  .seq (.region [(some 1, none, .box 24 (.t 0)),
    (some 2, none, .move (.c (.v (.int .i64 0)))),
    (some 3, none, .move (.c (.v (.int .i64 0))))])
  (.seq (.region [(some 4, none, .move (.c (.v (.int .i64 1)))),
    (some 5, none, .move (.c (.v (.int .i64 0))))])
  (.seq (.seq (.region [(some 10, none, .fieldAddr 3 (.t 1)),
    (some 11, none, .load false 1 (.t 10)),
    (some 12, none, .len .sl (.t 11)),
    (some 13, none, .move (.c (.v (.int .i64 0))))])
  (.block 0
    (.loop
      (.seq (.region [(some 14, none, .bin .lss .no (.t 13) (.t 12))])
      (.seq (.cond (.t 14)
        (.skip)
        (.exit 0))
      (.seq (.block 1
        (.seq (.region [(some 15, none, .indexAddr 4 (.t 11) (.t 13)),
          (some 16, none, .load true 4 (.t 15)),
          (some 7, none, .alloc 24 [.v (.int .i64 0), .v (.int .i64 0), .str [], .v (.slice none 0 0)]),
          (none, none, .store 4 (.t 7) (.t 16))])
        (.seq (.region [(some 18, none, .load true 4 (.t 7)),
          (some 19, none, .call 248 [.t 18]),
          (some 17, none, .move (.t 19)),
          (some 20, none, .extract (.t 17) 0),
          (some 21, none, .extract (.t 17) 1),
          (some 8, none, .move (.t 20)),
          (some 9, none, .move (.t 21))])
        (.region [(some 22, none, .move (.t 4)),
          (some 23, none, .move (.t 8)),
          (some 24, none, .bin .add .no (.t 22) (.t 23)),
          (some 25, none, .move (.t 5)),
          (some 26, none, .move (.t 9)),
          (some 27, none, .max (.t 25) (.t 26)),
          (some 4, none, .move (.t 24)),
          (some 5, none, .move (.t 27))]))))
      (.region [(some 28, none, .bin .add .no (.t 13) (.c (.v (.int .i64 1)))),
        (some 13, none, .move (.t 28))])))))))
  (.seq (.region [(some 29, none, .move (.t 4)),
    (some 30, none, .move (.t 5)),
    (some 31, none, .bin .add .no (.t 30) (.c (.v (.int .i64 1)))),
    (some 2, none, .move (.t 29)),
    (some 3, none, .move (.t 31))])
  (.ret))))
def r248 : List ARet := [.tmp 2, .tmp 3]

/-- riparian/term.vars: range 0 -/
def ra249_0 : ACode :=
  .region [(some 7, none, .alloc 24 [.v (.int .i64 0), .v (.int .i64 0), .str [], .v (.slice none 0 0)]),
    (none, none, .store 4 (.t 7) (.t 17))]
def rb249_0 : ACode :=
  .block 3
    (.seq (.region [(some 18, none, .fieldAddr 0 (.t 7)),
      (some 19, none, .load false 1 (.t 18)),
      (some 20, none, .bin .eql .no (.t 19) (.c (.v (.int .i64 1)))),
      (some 21, none, .move (.t 20)),
      (some 22, some (21, true), .load false 1 (.t 4)),
      (some 23, some (21, true), .fieldAddr 1 (.t 7)),
      (some 24, some (21, true), .load false 1 (.t 23)),
      (some 25, some (21, true), .lookup (.one (.int .i64)) (.v (.bool false)) (.t 22) (.t 24) false),
      (some 26, some (21, true), .un .not (.t 25)),
      (some 27, none, .pick (.t 21) (.t 26) (.c (.v (.bool false))))])
    (.cond (.t 27)
      (.seq (.region [(some 28, none, .load false 1 (.t 4)),
        (some 29, none, .fieldAddr 1 (.t 7)),
        (some 30, none, .load false 1 (.t 29)),
        (none, none, .mapUpdate (.one (.int .i64)) (.t 28) (.t 30) (.c (.v (.bool true))))])
      (.region [(some 31, none, .load false 1 (.t 3)),
        (some 32, none, .fieldAddr 1 (.t 7)),
        (some 33, none, .load false 1 (.t 32)),
        (some 34, none, .buildSlice 3 1 (.v (.int .i64 0)) 1 [(0, .t 33)]),
        (some 35, none, .append 3 1 8 (.t 31) (.t 34)),
        (none, none, .store 1 (.t 3) (.t 35))]))
      (.skip)))
-- RF 249 0 38

/-- riparian/term.vars -/
noncomputable def c249 : ACode :=
  .seq (.region [(some 2, none, .move (.c (.v (.slice none 0 0))))])
  (.seq (.region [(some 3, none, .alloc 61 [.v (.slice none 0 0)])])
  (.seq (.region [(some 8, none, .mkMap),
    (some 4, none, .alloc 288 [.v (.map none)]),
    (none, none, .store 1 (.t 4) (.t 8))])
  (.seq (.seq (.region [(some 9, none, .move (.t 0)),
    (some 10, none, .len .sl (.t 9)),
    (some 11, none, .move (.c (.v (.int .i64 0))))])
  (.block 0
    (.loop
      (.seq (.region [(some 12, none, .bin .lss .no (.t 11) (.t 10))])
      (.seq (.cond (.t 12)
        (.skip)
        (.exit 0))
      (.seq (.block 1
        (.seq (.region [(some 13, none, .indexAddr 4 (.t 9) (.t 11)),
          (some 14, none, .load true 4 (.t 13)),
          (some 6, none, .alloc 24 [.v (.int .i64 0), .v (.int .i64 0), .str [], .v (.slice none 0 0)]),
          (none, none, .store 4 (.t 6) (.t 14))])
        (.seq (.region [(some 15, none, .load true 4 (.t 6)),
          (some 16, none, .call 223 [.t 15])])
        (.block 2
          (.rangeFunc 38 (.t 16) [17] (rfAt Tryz.prog Tryz.f249 0).1 (rfAt Tryz.prog Tryz.f249 0).2)))))
      (.region [(some 36, none, .bin .add .no (.t 11) (.c (.v (.int .i64 1)))),
        (some 11, none, .move (.t 36))])))))))
  (.seq (.region [(some 37, none, .load false 1 (.t 3)),
    (some 2, none, .move (.t 37))])
  (.ret)))))
def r249 : List ARet := [.tmp 2]

/-- slices.Grow[[]riparian/api.Term,riparian/api.Term] -/
def c253 : ACode :=
  .seq (.region [(some 4, none, .move (.c (.v (.slice none 0 0))))])
  (.seq (.seq (.region [(some 5, none, .move (.t 1)),
    (some 6, none, .bin .lss .no (.t 5) (.c (.v (.int .i64 0))))])
  (.cond (.t 6)
    (.region [(some 7, none, .mkIface 9 (.c (.str [99, 97, 110, 110, 111, 116, 32, 98, 101, 32, 110, 101, 103, 97, 116, 105, 118, 101]))),
      (none, none, .panic (.t 7))])
    (.skip)))
  (.seq (.seq (.region [(some 8, none, .move (.t 1)),
    (some 9, none, .move (.t 0)),
    (some 10, none, .cap (.t 9)),
    (some 11, none, .move (.t 0)),
    (some 12, none, .len .sl (.t 11)),
    (some 13, none, .bin .sub .no (.t 10) (.t 12)),
    (some 14, none, .bin .sub .no (.t 8) (.t 13)),
    (some 1, none, .move (.t 14))])
  (.seq (.region [(some 15, none, .move (.t 1)),
    (some 16, none, .bin .gtr .no (.t 15) (.c (.v (.int .i64 0))))])
  (.cond (.t 16)
    (.region [(some 17, none, .move (.t 0)),
      (some 18, none, .move (.t 0)),
      (some 19, none, .cap (.t 18)),
      (some 20, none, .slice 4 (.t 17) none (some (.t 19)) none),
      (some 21, none, .move (.t 1)),
      (some 22, none, .appendZ 24 4 56 (.agg [.v (.int .i64 0), .v (.int .i64 0), .str [], .v (.slice none 0 0)]) (.t 20) (.t 21)),
      (some 23, none, .move (.t 0)),
      (some 24, none, .len .sl (.t 23)),
      (some 25, none, .slice 4 (.t 22) none (some (.t 24)) none),
      (some 0, none, .move (.t 25))])
    (.skip))))
  (.seq (.region [(some 26, none, .move (.t 0)),
    (some 4, none, .move (.t 26))])
  (.ret))))
def r253 : List ARet := [.tmp 4]

/-- slices.ContainsFunc[[]riparian/api.Symbol,riparian/api.Symbol] -/
def c254 : ACode :=
  .seq (.region [(some 4, none, .move (.c (.v (.bool false))))])
  (.seq (.region [(some 5, none, .move (.t 0)),
    (some 6, none, .move (.t 1)),
    (some 7, none, .call 291 [.t 5, .t 6]),
    (some 8, none, .bin .geq .no (.t 7) (.c (.v (.int .i64 0)))),
    (some 4, none, .move (.t 8))])
  (.ret))
def r254 : List ARet := [.tmp 4]

/-- (riparian/prog.table).allowed$1 -/
def c255 : ACode :=
  .seq (.region [(some 2, none, .box 26 (.t 0)),
    (some 3, none, .move (.c (.v (.bool false))))])
  (.seq (.region [(some 7, none, .load true 2 (.t 1)),
    (some 8, none, .load true 2 (.t 2)),
    (some 9, none, .call 142 [.t 7, .t 8]),
    (some 6, none, .move (.t 9)),
    (some 10, none, .extract (.t 6) 0),
    (some 11, none, .extract (.t 6) 1),
    (some 4, none, .move (.t 10)),
    (some 5, none, .move (.t 11))])
  (.seq (.region [(some 12, none, .move (.t 5)),
    (some 13, none, .un .not (.t 12)),
    (some 3, none, .move (.t 13))])
  (.ret)))
def r255 : List ARet := [.tmp 3]

/-- riparian/term.nodes$1 -/
def c256 : ACode :=
  .region [(some 3, none, .load true 4 (.t 1)),
    (some 4, none, .move (.t 0)),
    (some 5, none, .call 257 [.t 3, .t 4])]
def r256 : List ARet := []

/-- riparian/term.walk -/
def c257 : ACode :=
  .seq (.region [(some 2, none, .box 24 (.t 0)),
    (some 4, none, .move (.c (.v (.bool false))))])
  (.seq (.seq (.region [(some 7, none, .move (.t 1)),
    (some 8, none, .load true 4 (.t 2)),
    (some 9, none, .callV (.t 7) [.t 8]),
    (some 10, none, .un .not (.t 9))])
  (.cond (.t 10)
    (.seq (.region [(some 4, none, .move (.c (.v (.bool false))))])
    (.ret))
    (.skip)))
  (.seq (.seq (.region [(some 11, none, .fieldAddr 3 (.t 2)),
    (some 12, none, .load false 1 (.t 11)),
    (some 13, none, .len .sl (.t 12)),
    (some 14, none, .move (.c (.v (.int .i64 0))))])
  (.block 0
    (.loop
      (.seq (.region [(some 15, none, .bin .lss .no (.t 14) (.t 13))])
      (.seq (.cond (.t 15)
        (.skip)
        (.exit 0))
      (.seq (.block 1
        (.seq (.region [(some 16, none, .indexAddr 4 (.t 12) (.t 14)),
          (some 17, none, .load true 4 (.t 16)),
          (some 6, none, .alloc 24 [.v (.int .i64 0), .v (.int .i64 0), .str [], .v (.slice none 0 0)]),
          (none, none, .store 4 (.t 6) (.t 17))])
        (.seq (.region [(some 18, none, .load true 4 (.t 6)),
          (some 19, none, .move (.t 1)),
          (some 20, none, .call 257 [.t 18, .t 19]),
          (some 21, none, .un .not (.t 20))])
        (.cond (.t 21)
          (.seq (.region [(some 4, none, .move (.c (.v (.bool false))))])
          (.ret))
          (.skip)))))
      (.region [(some 22, none, .bin .add .no (.t 14) (.c (.v (.int .i64 1)))),
        (some 14, none, .move (.t 22))])))))))
  (.seq (.region [(some 4, none, .move (.c (.v (.bool true))))])
  (.ret))))
def r257 : List ARet := [.tmp 4]

/-- strings.ContainsFunc -/
def c259 : ACode :=
  .seq (.region [(some 4, none, .move (.c (.v (.bool false))))])
  (.seq (.region [(some 5, none, .move (.t 0)),
    (some 6, none, .move (.t 1)),
    (some 7, none, .call 301 [.t 5, .t 6]),
    (some 8, none, .bin .geq .no (.t 7) (.c (.v (.int .i64 0)))),
    (some 4, none, .move (.t 8))])
  (.ret))
def r259 : List ARet := [.tmp 4]

/-- riparian/prog.isName$1 -/
def c260 : ACode :=
  .seq (.region [(some 2, none, .move (.c (.v (.bool false))))])
  (.seq (.region [(some 3, none, .move (.t 0)),
    (some 4, none, .bin .lss .no (.t 3) (.c (.v (.int .i32 32)))),
    (some 5, none, .move (.t 4)),
    (some 6, some (5, false), .move (.t 0)),
    (some 7, some (5, false), .bin .gtr .no (.t 6) (.c (.v (.int .i32 126)))),
    (some 8, none, .pick (.t 5) (.c (.v (.bool true))) (.t 7)),
    (some 2, none, .move (.t 8))])
  (.ret))
def r260 : List ARet := [.tmp 2]

/-- slices.IndexFunc[[]riparian/api.Symbol,riparian/api.Symbol] -/
def c291 : ACode :=
  .seq (.region [(some 4, none, .move (.c (.v (.int .i64 0))))])
  (.seq (.seq (.region [(some 6, none, .move (.t 0)),
    (some 7, none, .len .sl (.t 6)),
    (some 8, none, .move (.c (.v (.int .i64 0))))])
  (.block 0
    (.loop
      (.seq (.region [(some 9, none, .bin .lss .no (.t 8) (.t 7))])
      (.seq (.cond (.t 9)
        (.skip)
        (.exit 0))
      (.seq (.block 1
        (.seq (.region [(some 10, none, .move (.t 8)),
          (some 5, none, .move (.t 10))])
        (.seq (.region [(some 11, none, .move (.t 1)),
          (some 12, none, .move (.t 0)),
          (some 13, none, .move (.t 5)),
          (some 14, none, .indexAddr 2 (.t 12) (.t 13)),
          (some 15, none, .load true 2 (.t 14)),
          (some 16, none, .callV (.t 11) [.t 15])])
        (.cond (.t 16)
          (.seq (.region [(some 17, none, .move (.t 5)),
            (some 4, none, .move (.t 17))])
          (.ret))
          (.skip)))))
      (.region [(some 18, none, .bin .add .no (.t 8) (.c (.v (.int .i64 1)))),
        (some 8, none, .move (.t 18))])))))))
  (.seq (.region [(some 4, none, .move (.c (.v (.int .i64 (-1)))))])
  (.ret)))
def r291 : List ARet := [.tmp 4]


theorem kra249_0 : comp Tryz.prog (38, []) (rfAt Tryz.prog Tryz.f249 0).1 = some ra249_0 := by kernel_rfl
theorem krb249_0 : comp Tryz.prog (38, []) (rfAt Tryz.prog Tryz.f249 0).2 = some rb249_0 := by kernel_rfl
theorem k7 : Coded Tryz.prog 7 c7 r7 89 := ⟨Tryz.f7, Tryz.func7, by kernel_rfl, by kernel_rfl, by kernel_rfl⟩
theorem k27 : Coded Tryz.prog 27 c27 r27 69 := ⟨Tryz.f27, Tryz.func27, by kernel_rfl, by kernel_rfl, by kernel_rfl⟩
theorem k32 : Coded Tryz.prog 32 c32 r32 11 := ⟨Tryz.f32, Tryz.func32, by kernel_rfl, by kernel_rfl, by kernel_rfl⟩
theorem k43 : Coded Tryz.prog 43 c43 r43 9 := ⟨Tryz.f43, Tryz.func43, by kernel_rfl, by kernel_rfl, by kernel_rfl⟩
theorem k49 : Coded Tryz.prog 49 c49 r49 26 := ⟨Tryz.f49, Tryz.func49, by kernel_rfl, by kernel_rfl, by kernel_rfl⟩
theorem k50 : Coded Tryz.prog 50 c50 r50 14 := ⟨Tryz.f50, Tryz.func50, by kernel_rfl, by kernel_rfl, by kernel_rfl⟩
theorem k51 : Coded Tryz.prog 51 c51 r51 15 := ⟨Tryz.f51, Tryz.func51, by kernel_rfl, by kernel_rfl, by kernel_rfl⟩
theorem k52 : Coded Tryz.prog 52 c52 r52 17 := ⟨Tryz.f52, Tryz.func52, by kernel_rfl, by kernel_rfl, by kernel_rfl⟩
theorem k53 : Coded Tryz.prog 53 c53 r53 8 := ⟨Tryz.f53, Tryz.func53, by kernel_rfl, by kernel_rfl, by kernel_rfl⟩
theorem k54 : Coded Tryz.prog 54 c54 r54 14 := ⟨Tryz.f54, Tryz.func54, by kernel_rfl, by kernel_rfl, by kernel_rfl⟩
theorem k55 : Coded Tryz.prog 55 c55 r55 24 := ⟨Tryz.f55, Tryz.func55, by kernel_rfl, by kernel_rfl, by kernel_rfl⟩
theorem k59 : Coded Tryz.prog 59 c59 r59 18 := ⟨Tryz.f59, Tryz.func59, by kernel_rfl, by kernel_rfl, by kernel_rfl⟩
theorem k60 : Coded Tryz.prog 60 c60 r60 16 := ⟨Tryz.f60, Tryz.func60, by kernel_rfl, by kernel_rfl, by kernel_rfl⟩
theorem k61 : Coded Tryz.prog 61 c61 r61 9 := ⟨Tryz.f61, Tryz.func61, by kernel_rfl, by kernel_rfl, by kernel_rfl⟩
theorem k116 : Coded Tryz.prog 116 c116 r116 23 := ⟨Tryz.f116, Tryz.func116, by kernel_rfl, by kernel_rfl, by kernel_rfl⟩
theorem k117 : Coded Tryz.prog 117 c117 r117 5 := ⟨Tryz.f117, Tryz.func117, by kernel_rfl, by kernel_rfl, by kernel_rfl⟩
theorem k123 : Coded Tryz.prog 123 c123 r123 34 := ⟨Tryz.f123, Tryz.func123, by kernel_rfl, by kernel_rfl, by kernel_rfl⟩
theorem k125 : Coded Tryz.prog 125 c125 r125 37 := ⟨Tryz.f125, Tryz.func125, by kernel_rfl, by kernel_rfl, by kernel_rfl⟩
theorem k127 : Coded Tryz.prog 127 c127 r127 52 := ⟨Tryz.f127, Tryz.func127, by kernel_rfl, by kernel_rfl, by kernel_rfl⟩
theorem k134 : Coded Tryz.prog 134 c134 r134 19 := ⟨Tryz.f134, Tryz.func134, by kernel_rfl, by kernel_rfl, by kernel_rfl⟩
theorem k139 : Coded Tryz.prog 139 c139 r139 87 := ⟨Tryz.f139, Tryz.func139, by kernel_rfl, by kernel_rfl, by kernel_rfl⟩
theorem k140 : Coded Tryz.prog 140 c140 r140 11 := ⟨Tryz.f140, Tryz.func140, by kernel_rfl, by kernel_rfl, by kernel_rfl⟩
theorem k142 : Coded Tryz.prog 142 c142 r142 21 := ⟨Tryz.f142, Tryz.func142, by kernel_rfl, by kernel_rfl, by kernel_rfl⟩
theorem k143 : Coded Tryz.prog 143 c143 r143 15 := ⟨Tryz.f143, Tryz.func143, by kernel_rfl, by kernel_rfl, by kernel_rfl⟩
theorem k144 : Coded Tryz.prog 144 c144 r144 114 := ⟨Tryz.f144, Tryz.func144, by kernel_rfl, by kernel_rfl, by kernel_rfl⟩
theorem k145 : Coded Tryz.prog 145 c145 r145 30 := ⟨Tryz.f145, Tryz.func145, by kernel_rfl, by kernel_rfl, by kernel_rfl⟩
theorem k146 : Coded Tryz.prog 146 c146 r146 37 := ⟨Tryz.f146, Tryz.func146, by kernel_rfl, by kernel_rfl, by kernel_rfl⟩
theorem k149 : Coded Tryz.prog 149 c149 r149 36 := ⟨Tryz.f149, Tryz.func149, by kernel_rfl, by kernel_rfl, by kernel_rfl⟩
theorem k150 : Coded Tryz.prog 150 c150 r150 19 := ⟨Tryz.f150, Tryz.func150, by kernel_rfl, by kernel_rfl, by kernel_rfl⟩
theorem k170 : Coded Tryz.prog 170 c170 r170 34 := ⟨Tryz.f170, Tryz.func170, by kernel_rfl, by kernel_rfl, by kernel_rfl⟩
theorem k197 : Coded Tryz.prog 197 c197 r197 71 := ⟨Tryz.f197, Tryz.func197, by kernel_rfl, by kernel_rfl, by kernel_rfl⟩
theorem k198 : Coded Tryz.prog 198 c198 r198 37 := ⟨Tryz.f198, Tryz.func198, by kernel_rfl, by kernel_rfl, by kernel_rfl⟩
theorem k199 : Coded Tryz.prog 199 c199 r199 91 := ⟨Tryz.f199, Tryz.func199, by kernel_rfl, by kernel_rfl, by kernel_rfl⟩
theorem k203 : Coded Tryz.prog 203 c203 r203 24 := ⟨Tryz.f203, Tryz.func203, by kernel_rfl, by kernel_rfl, by kernel_rfl⟩
theorem k204 : Coded Tryz.prog 204 c204 r204 29 := ⟨Tryz.f204, Tryz.func204, by kernel_rfl, by kernel_rfl, by kernel_rfl⟩
theorem k205 : Coded Tryz.prog 205 c205 r205 14 := ⟨Tryz.f205, Tryz.func205, by kernel_rfl, by kernel_rfl, by kernel_rfl⟩
theorem k209 : Coded Tryz.prog 209 c209 r209 25 := ⟨Tryz.f209, Tryz.func209, by kernel_rfl, by kernel_rfl, by kernel_rfl⟩
theorem k210 : Coded Tryz.prog 210 c210 r210 29 := ⟨Tryz.f210, Tryz.func210, by kernel_rfl, by kernel_rfl, by kernel_rfl⟩
theorem k211 : Coded Tryz.prog 211 c211 r211 12 := ⟨Tryz.f211, Tryz.func211, by kernel_rfl, by kernel_rfl, by kernel_rfl⟩
theorem k215 : Coded Tryz.prog 215 c215 r215 8 := ⟨Tryz.f215, Tryz.func215, by kernel_rfl, by kernel_rfl, by kernel_rfl⟩
theorem k216 : Coded Tryz.prog 216 c216 r216 6 := ⟨Tryz.f216, Tryz.func216, by kernel_rfl, by kernel_rfl, by kernel_rfl⟩
theorem k217 : Coded Tryz.prog 217 c217 r217 14 := ⟨Tryz.f217, Tryz.func217, by kernel_rfl, by kernel_rfl, by kernel_rfl⟩
theorem k218 : Coded Tryz.prog 218 c218 r218 36 := ⟨Tryz.f218, Tryz.func218, by kernel_rfl, by kernel_rfl, by kernel_rfl⟩
theorem k219 : Coded Tryz.prog 219 c219 r219 18 := ⟨Tryz.f219, Tryz.func219, by kernel_rfl, by kernel_rfl, by kernel_rfl⟩
theorem k220 : Coded Tryz.prog 220 c220 r220 10 := ⟨Tryz.f220, Tryz.func220, by kernel_rfl, by kernel_rfl, by kernel_rfl⟩
theorem k221 : Coded Tryz.prog 221 c221 r221 20 := ⟨Tryz.f221, Tryz.func221, by kernel_rfl, by kernel_rfl, by kernel_rfl⟩
theorem k223 : Coded Tryz.prog 223 c223 r223 4 := ⟨Tryz.f223, Tryz.func223, by kernel_rfl, by kernel_rfl, by kernel_rfl⟩
theorem k226 : Coded Tryz.prog 226 c226 r226 36 := ⟨Tryz.f226, Tryz.func226, by kernel_rfl, by kernel_rfl, by kernel_rfl⟩
theorem k229 : Coded Tryz.prog 229 c229 r229 16 := ⟨Tryz.f229, Tryz.func229, by kernel_rfl, by kernel_rfl, by kernel_rfl⟩
theorem k248 : Coded Tryz.prog 248 c248 r248 32 := ⟨Tryz.f248, Tryz.func248, by kernel_rfl, by kernel_rfl, by kernel_rfl⟩
theorem k249 : Coded Tryz.prog 249 c249 r249 38 := ⟨Tryz.f249, Tryz.func249, by kernel_rfl, by kernel_rfl, by kernel_rfl⟩
theorem k253 : Coded Tryz.prog 253 c253 r253 27 := ⟨Tryz.f253, Tryz.func253, by kernel_rfl, by kernel_rfl, by kernel_rfl⟩
theorem k254 : Coded Tryz.prog 254 c254 r254 9 := ⟨Tryz.f254, Tryz.func254, by kernel_rfl, by kernel_rfl, by kernel_rfl⟩
theorem k255 : Coded Tryz.prog 255 c255 r255 14 := ⟨Tryz.f255, Tryz.func255, by kernel_rfl, by kernel_rfl, by kernel_rfl⟩
theorem k256 : Coded Tryz.prog 256 c256 r256 6 := ⟨Tryz.f256, Tryz.func256, by kernel_rfl, by kernel_rfl, by kernel_rfl⟩
theorem k257 : Coded Tryz.prog 257 c257 r257 23 := ⟨Tryz.f257, Tryz.func257, by kernel_rfl, by kernel_rfl, by kernel_rfl⟩
theorem k259 : Coded Tryz.prog 259 c259 r259 9 := ⟨Tryz.f259, Tryz.func259, by kernel_rfl, by kernel_rfl, by kernel_rfl⟩
theorem k260 : Coded Tryz.prog 260 c260 r260 9 := ⟨Tryz.f260, Tryz.func260, by kernel_rfl, by kernel_rfl, by kernel_rfl⟩
theorem k291 : Coded Tryz.prog 291 c291 r291 19 := ⟨Tryz.f291, Tryz.func291, by kernel_rfl, by kernel_rfl, by kernel_rfl⟩
end Go.Rip
