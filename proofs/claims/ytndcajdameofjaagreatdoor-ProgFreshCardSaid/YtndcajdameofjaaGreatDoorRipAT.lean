/- The codes of functions, as the machine reads them. -/
import Derived.Test.YtndcajdameofjaaGreatDoorProg
import Derived.KernelRfl
import Derived.Test.YtndcajdameofjaaGreatDoorRipAI

namespace Go.Rip
open Go Go.Proofs
set_option maxRecDepth 100000
/-- riparian/riparianlaw04.ProgFresh -/
def c8 : ACode :=
  .seq (.region [(some 3, none, .box 68 (.t 0)),
    (some 6, none, .move (.c (.v (.bool false))))])
  (.seq (.seq (.region [(some 17, none, .call 16 []),
    (some 18, none, .un .not (.t 17))])
  (.cond (.t 18)
    (.seq (.region [(some 6, none, .move (.c (.v (.bool false))))])
    (.ret))
    (.skip)))
  (.seq (.seq (.region [(some 19, none, .fieldAddr 2 (.t 3)),
    (some 20, none, .load false 1 (.t 19)),
    (some 21, none, .fieldAddr 3 (.t 3)),
    (some 22, none, .load false 1 (.t 21)),
    (some 23, none, .fieldAddr 4 (.t 3)),
    (some 24, none, .load false 1 (.t 23)),
    (some 25, none, .buildSlice 22 1 (.v (.slice none 0 0)) 3 [(0, .t 20), (1, .t 22), (2, .t 24)]),
    (some 26, none, .call 17 [.c (.v (.int .i64 2000)), .t 25]),
    (some 27, none, .un .not (.t 26)),
    (some 28, none, .move (.t 27)),
    (some 29, some (28, false), .load true 5 (.t 3)),
    (some 30, some (28, false), .fieldAddr 2 (.t 3)),
    (some 31, some (28, false), .load false 1 (.t 30)),
    (some 32, some (28, false), .len .sl (.t 31)),
    (some 33, some (28, false), .call 51 [.t 29, .t 32]),
    (some 34, some (28, false), .bin .neq .no (.t 33) (.c (.v (.int .i64 0)))),
    (some 35, none, .pick (.t 28) (.c (.v (.bool true))) (.t 34))])
  (.cond (.t 35)
    (.seq (.region [(some 6, none, .move (.c (.v (.bool true))))])
    (.ret))
    (.skip)))
  (.seq (.region [(some 37, none, .load true 5 (.t 3)),
    (some 38, none, .call 47 [.t 37]),
    (some 36, none, .move (.t 38)),
    (some 39, none, .extract (.t 36) 0),
    (some 40, none, .extract (.t 36) 1),
    (some 7, none, .alloc 68 [.v (.int .i64 0), .v (.int .i64 0), .v (.slice none 0 0), .v (.slice none 0 0), .v (.slice none 0 0)]),
    (none, none, .store 5 (.t 7) (.t 39)),
    (some 8, none, .move (.t 40))])
  (.seq (.seq (.region [(some 41, none, .move (.t 8)),
    (some 42, none, .bin .neq .no (.t 41) (.c (.v (.int .i64 0)))),
    (some 43, none, .move (.t 42)),
    (some 44, some (43, false), .load true 5 (.t 7)),
    (some 45, some (43, false), .load true 5 (.t 3)),
    (some 46, some (43, false), .call 56 [.t 44, .t 45]),
    (some 47, some (43, false), .un .not (.t 46)),
    (some 48, none, .pick (.t 43) (.c (.v (.bool true))) (.t 47))])
  (.cond (.t 48)
    (.seq (.region [(some 6, none, .move (.c (.v (.bool false))))])
    (.ret))
    (.skip)))
  (.seq (.seq (.region [(some 49, none, .move (.t 2)),
    (some 50, none, .bin .geq .no (.t 49) (.c (.v (.int .i64 0)))),
    (some 51, none, .move (.t 50)),
    (some 52, some (51, true), .move (.t 2)),
    (some 53, some (51, true), .bin .lss .no (.t 52) (.c (.v (.int .i64 90000)))),
    (some 54, none, .pick (.t 51) (.t 53) (.c (.v (.bool false))))])
  (.cond (.t 54)
    (.seq (.region [(some 55, none, .fieldAddr 0 (.t 3)),
      (some 56, none, .load false 1 (.t 55)),
      (some 57, none, .fieldAddr 2 (.t 3)),
      (some 58, none, .load false 1 (.t 57)),
      (some 59, none, .move (.t 2)),
      (some 61, none, .fieldAddr 3 (.t 3)),
      (some 62, none, .load false 1 (.t 61)),
      (some 63, none, .move (.t 2)),
      (some 65, none, .fieldAddr 4 (.t 3)),
      (some 66, none, .load false 1 (.t 65)),
      (some 67, none, .move (.t 2)),
      (some 60, none, .call 57 [.t 58, .t 59]),
      (none, none, .chk (some 66) (.load false 1 (.t 65))),
      (none, none, .chk (some 62) (.load false 1 (.t 61))),
      (none, none, .chk (some 56) (.load false 1 (.t 55))),
      (some 64, none, .call 57 [.t 62, .t 63]),
      (none, none, .chk (some 66) (.load false 1 (.t 65))),
      (none, none, .chk (some 56) (.load false 1 (.t 55))),
      (some 68, none, .call 57 [.t 66, .t 67]),
      (none, none, .chk (some 56) (.load false 1 (.t 55))),
      (some 69, none, .build [.v (.int .i64 0), .v (.int .i64 0), .v (.slice none 0 0), .v (.slice none 0 0), .v (.slice none 0 0)] [(0, 1, .t 56), (2, 1, .t 60), (3, 1, .t 64), (4, 1, .t 68)]),
      (some 9, none, .alloc 68 [.v (.int .i64 0), .v (.int .i64 0), .v (.slice none 0 0), .v (.slice none 0 0), .v (.slice none 0 0)]),
      (none, none, .chk (some 66) (.load false 1 (.t 65))),
      (none, none, .chk (some 62) (.load false 1 (.t 61))),
      (none, none, .chk (some 58) (.load false 1 (.t 57))),
      (none, none, .chk (some 56) (.load false 1 (.t 55))),
      (none, none, .store 5 (.t 9) (.t 69))])
    (.seq (.region [(some 71, none, .load true 5 (.t 9)),
      (some 72, none, .call 47 [.t 71]),
      (some 70, none, .move (.t 72)),
      (some 73, none, .extract (.t 70) 0),
      (some 74, none, .extract (.t 70) 1),
      (some 10, none, .alloc 68 [.v (.int .i64 0), .v (.int .i64 0), .v (.slice none 0 0), .v (.slice none 0 0), .v (.slice none 0 0)]),
      (none, none, .store 5 (.t 10) (.t 73)),
      (some 11, none, .move (.t 74))])
    (.seq (.region [(some 75, none, .move (.t 11)),
      (some 76, none, .bin .neq .no (.t 75) (.c (.v (.int .i64 0)))),
      (some 77, none, .move (.t 76)),
      (some 78, some (77, false), .load true 5 (.t 10)),
      (some 79, some (77, false), .load true 5 (.t 3)),
      (some 80, some (77, false), .call 56 [.t 78, .t 79]),
      (some 81, some (77, false), .un .not (.t 80)),
      (some 82, none, .pick (.t 77) (.c (.v (.bool true))) (.t 81))])
    (.cond (.t 82)
      (.seq (.region [(some 6, none, .move (.c (.v (.bool false))))])
      (.ret))
      (.skip)))))
    (.skip)))
  (.seq (.region [(some 84, none, .load true 5 (.t 3)),
    (some 85, none, .move (.t 1)),
    (some 86, none, .call 58 [.t 84, .t 85]),
    (some 83, none, .move (.t 86)),
    (some 87, none, .extract (.t 83) 0),
    (some 88, none, .extract (.t 83) 1),
    (some 12, none, .alloc 68 [.v (.int .i64 0), .v (.int .i64 0), .v (.slice none 0 0), .v (.slice none 0 0), .v (.slice none 0 0)]),
    (none, none, .store 5 (.t 12) (.t 87)),
    (some 8, none, .move (.t 88))])
  (.seq (.seq (.region [(some 89, none, .move (.t 8)),
    (some 90, none, .bin .neq .no (.t 89) (.c (.v (.int .i64 0))))])
  (.cond (.t 90)
    (.seq (.region [(some 91, none, .move (.t 8)),
      (some 92, none, .bin .eql .no (.t 91) (.c (.v (.int .i64 1)))),
      (some 6, none, .move (.t 92))])
    (.ret))
    (.skip)))
  (.seq (.region [(some 94, none, .load true 5 (.t 12)),
    (some 95, none, .call 47 [.t 94]),
    (some 93, none, .move (.t 95)),
    (some 96, none, .extract (.t 93) 0),
    (some 97, none, .extract (.t 93) 1),
    (some 13, none, .alloc 68 [.v (.int .i64 0), .v (.int .i64 0), .v (.slice none 0 0), .v (.slice none 0 0), .v (.slice none 0 0)]),
    (none, none, .store 5 (.t 13) (.t 96)),
    (some 8, none, .move (.t 97))])
  (.seq (.seq (.region [(some 98, none, .move (.t 8)),
    (some 99, none, .bin .neq .no (.t 98) (.c (.v (.int .i64 0)))),
    (some 100, none, .move (.t 99)),
    (some 101, some (100, false), .load true 5 (.t 13)),
    (some 102, some (100, false), .load true 5 (.t 3)),
    (some 103, some (100, false), .call 56 [.t 101, .t 102]),
    (some 104, some (100, false), .un .not (.t 103)),
    (some 105, none, .pick (.t 100) (.c (.v (.bool true))) (.t 104))])
  (.cond (.t 105)
    (.seq (.region [(some 6, none, .move (.c (.v (.bool false))))])
    (.ret))
    (.skip)))
  (.seq (.region [(some 107, none, .load true 5 (.t 3)),
    (some 108, none, .move (.t 1)),
    (some 109, none, .fieldAddr 1 (.t 3)),
    (some 110, none, .load false 1 (.t 109)),
    (some 111, none, .bin .add .no (.t 108) (.t 110)),
    (some 112, none, .call 58 [.t 107, .t 111]),
    (some 106, none, .move (.t 112)),
    (some 113, none, .extract (.t 106) 0),
    (some 114, none, .extract (.t 106) 1),
    (some 14, none, .alloc 68 [.v (.int .i64 0), .v (.int .i64 0), .v (.slice none 0 0), .v (.slice none 0 0), .v (.slice none 0 0)]),
    (none, none, .store 5 (.t 14) (.t 113)),
    (some 8, none, .move (.t 114))])
  (.seq (.seq (.region [(some 115, none, .move (.t 8)),
    (some 116, none, .bin .neq .no (.t 115) (.c (.v (.int .i64 0))))])
  (.cond (.t 116)
    (.seq (.region [(some 117, none, .move (.t 8)),
      (some 118, none, .bin .eql .no (.t 117) (.c (.v (.int .i64 1)))),
      (some 6, none, .move (.t 118))])
    (.ret))
    (.skip)))
  (.seq (.region [(some 119, none, .load true 5 (.t 12)),
    (some 122, none, .load true 5 (.t 14)),
    (some 120, none, .call 60 [.t 119]),
    (none, none, .chk (some 122) (.load true 5 (.t 14))),
    (some 121, none, .call 59 [.t 120]),
    (none, none, .chk (some 122) (.load true 5 (.t 14))),
    (some 123, none, .call 60 [.t 122]),
    (some 124, none, .call 59 [.t 123]),
    (some 16, none, .alloc 61 [.v (.slice none 0 0)]),
    (none, none, .chk (some 122) (.load true 5 (.t 14))),
    (none, none, .chk (some 119) (.load true 5 (.t 12))),
    (some 15, none, .move (.t 121)),
    (none, none, .store 1 (.t 16) (.t 124))])
  (.seq (.region [(some 125, none, .move (.t 15)),
    (some 126, none, .mkFunc 62 [] [.t 16]),
    (some 127, none, .call 61 [.t 125, .t 126]),
    (some 128, none, .un .not (.t 127)),
    (some 6, none, .move (.t 128))])
  (.ret))))))))))))))
def r8 : List ARet := [.tmp 6]

/-- riparian/riparianref01.SameAll -/
def c35 : ACode :=
  .seq (.region [(some 4, none, .move (.c (.v (.bool false))))])
  (.seq (.seq (.region [(some 7, none, .move (.t 0)),
    (some 8, none, .len .sl (.t 7)),
    (some 9, none, .move (.t 1)),
    (some 10, none, .len .sl (.t 9)),
    (some 11, none, .bin .neq .no (.t 8) (.t 10))])
  (.cond (.t 11)
    (.seq (.region [(some 4, none, .move (.c (.v (.bool false))))])
    (.ret))
    (.skip)))
  (.seq (.seq (.region [(some 5, none, .move (.c (.v (.int .i64 0))))])
  (.block 0
    (.loop
      (.seq (.seq (.region [(some 12, none, .move (.t 5)),
        (some 13, none, .move (.t 0)),
        (some 14, none, .len .sl (.t 13)),
        (some 15, none, .bin .lss .no (.t 12) (.t 14))])
      (.cond (.t 15)
        (.skip)
        (.exit 0)))
      (.seq (.block 1
        (.seq (.region [(some 18, none, .move (.t 0)),
          (some 19, none, .move (.t 5)),
          (some 20, none, .indexAddr 4 (.t 18) (.t 19)),
          (some 21, none, .load true 4 (.t 20)),
          (some 22, none, .move (.t 1)),
          (some 23, none, .move (.t 5)),
          (some 24, none, .indexAddr 4 (.t 22) (.t 23)),
          (some 25, none, .load true 4 (.t 24)),
          (some 26, none, .call 24 [.t 21, .t 25]),
          (some 6, none, .move (.t 26))])
        (.seq (.region [(some 27, none, .move (.t 6)),
          (some 28, none, .un .not (.t 27))])
        (.cond (.t 28)
          (.seq (.region [(some 4, none, .move (.c (.v (.bool false))))])
          (.ret))
          (.skip)))))
      (.region [(some 16, none, .move (.t 5)),
        (some 17, none, .bin .add .no (.t 16) (.c (.v (.int .i64 1)))),
        (some 5, none, .move (.t 17))]))))))
  (.seq (.region [(some 4, none, .move (.c (.v (.bool true))))])
  (.ret))))
def r35 : List ARet := [.tmp 4]

/-- riparian/prog.Normal -/
def c47 : ACode :=
  .seq (.region [(some 1, none, .box 68 (.t 0)),
    (some 2, none, .alloc 68 [.v (.int .i64 0), .v (.int .i64 0), .v (.slice none 0 0), .v (.slice none 0 0), .v (.slice none 0 0)]),
    (some 3, none, .move (.c (.v (.int .i64 0))))])
  (.seq (.seq (.region [(some 7, none, .fieldAddr 2 (.t 1)),
    (some 8, none, .load false 1 (.t 7)),
    (some 9, none, .len .sl (.t 8)),
    (some 10, none, .bin .gtr .no (.t 9) (.c (.v (.int .i64 16)))),
    (some 11, none, .move (.t 10)),
    (some 12, some (11, false), .load true 5 (.t 1)),
    (some 13, some (11, false), .fieldAddr 2 (.t 1)),
    (some 14, some (11, false), .load false 1 (.t 13)),
    (some 15, some (11, false), .len .sl (.t 14)),
    (some 16, some (11, false), .call 139 [.t 12, .t 15]),
    (some 17, some (11, false), .un .not (.t 16)),
    (some 18, none, .pick (.t 11) (.c (.v (.bool true))) (.t 17))])
  (.cond (.t 18)
    (.seq (.region [(some 19, none, .build [.v (.int .i64 0), .v (.int .i64 0), .v (.slice none 0 0), .v (.slice none 0 0), .v (.slice none 0 0)] []),
      (none, none, .store 5 (.t 2) (.t 19)),
      (some 3, none, .move (.c (.v (.int .i64 40))))])
    (.ret))
    (.skip)))
  (.seq (.region [(some 21, none, .load true 5 (.t 1)),
    (some 22, none, .call 140 [.t 21]),
    (some 23, none, .call 128 [.t 22]),
    (some 20, none, .move (.t 23)),
    (some 24, none, .extract (.t 20) 0),
    (some 25, none, .extract (.t 20) 1),
    (some 26, none, .extract (.t 20) 2),
    (some 4, none, .move (.t 24)),
    (some 5, none, .move (.t 25)),
    (some 6, none, .move (.t 26))])
  (.seq (.seq (.region [(some 27, none, .move (.t 6)),
    (some 28, none, .bin .neq .no (.t 27) (.c (.v (.int .i64 0))))])
  (.cond (.t 28)
    (.seq (.region [(some 29, none, .build [.v (.int .i64 0), .v (.int .i64 0), .v (.slice none 0 0), .v (.slice none 0 0), .v (.slice none 0 0)] []),
      (none, none, .store 5 (.t 2) (.t 29)),
      (some 3, none, .move (.c (.v (.int .i64 40))))])
    (.ret))
    (.skip)))
  (.seq (.region [(some 30, none, .load true 5 (.t 1)),
    (some 31, none, .move (.t 4)),
    (some 32, none, .move (.t 5)),
    (some 33, none, .len .sl (.t 32)),
    (some 34, none, .call 141 [.t 30, .t 31, .t 33]),
    (none, none, .store 5 (.t 2) (.t 34)),
    (some 3, none, .move (.c (.v (.int .i64 0))))])
  (.ret)))))
def r47 : List ARet := [.cell 2 true 5, .tmp 3]

/-- riparian/riparianref04.SameClause -/
def c56 : ACode :=
  .seq (.region [(some 2, none, .box 68 (.t 0)),
    (some 3, none, .box 68 (.t 1)),
    (some 4, none, .move (.c (.v (.bool false))))])
  (.seq (.region [(some 5, none, .fieldAddr 0 (.t 2)),
    (some 6, none, .load false 1 (.t 5)),
    (some 7, none, .fieldAddr 0 (.t 3)),
    (some 8, none, .load false 1 (.t 7)),
    (some 9, none, .bin .eql .no (.t 6) (.t 8)),
    (some 10, none, .move (.t 9)),
    (some 11, some (10, true), .fieldAddr 1 (.t 2)),
    (some 12, some (10, true), .load false 1 (.t 11)),
    (some 13, some (10, true), .fieldAddr 1 (.t 3)),
    (some 14, some (10, true), .load false 1 (.t 13)),
    (some 15, some (10, true), .bin .eql .no (.t 12) (.t 14)),
    (some 16, none, .pick (.t 10) (.t 15) (.c (.v (.bool false)))),
    (some 17, none, .move (.t 16)),
    (some 18, some (17, true), .fieldAddr 2 (.t 2)),
    (some 19, some (17, true), .load false 1 (.t 18)),
    (some 20, some (17, true), .fieldAddr 2 (.t 3)),
    (some 21, some (17, true), .load false 1 (.t 20)),
    (some 22, some (17, true), .call 35 [.t 19, .t 21]),
    (some 23, none, .pick (.t 17) (.t 22) (.c (.v (.bool false)))),
    (some 24, none, .move (.t 23)),
    (some 25, some (24, true), .fieldAddr 3 (.t 2)),
    (some 26, some (24, true), .load false 1 (.t 25)),
    (some 27, some (24, true), .fieldAddr 3 (.t 3)),
    (some 28, some (24, true), .load false 1 (.t 27)),
    (some 29, some (24, true), .call 35 [.t 26, .t 28]),
    (some 30, none, .pick (.t 24) (.t 29) (.c (.v (.bool false)))),
    (some 31, none, .move (.t 30)),
    (some 32, some (31, true), .fieldAddr 4 (.t 2)),
    (some 33, some (31, true), .load false 1 (.t 32)),
    (some 34, some (31, true), .fieldAddr 4 (.t 3)),
    (some 35, some (31, true), .load false 1 (.t 34)),
    (some 36, some (31, true), .call 35 [.t 33, .t 35]),
    (some 37, none, .pick (.t 31) (.t 36) (.c (.v (.bool false)))),
    (some 4, none, .move (.t 37))])
  (.ret))
def r56 : List ARet := [.tmp 4]

/-- riparian/riparianlaw04.moved -/
def c57 : ACode :=
  .seq (.region [(some 4, none, .move (.c (.v (.slice none 0 0))))])
  (.seq (.region [(some 5, none, .move (.c (.v (.slice none 0 0))))])
  (.seq (.seq (.region [(some 10, none, .move (.t 0)),
    (some 11, none, .len .sl (.t 10)),
    (some 12, none, .move (.c (.v (.int .i64 0))))])
  (.block 0
    (.loop
      (.seq (.region [(some 13, none, .bin .lss .no (.t 12) (.t 11))])
      (.seq (.cond (.t 13)
        (.skip)
        (.exit 0))
      (.seq (.block 1
        (.seq (.region [(some 14, none, .indexAddr 4 (.t 10) (.t 12)),
          (some 15, none, .load true 4 (.t 14)),
          (some 7, none, .alloc 24 [.v (.int .i64 0), .v (.int .i64 0), .str [], .v (.slice none 0 0)]),
          (none, none, .store 4 (.t 7) (.t 15))])
        (.seq (.region [(some 17, none, .load true 4 (.t 7)),
          (some 18, none, .move (.t 1)),
          (some 19, none, .call 147 [.t 17, .t 18]),
          (some 16, none, .move (.t 19)),
          (some 20, none, .extract (.t 16) 0),
          (some 21, none, .extract (.t 16) 1),
          (some 8, none, .alloc 24 [.v (.int .i64 0), .v (.int .i64 0), .str [], .v (.slice none 0 0)]),
          (none, none, .store 4 (.t 8) (.t 20)),
          (some 9, none, .move (.t 21))])
        (.seq (.seq (.region [(some 22, none, .move (.t 9)),
          (some 23, none, .bin .neq .no (.t 22) (.c (.v (.int .i64 0))))])
        (.cond (.t 23)
          (.seq (.region [(some 4, none, .move (.c (.v (.slice none 0 0))))])
          (.ret))
          (.skip)))
        (.region [(some 24, none, .move (.t 5)),
          (some 25, none, .load true 4 (.t 8)),
          (some 26, none, .buildSlice 24 4 (.agg [.v (.int .i64 0), .v (.int .i64 0), .str [], .v (.slice none 0 0)]) 1 [(0, .t 25)]),
          (some 27, none, .append 24 4 56 (.t 24) (.t 26)),
          (some 5, none, .move (.t 27))])))))
      (.region [(some 28, none, .bin .add .no (.t 12) (.c (.v (.int .i64 1)))),
        (some 12, none, .move (.t 28))])))))))
  (.seq (.region [(some 29, none, .move (.t 5)),
    (some 4, none, .move (.t 29))])
  (.ret))))
def r57 : List ARet := [.tmp 4]

/-- riparian/prog.Fresh -/
def c58 : ACode :=
  .seq (.region [(some 2, none, .box 68 (.t 0)),
    (some 4, none, .alloc 68 [.v (.int .i64 0), .v (.int .i64 0), .v (.slice none 0 0), .v (.slice none 0 0), .v (.slice none 0 0)]),
    (some 5, none, .move (.c (.v (.int .i64 0))))])
  (.seq (.seq (.region [(some 11, none, .fieldAddr 2 (.t 2)),
    (some 12, none, .load false 1 (.t 11)),
    (some 13, none, .len .sl (.t 12)),
    (some 14, none, .bin .gtr .no (.t 13) (.c (.v (.int .i64 16)))),
    (some 15, none, .move (.t 14)),
    (some 16, some (15, false), .load true 5 (.t 2)),
    (some 17, some (15, false), .fieldAddr 2 (.t 2)),
    (some 18, some (15, false), .load false 1 (.t 17)),
    (some 19, some (15, false), .len .sl (.t 18)),
    (some 20, some (15, false), .call 143 [.t 16, .t 19]),
    (some 21, some (15, false), .un .not (.t 20)),
    (some 22, none, .pick (.t 15) (.c (.v (.bool true))) (.t 21))])
  (.cond (.t 22)
    (.seq (.region [(some 23, none, .build [.v (.int .i64 0), .v (.int .i64 0), .v (.slice none 0 0), .v (.slice none 0 0), .v (.slice none 0 0)] []),
      (none, none, .store 5 (.t 4) (.t 23)),
      (some 5, none, .move (.c (.v (.int .i64 40))))])
    (.ret))
    (.skip)))
  (.seq (.seq (.region [(some 24, none, .move (.t 1)),
    (some 25, none, .bin .lss .no (.t 24) (.c (.v (.int .i64 0)))),
    (some 26, none, .move (.t 25)),
    (some 27, some (26, false), .move (.t 1)),
    (some 28, some (26, false), .bin .geq .no (.t 27) (.c (.v (.int .i64 100000)))),
    (some 29, none, .pick (.t 26) (.c (.v (.bool true))) (.t 28)),
    (some 30, none, .move (.t 29)),
    (some 31, some (30, false), .move (.t 1)),
    (some 32, some (30, false), .fieldAddr 1 (.t 2)),
    (some 33, some (30, false), .load false 1 (.t 32)),
    (some 34, some (30, false), .bin .sub .no (.c (.v (.int .i64 100000))) (.t 33)),
    (some 35, some (30, false), .bin .gtr .no (.t 31) (.t 34)),
    (some 36, none, .pick (.t 30) (.c (.v (.bool true))) (.t 35))])
  (.cond (.t 36)
    (.seq (.region [(some 37, none, .build [.v (.int .i64 0), .v (.int .i64 0), .v (.slice none 0 0), .v (.slice none 0 0), .v (.slice none 0 0)] []),
      (none, none, .store 5 (.t 4) (.t 37)),
      (some 5, none, .move (.c (.v (.int .i64 1))))])
    (.ret))
    (.skip)))
  (.seq (.region [(some 6, none, .move (.c (.v (.slice none 0 0))))])
  (.seq (.seq (.region [(some 38, none, .load true 5 (.t 2)),
    (some 39, none, .call 140 [.t 38]),
    (some 40, none, .len .sl (.t 39)),
    (some 41, none, .move (.c (.v (.int .i64 0))))])
  (.block 0
    (.loop
      (.seq (.region [(some 42, none, .bin .lss .no (.t 41) (.t 40))])
      (.seq (.cond (.t 42)
        (.skip)
        (.exit 0))
      (.seq (.block 1
        (.seq (.region [(some 43, none, .indexAddr 4 (.t 39) (.t 41)),
          (some 44, none, .load true 4 (.t 43)),
          (some 8, none, .alloc 24 [.v (.int .i64 0), .v (.int .i64 0), .str [], .v (.slice none 0 0)]),
          (none, none, .store 4 (.t 8) (.t 44))])
        (.seq (.region [(some 46, none, .load true 4 (.t 8)),
          (some 47, none, .move (.t 1)),
          (some 48, none, .call 148 [.t 46, .t 47]),
          (some 45, none, .move (.t 48)),
          (some 49, none, .extract (.t 45) 0),
          (some 50, none, .extract (.t 45) 1),
          (some 9, none, .alloc 24 [.v (.int .i64 0), .v (.int .i64 0), .str [], .v (.slice none 0 0)]),
          (none, none, .store 4 (.t 9) (.t 49)),
          (some 10, none, .move (.t 50))])
        (.seq (.seq (.region [(some 51, none, .move (.t 10)),
          (some 52, none, .bin .neq .no (.t 51) (.c (.v (.int .i64 0))))])
        (.cond (.t 52)
          (.seq (.region [(some 53, none, .build [.v (.int .i64 0), .v (.int .i64 0), .v (.slice none 0 0), .v (.slice none 0 0), .v (.slice none 0 0)] []),
            (none, none, .store 5 (.t 4) (.t 53)),
            (some 5, none, .move (.c (.v (.int .i64 1))))])
          (.ret))
          (.skip)))
        (.region [(some 54, none, .move (.t 6)),
          (some 55, none, .load true 4 (.t 9)),
          (some 56, none, .buildSlice 24 4 (.agg [.v (.int .i64 0), .v (.int .i64 0), .str [], .v (.slice none 0 0)]) 1 [(0, .t 55)]),
          (some 57, none, .append 24 4 56 (.t 54) (.t 56)),
          (some 6, none, .move (.t 57))])))))
      (.region [(some 58, none, .bin .add .no (.t 41) (.c (.v (.int .i64 1)))),
        (some 41, none, .move (.t 58))])))))))
  (.seq (.region [(some 59, none, .load true 5 (.t 2)),
    (some 60, none, .move (.t 6)),
    (some 61, none, .fieldAddr 1 (.t 2)),
    (some 62, none, .load false 1 (.t 61)),
    (some 63, none, .call 141 [.t 59, .t 60, .t 62]),
    (none, none, .store 5 (.t 4) (.t 63)),
    (some 5, none, .move (.c (.v (.int .i64 0))))])
  (.ret))))))
def r58 : List ARet := [.cell 4 true 5, .tmp 5]

/-- riparian/riparianlaw04.ProgFresh$1 -/
def c62 : ACode :=
  .seq (.region [(some 3, none, .move (.c (.v (.bool false))))])
  (.seq (.region [(some 4, none, .load false 1 (.t 1)),
    (some 5, none, .move (.t 0)),
    (some 6, none, .call 43 [.t 4, .t 5]),
    (some 3, none, .move (.t 6))])
  (.ret))
def r62 : List ARet := [.tmp 3]

/-- riparian/term.Normal -/
def c128 : ACode :=
  .seq (.region [(some 2, none, .move (.c (.v (.slice none 0 0)))),
    (some 3, none, .move (.c (.v (.slice none 0 0)))),
    (some 4, none, .move (.c (.v (.int .i64 0))))])
  (.seq (.region [(some 16, none, .move (.t 0)),
    (some 17, none, .call 211 [.t 16]),
    (some 15, none, .move (.t 17)),
    (some 18, none, .extract (.t 15) 0),
    (some 19, none, .extract (.t 15) 1),
    (some 5, none, .move (.t 18)),
    (some 6, none, .move (.t 19))])
  (.seq (.seq (.region [(some 20, none, .move (.t 6)),
    (some 21, none, .bin .neq .no (.t 20) (.c (.v (.int .i64 0))))])
  (.cond (.t 21)
    (.seq (.region [(some 22, none, .move (.t 6)),
      (some 2, none, .move (.c (.v (.slice none 0 0)))),
      (some 3, none, .move (.c (.v (.slice none 0 0)))),
      (some 4, none, .move (.t 22))])
    (.ret))
    (.skip)))
  (.seq (.region [(some 23, none, .mkMap),
    (some 7, none, .alloc 230 [.v (.map none)]),
    (none, none, .store 1 (.t 7) (.t 23))])
  (.seq (.seq (.region [(some 24, none, .move (.t 5)),
    (some 25, none, .len .sl (.t 24)),
    (some 26, none, .move (.c (.v (.int .i64 0))))])
  (.block 0
    (.loop
      (.seq (.region [(some 27, none, .bin .lss .no (.t 26) (.t 25))])
      (.seq (.cond (.t 27)
        (.skip)
        (.exit 0))
      (.seq (.block 1
        (.seq (.region [(some 28, none, .move (.t 26)),
          (some 29, none, .indexAddr 1 (.t 24) (.t 26)),
          (some 30, none, .load false 1 (.t 29)),
          (some 8, none, .move (.t 28)),
          (some 9, none, .move (.t 30))])
        (.region [(some 31, none, .load false 1 (.t 7)),
          (some 32, none, .move (.t 9)),
          (some 33, none, .move (.t 8)),
          (none, none, .mapUpdate (.one (.int .i64)) (.t 31) (.t 32) (.t 33))])))
      (.region [(some 34, none, .bin .add .no (.t 26) (.c (.v (.int .i64 1)))),
        (some 26, none, .move (.t 34))])))))))
  (.seq (.region [(some 10, none, .move (.c (.v (.slice none 0 0))))])
  (.seq (.seq (.region [(some 35, none, .move (.t 0)),
    (some 36, none, .len .sl (.t 35)),
    (some 37, none, .move (.c (.v (.int .i64 0))))])
  (.block 2
    (.loop
      (.seq (.region [(some 38, none, .bin .lss .no (.t 37) (.t 36))])
      (.seq (.cond (.t 38)
        (.skip)
        (.exit 2))
      (.seq (.block 3
        (.seq (.region [(some 39, none, .indexAddr 4 (.t 35) (.t 37)),
          (some 40, none, .load true 4 (.t 39)),
          (some 12, none, .alloc 24 [.v (.int .i64 0), .v (.int .i64 0), .str [], .v (.slice none 0 0)]),
          (none, none, .store 4 (.t 12) (.t 40))])
        (.seq (.region [(some 42, none, .load true 4 (.t 12)),
          (some 43, none, .mkFunc 213 [] [.t 7]),
          (some 44, none, .call 212 [.t 42, .t 43]),
          (some 41, none, .move (.t 44)),
          (some 45, none, .extract (.t 41) 0),
          (some 46, none, .extract (.t 41) 1),
          (some 13, none, .alloc 24 [.v (.int .i64 0), .v (.int .i64 0), .str [], .v (.slice none 0 0)]),
          (none, none, .store 4 (.t 13) (.t 45)),
          (some 14, none, .move (.t 46))])
        (.region [(some 47, none, .move (.t 10)),
          (some 48, none, .load true 4 (.t 13)),
          (some 49, none, .buildSlice 24 4 (.agg [.v (.int .i64 0), .v (.int .i64 0), .str [], .v (.slice none 0 0)]) 1 [(0, .t 48)]),
          (some 50, none, .append 24 4 56 (.t 47) (.t 49)),
          (some 10, none, .move (.t 50))]))))
      (.region [(some 51, none, .bin .add .no (.t 37) (.c (.v (.int .i64 1)))),
        (some 37, none, .move (.t 51))])))))))
  (.seq (.region [(some 52, none, .move (.t 10)),
    (some 53, none, .move (.t 5)),
    (some 2, none, .move (.t 52)),
    (some 3, none, .move (.t 53)),
    (some 4, none, .move (.c (.v (.int .i64 0))))])
  (.ret))))))))
def r128 : List ARet := [.tmp 2, .tmp 3, .tmp 4]

/-- riparian/riparianref01.Check -/
def c130 : ACode :=
  .seq (.region [(some 1, none, .box 24 (.t 0)),
    (some 2, none, .move (.c (.v (.int .i64 0))))])
  (.seq (.region [(some 4, none, .load true 4 (.t 1)),
    (some 5, none, .call 97 [.t 4]),
    (some 3, none, .move (.t 5))])
  (.seq (.seq (.region [(some 6, none, .move (.t 3)),
    (some 7, none, .un .not (.t 6))])
  (.cond (.t 7)
    (.seq (.region [(some 2, none, .move (.c (.v (.int .i64 3))))])
    (.ret))
    (.skip)))
  (.seq (.region [(some 2, none, .move (.c (.v (.int .i64 0))))])
  (.ret))))
def r130 : List ARet := [.tmp 2]

/-- riparian/prog.cut -/
def c141 : ACode :=
  .seq (.region [(some 3, none, .box 68 (.t 0)),
    (some 6, none, .alloc 68 [.v (.int .i64 0), .v (.int .i64 0), .v (.slice none 0 0), .v (.slice none 0 0), .v (.slice none 0 0)])])
  (.seq (.region [(some 9, none, .fieldAddr 2 (.t 3)),
    (some 10, none, .load false 1 (.t 9)),
    (some 11, none, .len .sl (.t 10)),
    (some 12, none, .fieldAddr 3 (.t 3)),
    (some 13, none, .load false 1 (.t 12)),
    (some 14, none, .len .sl (.t 13)),
    (some 7, none, .move (.t 11)),
    (some 8, none, .move (.t 14))])
  (.seq (.region [(some 15, none, .fieldAddr 0 (.t 3)),
    (some 16, none, .load false 1 (.t 15)),
    (some 17, none, .move (.t 2)),
    (some 18, none, .move (.t 1)),
    (some 19, none, .move (.t 7)),
    (some 20, none, .sliceQ 4 (.t 18) none (some (.t 19)) none),
    (some 22, none, .move (.t 1)),
    (some 23, none, .move (.t 7)),
    (some 24, none, .move (.t 7)),
    (some 25, none, .move (.t 8)),
    (some 26, none, .bin .add .no (.t 24) (.t 25)),
    (some 27, none, .sliceQ 4 (.t 22) (some (.t 23)) (some (.t 26)) none),
    (some 29, none, .move (.t 1)),
    (some 30, none, .move (.t 7)),
    (some 31, none, .move (.t 8)),
    (some 32, none, .bin .add .no (.t 30) (.t 31)),
    (some 33, none, .sliceQ 4 (.t 29) (some (.t 32)) none none),
    (some 21, none, .call 207 [.t 20]),
    (none, none, .chk (some 16) (.load false 1 (.t 15))),
    (some 28, none, .call 207 [.t 27]),
    (none, none, .chk (some 16) (.load false 1 (.t 15))),
    (some 34, none, .call 207 [.t 33]),
    (none, none, .chk (some 16) (.load false 1 (.t 15))),
    (some 35, none, .build [.v (.int .i64 0), .v (.int .i64 0), .v (.slice none 0 0), .v (.slice none 0 0), .v (.slice none 0 0)] [(0, 1, .t 16), (1, 1, .t 17), (2, 1, .t 21), (3, 1, .t 28), (4, 1, .t 34)]),
    (none, none, .store 5 (.t 6) (.t 35))])
  (.ret)))
def r141 : List ARet := [.cell 6 true 5]

/-- riparian/riparianref01.Shift -/
def c147 : ACode :=
  .seq (.region [(some 2, none, .box 24 (.t 0)),
    (some 4, none, .alloc 24 [.v (.int .i64 0), .v (.int .i64 0), .str [], .v (.slice none 0 0)]),
    (some 5, none, .move (.c (.v (.int .i64 0))))])
  (.seq (.seq (.region [(some 8, none, .load true 4 (.t 2)),
    (some 9, none, .call 130 [.t 8]),
    (some 10, none, .bin .neq .no (.t 9) (.c (.v (.int .i64 0))))])
  (.cond (.t 10)
    (.seq (.region [(some 11, none, .build [.v (.int .i64 0), .v (.int .i64 0), .str [], .v (.slice none 0 0)] []),
      (none, none, .store 4 (.t 4) (.t 11)),
      (some 5, none, .move (.c (.v (.int .i64 3))))])
    (.ret))
    (.skip)))
  (.seq (.region [(some 13, none, .load true 4 (.t 2)),
    (some 14, none, .move (.t 1)),
    (some 15, none, .call 222 [.t 13, .t 14]),
    (some 12, none, .move (.t 15)),
    (some 16, none, .extract (.t 12) 0),
    (some 17, none, .extract (.t 12) 1),
    (some 6, none, .alloc 24 [.v (.int .i64 0), .v (.int .i64 0), .str [], .v (.slice none 0 0)]),
    (none, none, .store 4 (.t 6) (.t 16)),
    (some 7, none, .move (.t 17))])
  (.seq (.seq (.region [(some 18, none, .move (.t 7)),
    (some 19, none, .un .not (.t 18))])
  (.cond (.t 19)
    (.seq (.region [(some 20, none, .build [.v (.int .i64 0), .v (.int .i64 0), .str [], .v (.slice none 0 0)] []),
      (none, none, .store 4 (.t 4) (.t 20)),
      (some 5, none, .move (.c (.v (.int .i64 1))))])
    (.ret))
    (.skip)))
  (.seq (.region [(some 21, none, .load true 4 (.t 6)),
    (none, none, .store 4 (.t 4) (.t 21)),
    (some 5, none, .move (.c (.v (.int .i64 0))))])
  (.ret)))))
def r147 : List ARet := [.cell 4 true 4, .tmp 5]

/-- riparian/term.Shift: range 0 -/
def ra148_0 : ACode :=
  .region [(some 7, none, .alloc 24 [.v (.int .i64 0), .v (.int .i64 0), .str [], .v (.slice none 0 0)]),
    (none, none, .store 4 (.t 7) (.t 16))]
def rb148_0 : ACode :=
  .block 1
    (.seq (.region [(some 17, none, .fieldAddr 0 (.t 7)),
      (some 18, none, .load false 1 (.t 17)),
      (some 19, none, .bin .eql .no (.t 18) (.c (.v (.int .i64 1)))),
      (some 20, none, .move (.t 19)),
      (some 21, some (20, true), .load false 1 (.t 3)),
      (some 22, some (20, true), .fieldAddr 1 (.t 7)),
      (some 23, some (20, true), .load false 1 (.t 22)),
      (some 24, some (20, true), .un .neg (.t 23)),
      (some 25, some (20, true), .bin .lss .no (.t 21) (.t 24)),
      (some 26, some (20, true), .move (.t 25)),
      (some 27, some (26, false), .load false 1 (.t 3)),
      (some 28, some (26, false), .fieldAddr 1 (.t 7)),
      (some 29, some (26, false), .load false 1 (.t 28)),
      (some 30, some (26, false), .bin .sub .no (.c (.v (.int .i64 100000))) (.t 29)),
      (some 31, some (26, false), .bin .geq .no (.t 27) (.t 30)),
      (some 32, some (20, true), .pick (.t 26) (.c (.v (.bool true))) (.t 31)),
      (some 33, none, .pick (.t 20) (.t 32) (.c (.v (.bool false))))])
    (.cond (.t 33)
      (.seq (.region [(some 34, none, .build [.v (.int .i64 0), .v (.int .i64 0), .str [], .v (.slice none 0 0)] []),
        (none, none, .store 4 (.t 4) (.t 34)),
        (none, none, .store 1 (.t 5) (.c (.v (.int .i64 1))))])
      (.ret))
      (.skip)))
-- RF 148 0 40

/-- riparian/term.Shift -/
noncomputable def c148 : ACode :=
  .seq (.region [(some 2, none, .box 24 (.t 0)),
    (some 3, none, .box 3 (.t 1)),
    (some 4, none, .alloc 24 [.v (.int .i64 0), .v (.int .i64 0), .str [], .v (.slice none 0 0)]),
    (some 5, none, .alloc 39 [.v (.int .i64 0)])])
  (.seq (.seq (.region [(some 8, none, .load true 4 (.t 2)),
    (some 9, none, .call 95 [.t 8]),
    (some 6, none, .move (.t 9))])
  (.seq (.region [(some 10, none, .move (.t 6)),
    (some 11, none, .bin .neq .no (.t 10) (.c (.v (.int .i64 0))))])
  (.cond (.t 11)
    (.seq (.region [(some 12, none, .build [.v (.int .i64 0), .v (.int .i64 0), .str [], .v (.slice none 0 0)] []),
      (some 13, none, .move (.t 6)),
      (none, none, .store 4 (.t 4) (.t 12)),
      (none, none, .store 1 (.t 5) (.t 13))])
    (.ret))
    (.skip))))
  (.seq (.seq (.region [(some 14, none, .load true 4 (.t 2)),
    (some 15, none, .call 223 [.t 14])])
  (.block 0
    (.rangeFunc 40 (.t 15) [16] (rfAt Tryz.prog Tryz.f148 0).1 (rfAt Tryz.prog Tryz.f148 0).2)))
  (.seq (.region [(some 35, none, .load true 4 (.t 2)),
    (some 36, none, .mkFunc 224 [] [.t 3]),
    (some 37, none, .call 212 [.t 35, .t 36]),
    (some 38, none, .extract (.t 37) 0),
    (some 39, none, .extract (.t 37) 1),
    (none, none, .store 4 (.t 4) (.t 38)),
    (none, none, .store 1 (.t 5) (.t 39))])
  (.ret))))
def r148 : List ARet := [.cell 4 true 4, .cell 5 false 1]

/-- riparian/prog.shared -/
def c207 : ACode :=
  .seq (.region [(some 2, none, .move (.c (.v (.slice none 0 0))))])
  (.seq (.region [(some 3, none, .move (.c (.v (.slice none 0 0))))])
  (.seq (.seq (.region [(some 6, none, .move (.t 0)),
    (some 7, none, .len .sl (.t 6)),
    (some 8, none, .move (.c (.v (.int .i64 0))))])
  (.block 0
    (.loop
      (.seq (.region [(some 9, none, .bin .lss .no (.t 8) (.t 7))])
      (.seq (.cond (.t 9)
        (.skip)
        (.exit 0))
      (.seq (.block 1
        (.seq (.region [(some 10, none, .indexAddr 4 (.t 6) (.t 8)),
          (some 11, none, .load true 4 (.t 10)),
          (some 5, none, .alloc 24 [.v (.int .i64 0), .v (.int .i64 0), .str [], .v (.slice none 0 0)]),
          (none, none, .store 4 (.t 5) (.t 11))])
        (.seq (.region [(some 12, none, .fieldAddr 3 (.t 5)),
          (some 13, none, .load false 1 (.t 12)),
          (some 14, none, .call 207 [.t 13]),
          (some 15, none, .fieldAddr 3 (.t 5)),
          (none, none, .store 1 (.t 15) (.t 14))])
        (.region [(some 16, none, .move (.t 3)),
          (some 17, none, .load true 4 (.t 5)),
          (some 18, none, .buildSlice 24 4 (.agg [.v (.int .i64 0), .v (.int .i64 0), .str [], .v (.slice none 0 0)]) 1 [(0, .t 17)]),
          (some 19, none, .append 24 4 56 (.t 16) (.t 18)),
          (some 3, none, .move (.t 19))]))))
      (.region [(some 20, none, .bin .add .no (.t 8) (.c (.v (.int .i64 1)))),
        (some 8, none, .move (.t 20))])))))))
  (.seq (.region [(some 21, none, .move (.t 3)),
    (some 2, none, .move (.t 21))])
  (.ret))))
def r207 : List ARet := [.tmp 2]

/-- riparian/term.replaced -/
def c212 : ACode :=
  .seq (.region [(some 2, none, .box 24 (.t 0)),
    (some 4, none, .alloc 24 [.v (.int .i64 0), .v (.int .i64 0), .str [], .v (.slice none 0 0)]),
    (some 5, none, .move (.c (.v (.int .i64 0))))])
  (.seq (.region [(some 8, none, .build [.v (.int .i64 0)] [(0, 1, .c (.v (.int .i64 4000)))]),
    (some 9, none, .box 262 (.t 8)),
    (some 6, none, .move (.t 9))])
  (.seq (.region [(some 10, none, .move (.t 6)),
    (some 11, none, .load true 4 (.t 2)),
    (some 12, none, .move (.t 1)),
    (some 13, none, .call 250 [.t 10, .t 11, .t 12]),
    (some 7, none, .alloc 24 [.v (.int .i64 0), .v (.int .i64 0), .str [], .v (.slice none 0 0)]),
    (none, none, .store 4 (.t 7) (.t 13))])
  (.seq (.seq (.region [(some 14, none, .move (.t 6)),
    (some 15, none, .nilCheck (.t 14)),
    (some 16, none, .fieldAddr 0 (.t 15)),
    (some 17, none, .load false 1 (.t 16)),
    (some 18, none, .bin .lss .no (.t 17) (.c (.v (.int .i64 0))))])
  (.cond (.t 18)
    (.seq (.region [(some 19, none, .build [.v (.int .i64 0), .v (.int .i64 0), .str [], .v (.slice none 0 0)] []),
      (none, none, .store 4 (.t 4) (.t 19)),
      (some 5, none, .move (.c (.v (.int .i64 2))))])
    (.ret))
    (.skip)))
  (.seq (.region [(some 20, none, .load true 4 (.t 7)),
    (some 21, none, .call 251 [.t 20]),
    (some 22, none, .extract (.t 21) 0),
    (some 23, none, .extract (.t 21) 1),
    (none, none, .store 4 (.t 4) (.t 22)),
    (some 5, none, .move (.t 23))])
  (.ret)))))
def r212 : List ARet := [.cell 4 true 4, .tmp 5]

/-- riparian/term.Normal$1 -/
def c213 : ACode :=
  .seq (.region [(some 3, none, .alloc 24 [.v (.int .i64 0), .v (.int .i64 0), .str [], .v (.slice none 0 0)]),
    (some 4, none, .move (.c (.v (.bool false))))])
  (.seq (.region [(some 5, none, .load false 1 (.t 1)),
    (some 6, none, .move (.t 0)),
    (some 7, none, .lookup (.one (.int .i64)) (.v (.int .i64 0)) (.t 5) (.t 6) false),
    (some 8, none, .build [.v (.int .i64 0), .v (.int .i64 0), .str [], .v (.slice none 0 0)] [(0, 1, .c (.v (.int .i64 1))), (1, 1, .t 7)]),
    (none, none, .store 4 (.t 3) (.t 8)),
    (some 4, none, .move (.c (.v (.bool true))))])
  (.ret))
def r213 : List ARet := [.cell 3 true 4, .tmp 4]

/-- riparian/riparianref01.shifted -/
def c222 : ACode :=
  .seq (.region [(some 2, none, .box 24 (.t 0)),
    (some 4, none, .alloc 24 [.v (.int .i64 0), .v (.int .i64 0), .str [], .v (.slice none 0 0)]),
    (some 5, none, .move (.c (.v (.bool false))))])
  (.seq (.region [(some 10, none, .load true 4 (.t 2)),
    (some 6, none, .alloc 24 [.v (.int .i64 0), .v (.int .i64 0), .str [], .v (.slice none 0 0)]),
    (none, none, .store 4 (.t 6) (.t 10))])
  (.seq (.region [(some 11, none, .fieldAddr 3 (.t 6)),
    (none, none, .store 1 (.t 11) (.c (.v (.slice none 0 0))))])
  (.seq (.seq (.region [(some 12, none, .fieldAddr 0 (.t 2)),
    (some 13, none, .load false 1 (.t 12)),
    (some 14, none, .bin .eql .no (.t 13) (.c (.v (.int .i64 1))))])
  (.cond (.t 14)
    (.seq (.seq (.region [(some 15, none, .move (.t 1)),
      (some 16, none, .bin .gtr .no (.t 15) (.c (.v (.int .i64 100000)))),
      (some 17, none, .move (.t 16)),
      (some 18, some (17, false), .move (.t 1)),
      (some 19, some (17, false), .bin .lss .no (.t 18) (.c (.v (.int .i64 (-100000))))),
      (some 20, none, .pick (.t 17) (.c (.v (.bool true))) (.t 19)),
      (some 21, none, .move (.t 20)),
      (some 22, some (21, false), .fieldAddr 1 (.t 2)),
      (some 23, some (21, false), .load false 1 (.t 22)),
      (some 24, some (21, false), .move (.t 1)),
      (some 25, some (21, false), .bin .add .no (.t 23) (.t 24)),
      (some 26, some (21, false), .bin .lss .no (.t 25) (.c (.v (.int .i64 0)))),
      (some 27, none, .pick (.t 21) (.c (.v (.bool true))) (.t 26)),
      (some 28, none, .move (.t 27)),
      (some 29, some (28, false), .fieldAddr 1 (.t 2)),
      (some 30, some (28, false), .load false 1 (.t 29)),
      (some 31, some (28, false), .move (.t 1)),
      (some 32, some (28, false), .bin .add .no (.t 30) (.t 31)),
      (some 33, some (28, false), .bin .geq .no (.t 32) (.c (.v (.int .i64 100000)))),
      (some 34, none, .pick (.t 28) (.c (.v (.bool true))) (.t 33))])
    (.cond (.t 34)
      (.seq (.region [(some 35, none, .load true 4 (.t 2)),
        (none, none, .store 4 (.t 4) (.t 35)),
        (some 5, none, .move (.c (.v (.bool false))))])
      (.ret))
      (.skip)))
    (.region [(some 36, none, .fieldAddr 1 (.t 2)),
      (some 37, none, .load false 1 (.t 36)),
      (some 38, none, .move (.t 1)),
      (some 39, none, .bin .add .no (.t 37) (.t 38)),
      (some 40, none, .fieldAddr 1 (.t 6)),
      (none, none, .store 1 (.t 40) (.t 39))]))
    (.skip)))
  (.seq (.seq (.region [(some 7, none, .move (.c (.v (.int .i64 0))))])
  (.block 0
    (.loop
      (.seq (.seq (.region [(some 41, none, .move (.t 7)),
        (some 42, none, .fieldAddr 3 (.t 2)),
        (some 43, none, .load false 1 (.t 42)),
        (some 44, none, .len .sl (.t 43)),
        (some 45, none, .bin .lss .no (.t 41) (.t 44))])
      (.cond (.t 45)
        (.skip)
        (.exit 0)))
      (.seq (.block 1
        (.seq (.region [(some 49, none, .fieldAddr 3 (.t 2)),
          (some 50, none, .load false 1 (.t 49)),
          (some 51, none, .move (.t 7)),
          (some 52, none, .indexAddr 4 (.t 50) (.t 51)),
          (some 53, none, .load true 4 (.t 52)),
          (some 54, none, .move (.t 1)),
          (some 55, none, .call 222 [.t 53, .t 54]),
          (some 48, none, .move (.t 55)),
          (some 56, none, .extract (.t 48) 0),
          (some 57, none, .extract (.t 48) 1),
          (some 8, none, .alloc 24 [.v (.int .i64 0), .v (.int .i64 0), .str [], .v (.slice none 0 0)]),
          (none, none, .store 4 (.t 8) (.t 56)),
          (some 9, none, .move (.t 57))])
        (.seq (.seq (.region [(some 58, none, .move (.t 9)),
          (some 59, none, .un .not (.t 58))])
        (.cond (.t 59)
          (.seq (.region [(some 60, none, .load true 4 (.t 2)),
            (none, none, .store 4 (.t 4) (.t 60)),
            (some 5, none, .move (.c (.v (.bool false))))])
          (.ret))
          (.skip)))
        (.region [(some 61, none, .fieldAddr 3 (.t 6)),
          (some 62, none, .load false 1 (.t 61)),
          (some 63, none, .load true 4 (.t 8)),
          (some 64, none, .buildSlice 24 4 (.agg [.v (.int .i64 0), .v (.int .i64 0), .str [], .v (.slice none 0 0)]) 1 [(0, .t 63)]),
          (some 65, none, .append 24 4 56 (.t 62) (.t 64)),
          (some 66, none, .fieldAddr 3 (.t 6)),
          (none, none, .store 1 (.t 66) (.t 65))]))))
      (.region [(some 46, none, .move (.t 7)),
        (some 47, none, .bin .add .no (.t 46) (.c (.v (.int .i64 1)))),
        (some 7, none, .move (.t 47))]))))))
  (.seq (.region [(some 67, none, .load true 4 (.t 6)),
    (none, none, .store 4 (.t 4) (.t 67)),
    (some 5, none, .move (.c (.v (.bool true))))])
  (.ret))))))
def r222 : List ARet := [.cell 4 true 4, .tmp 5]

/-- riparian/term.Shift$1 -/
def c224 : ACode :=
  .seq (.region [(some 3, none, .alloc 24 [.v (.int .i64 0), .v (.int .i64 0), .str [], .v (.slice none 0 0)]),
    (some 4, none, .move (.c (.v (.bool false))))])
  (.seq (.region [(some 5, none, .move (.t 0)),
    (some 6, none, .load false 1 (.t 1)),
    (some 7, none, .bin .add .no (.t 5) (.t 6)),
    (some 8, none, .build [.v (.int .i64 0), .v (.int .i64 0), .str [], .v (.slice none 0 0)] [(0, 1, .c (.v (.int .i64 1))), (1, 1, .t 7)]),
    (none, none, .store 4 (.t 3) (.t 8)),
    (some 4, none, .move (.c (.v (.bool true))))])
  (.ret))
def r224 : List ARet := [.cell 3 true 4, .tmp 4]

/-- (*riparian/term.budget).replace -/
def c250 : ACode :=
  .seq (.region [(some 4, none, .box 24 (.t 1)),
    (some 6, none, .alloc 24 [.v (.int .i64 0), .v (.int .i64 0), .str [], .v (.slice none 0 0)])])
  (.seq (.seq (.region [(some 14, none, .fieldAddr 0 (.t 4)),
    (some 15, none, .load false 1 (.t 14)),
    (some 16, none, .bin .eql .no (.t 15) (.c (.v (.int .i64 1))))])
  (.cond (.t 16)
    (.seq (.region [(some 18, none, .move (.t 2)),
      (some 19, none, .fieldAddr 1 (.t 4)),
      (some 20, none, .load false 1 (.t 19)),
      (some 21, none, .callV (.t 18) [.t 20]),
      (some 17, none, .move (.t 21)),
      (some 22, none, .extract (.t 17) 0),
      (some 23, none, .extract (.t 17) 1),
      (some 7, none, .alloc 24 [.v (.int .i64 0), .v (.int .i64 0), .str [], .v (.slice none 0 0)]),
      (none, none, .store 4 (.t 7) (.t 22)),
      (some 8, none, .move (.t 23))])
    (.seq (.region [(some 24, none, .move (.t 8))])
    (.cond (.t 24)
      (.seq (.region [(some 26, none, .load true 4 (.t 7)),
        (some 27, none, .call 248 [.t 26]),
        (some 25, none, .move (.t 27)),
        (some 28, none, .extract (.t 25) 0),
        (some 29, none, .extract (.t 25) 1),
        (some 9, none, .move (.t 28)),
        (some 10, none, .move (.t 29))])
      (.seq (.region [(some 30, none, .move (.t 0)),
        (some 31, none, .nilCheck (.t 30)),
        (some 32, none, .fieldAddr 0 (.t 31)),
        (some 33, none, .load false 1 (.t 32)),
        (some 34, none, .move (.t 9)),
        (some 35, none, .bin .sub .no (.t 33) (.t 34)),
        (some 36, none, .nilCheck (.t 30)),
        (some 37, none, .fieldAddr 0 (.t 36)),
        (none, none, .store 1 (.t 37) (.t 35))])
      (.seq (.region [(some 38, none, .load true 4 (.t 7)),
        (none, none, .store 4 (.t 6) (.t 38))])
      (.ret))))
      (.skip))))
    (.skip)))
  (.seq (.region [(some 39, none, .move (.t 0)),
    (some 40, none, .nilCheck (.t 39)),
    (some 41, none, .fieldAddr 0 (.t 40)),
    (some 42, none, .load false 1 (.t 41)),
    (some 43, none, .bin .sub .no (.t 42) (.c (.v (.int .i64 1)))),
    (some 44, none, .nilCheck (.t 39)),
    (some 45, none, .fieldAddr 0 (.t 44)),
    (none, none, .store 1 (.t 45) (.t 43))])
  (.seq (.region [(some 11, none, .move (.c (.v (.slice none 0 0))))])
  (.seq (.seq (.region [(some 46, none, .fieldAddr 3 (.t 4)),
    (some 47, none, .load false 1 (.t 46)),
    (some 48, none, .len .sl (.t 47)),
    (some 49, none, .move (.c (.v (.int .i64 0))))])
  (.block 0
    (.loop
      (.seq (.region [(some 50, none, .bin .lss .no (.t 49) (.t 48))])
      (.seq (.cond (.t 50)
        (.skip)
        (.exit 0))
      (.seq (.block 1
        (.seq (.region [(some 51, none, .indexAddr 4 (.t 47) (.t 49)),
          (some 52, none, .load true 4 (.t 51)),
          (some 13, none, .alloc 24 [.v (.int .i64 0), .v (.int .i64 0), .str [], .v (.slice none 0 0)]),
          (none, none, .store 4 (.t 13) (.t 52))])
        (.seq (.seq (.region [(some 53, none, .move (.t 0)),
          (some 54, none, .nilCheck (.t 53)),
          (some 55, none, .fieldAddr 0 (.t 54)),
          (some 56, none, .load false 1 (.t 55)),
          (some 57, none, .bin .lss .no (.t 56) (.c (.v (.int .i64 0))))])
        (.cond (.t 57)
          (.exit 0)
          (.skip)))
        (.region [(some 58, none, .move (.t 11)),
          (some 59, none, .move (.t 0)),
          (some 60, none, .load true 4 (.t 13)),
          (some 61, none, .move (.t 2)),
          (some 62, none, .call 250 [.t 59, .t 60, .t 61]),
          (some 63, none, .buildSlice 24 4 (.agg [.v (.int .i64 0), .v (.int .i64 0), .str [], .v (.slice none 0 0)]) 1 [(0, .t 62)]),
          (some 64, none, .append 24 4 56 (.t 58) (.t 63)),
          (some 11, none, .move (.t 64))]))))
      (.region [(some 65, none, .bin .add .no (.t 49) (.c (.v (.int .i64 1)))),
        (some 49, none, .move (.t 65))])))))))
  (.seq (.region [(some 66, none, .move (.t 11)),
    (some 67, none, .fieldAddr 3 (.t 4)),
    (none, none, .store 1 (.t 67) (.t 66))])
  (.seq (.region [(some 68, none, .load true 4 (.t 4)),
    (none, none, .store 4 (.t 6) (.t 68))])
  (.ret)))))))
def r250 : List ARet := [.cell 6 true 4]

/-- riparian/term.limited -/
def c251 : ACode :=
  .seq (.region [(some 1, none, .box 24 (.t 0)),
    (some 2, none, .alloc 24 [.v (.int .i64 0), .v (.int .i64 0), .str [], .v (.slice none 0 0)]),
    (some 3, none, .move (.c (.v (.int .i64 0))))])
  (.seq (.seq (.region [(some 4, none, .load true 4 (.t 1)),
    (some 5, none, .call 95 [.t 4]),
    (some 6, none, .bin .neq .no (.t 5) (.c (.v (.int .i64 0))))])
  (.cond (.t 6)
    (.seq (.region [(some 7, none, .build [.v (.int .i64 0), .v (.int .i64 0), .str [], .v (.slice none 0 0)] []),
      (none, none, .store 4 (.t 2) (.t 7)),
      (some 3, none, .move (.c (.v (.int .i64 2))))])
    (.ret))
    (.skip)))
  (.seq (.region [(some 8, none, .load true 4 (.t 1)),
    (some 9, none, .call 290 [.t 8]),
    (none, none, .store 4 (.t 2) (.t 9)),
    (some 3, none, .move (.c (.v (.int .i64 0))))])
  (.ret)))
def r251 : List ARet := [.cell 2 true 4, .tmp 3]

/-- riparian/term.copied -/
def c290 : ACode :=
  .seq (.region [(some 1, none, .box 24 (.t 0)),
    (some 2, none, .alloc 24 [.v (.int .i64 0), .v (.int .i64 0), .str [], .v (.slice none 0 0)])])
  (.seq (.region [(some 3, none, .move (.c (.v (.slice none 0 0))))])
  (.seq (.seq (.region [(some 6, none, .fieldAddr 3 (.t 1)),
    (some 7, none, .load false 1 (.t 6)),
    (some 8, none, .len .sl (.t 7)),
    (some 9, none, .move (.c (.v (.int .i64 0))))])
  (.block 0
    (.loop
      (.seq (.region [(some 10, none, .bin .lss .no (.t 9) (.t 8))])
      (.seq (.cond (.t 10)
        (.skip)
        (.exit 0))
      (.seq (.block 1
        (.seq (.region [(some 11, none, .indexAddr 4 (.t 7) (.t 9)),
          (some 12, none, .load true 4 (.t 11)),
          (some 5, none, .alloc 24 [.v (.int .i64 0), .v (.int .i64 0), .str [], .v (.slice none 0 0)]),
          (none, none, .store 4 (.t 5) (.t 12))])
        (.region [(some 13, none, .move (.t 3)),
          (some 14, none, .load true 4 (.t 5)),
          (some 15, none, .call 290 [.t 14]),
          (some 16, none, .buildSlice 24 4 (.agg [.v (.int .i64 0), .v (.int .i64 0), .str [], .v (.slice none 0 0)]) 1 [(0, .t 15)]),
          (some 17, none, .append 24 4 56 (.t 13) (.t 16)),
          (some 3, none, .move (.t 17))])))
      (.region [(some 18, none, .bin .add .no (.t 9) (.c (.v (.int .i64 1)))),
        (some 9, none, .move (.t 18))])))))))
  (.seq (.region [(some 19, none, .move (.t 3)),
    (some 20, none, .fieldAddr 3 (.t 1)),
    (none, none, .store 1 (.t 20) (.t 19))])
  (.seq (.region [(some 21, none, .load true 4 (.t 1)),
    (none, none, .store 4 (.t 2) (.t 21))])
  (.ret)))))
def r290 : List ARet := [.cell 2 true 4]


theorem kra148_0 : comp Tryz.prog (40, []) (rfAt Tryz.prog Tryz.f148 0).1 = some ra148_0 := by kernel_rfl
theorem krb148_0 : comp Tryz.prog (40, []) (rfAt Tryz.prog Tryz.f148 0).2 = some rb148_0 := by kernel_rfl
theorem k8 : Coded Tryz.prog 8 c8 r8 129 := ⟨Tryz.f8, Tryz.func8, by kernel_rfl, by kernel_rfl, by kernel_rfl⟩
theorem k35 : Coded Tryz.prog 35 c35 r35 29 := ⟨Tryz.f35, Tryz.func35, by kernel_rfl, by kernel_rfl, by kernel_rfl⟩
theorem k47 : Coded Tryz.prog 47 c47 r47 35 := ⟨Tryz.f47, Tryz.func47, by kernel_rfl, by kernel_rfl, by kernel_rfl⟩
theorem k56 : Coded Tryz.prog 56 c56 r56 38 := ⟨Tryz.f56, Tryz.func56, by kernel_rfl, by kernel_rfl, by kernel_rfl⟩
theorem k57 : Coded Tryz.prog 57 c57 r57 30 := ⟨Tryz.f57, Tryz.func57, by kernel_rfl, by kernel_rfl, by kernel_rfl⟩
theorem k58 : Coded Tryz.prog 58 c58 r58 64 := ⟨Tryz.f58, Tryz.func58, by kernel_rfl, by kernel_rfl, by kernel_rfl⟩
theorem k62 : Coded Tryz.prog 62 c62 r62 7 := ⟨Tryz.f62, Tryz.func62, by kernel_rfl, by kernel_rfl, by kernel_rfl⟩
theorem k128 : Coded Tryz.prog 128 c128 r128 54 := ⟨Tryz.f128, Tryz.func128, by kernel_rfl, by kernel_rfl, by kernel_rfl⟩
theorem k130 : Coded Tryz.prog 130 c130 r130 8 := ⟨Tryz.f130, Tryz.func130, by kernel_rfl, by kernel_rfl, by kernel_rfl⟩
theorem k141 : Coded Tryz.prog 141 c141 r141 36 := ⟨Tryz.f141, Tryz.func141, by kernel_rfl, by kernel_rfl, by kernel_rfl⟩
theorem k147 : Coded Tryz.prog 147 c147 r147 22 := ⟨Tryz.f147, Tryz.func147, by kernel_rfl, by kernel_rfl, by kernel_rfl⟩
theorem k148 : Coded Tryz.prog 148 c148 r148 40 := ⟨Tryz.f148, Tryz.func148, by kernel_rfl, by kernel_rfl, by kernel_rfl⟩
theorem k207 : Coded Tryz.prog 207 c207 r207 22 := ⟨Tryz.f207, Tryz.func207, by kernel_rfl, by kernel_rfl, by kernel_rfl⟩
theorem k212 : Coded Tryz.prog 212 c212 r212 24 := ⟨Tryz.f212, Tryz.func212, by kernel_rfl, by kernel_rfl, by kernel_rfl⟩
theorem k213 : Coded Tryz.prog 213 c213 r213 9 := ⟨Tryz.f213, Tryz.func213, by kernel_rfl, by kernel_rfl, by kernel_rfl⟩
theorem k222 : Coded Tryz.prog 222 c222 r222 68 := ⟨Tryz.f222, Tryz.func222, by kernel_rfl, by kernel_rfl, by kernel_rfl⟩
theorem k224 : Coded Tryz.prog 224 c224 r224 9 := ⟨Tryz.f224, Tryz.func224, by kernel_rfl, by kernel_rfl, by kernel_rfl⟩
theorem k250 : Coded Tryz.prog 250 c250 r250 69 := ⟨Tryz.f250, Tryz.func250, by kernel_rfl, by kernel_rfl, by kernel_rfl⟩
theorem k251 : Coded Tryz.prog 251 c251 r251 10 := ⟨Tryz.f251, Tryz.func251, by kernel_rfl, by kernel_rfl, by kernel_rfl⟩
theorem k290 : Coded Tryz.prog 290 c290 r290 22 := ⟨Tryz.f290, Tryz.func290, by kernel_rfl, by kernel_rfl, by kernel_rfl⟩
end Go.Rip
