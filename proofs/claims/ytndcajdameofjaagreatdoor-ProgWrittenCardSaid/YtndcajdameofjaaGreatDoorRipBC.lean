/- Calls of closed values, reckoned. -/
import Derived.Test.YtndcajdameofjaaGreatDoorRipAL
namespace Go.Rip
open Go Go.Proofs
set_option maxRecDepth 100000
def sx0 : AV := .v (.slice none 0 0)
def sx2 : AV := .agg [.i 1, .i 0, .str [], sx0]
def sx7 : AV := .sl 4 [sx2]
def sx4 : AV := .agg [.i 5, .i 0, .str [62], .sl 4 [sx2, .agg [.i 2, .i 0, .str [], sx0]]]
def sx5 : AV := .agg [.i 5, .i 0, .str [113], sx7]
def sx12 : AV := .agg [.i 0, .i 1, sx7, .sl 4 [sx4], .sl 4 [sx5]]
def sx17 : AV := .agg [.i 1, .i 1, sx7, sx0, sx0]
def sx18 : AV := .agg [.i 0, .i 1, sx7, sx0, sx0]
def sx1 : AV := .agg [.sl 3 [.agg [.str [112], .i 1, .sl 5 [sx12, sx17]], .agg [.str [113], .i 1, .sl 5 [sx18]]]]
def sx11 : AV := .agg [.i 5, .i 0, .str [112], sx7]
def sx3 : AV := .agg [.i 5, .i 0, .str [58, 45], .sl 4 [sx11, .agg [.i 5, .i 0, .str [124], .sl 4 [sx4, sx5]]]]
def sx9 : AV := .agg [.i 3, .i 0, .str [111, 116, 104, 101, 114, 119, 105, 115, 101], sx0]
def sx15 : AV := .sl 4 [.agg [.i 1, .i 7, .str [], sx0]]
def sx6 : AV := .sl 4 [sx3, sx9, sx11, .agg [.i 5, .i 0, .str [113], sx15]]
def sx8 : AV := .agg [.i 2, .i 1, .str [], sx0]
def sx10 : AV := .agg [.i 3, .i 0, .str [112], sx0]
def sx13 : AV := .sl 4 [.agg [.i 1, .i 1, .str [], sx0], sx8]
def sx14 : AV := .sl 4 [sx2, sx4, sx5]
def sx16 : AV := .agg [.i 3, .i 0, .str [113], sx0]
theorem mo0 : MemoOk Tryz.prog GLs [] := MemoOk.nil
def mk1 : List AV := [.agg [.i 5, .i 0, .str [60], .sl 4 [sx2, .agg [.i 5, .i 0, .str [43], sx13]]]]
def mv1 : AV := .v (.bool true)
theorem mp1 : Pure (PC GLs) 22 mk1 mv1 := bR bQ mo0 (n := 3000) (by kernel_rfl) (by kernel_rfl)
def ml1 : Memo := (22, mk1, mv1) :: []
theorem mo1 : MemoOk Tryz.prog GLs ml1 := mo0.cons mp1
def mk2 : List AV := [.agg [.i 0, .i 2, sx7, .sl 4 [.agg [.i 5, .i 0, .str [62], sx13]], sx0], .i 1]
def mv2 : AV := .v (.bool false)
theorem mp2 : Pure (PC GLs) 139 mk2 mv2 := bR bQ mo1 (n := 3000) (by kernel_rfl) (by kernel_rfl)
def ml2 : Memo := (139, mk2, mv2) :: ml1
theorem mo2 : MemoOk Tryz.prog GLs ml2 := mo1.cons mp2
def mk3 : List AV := [.sl 4 [sx3]]
def mv3 : AV := .i 0
theorem mp3 : Pure (PC GLs) 181 mk3 mv3 := bR bQ mo2 (n := 3000) (by kernel_rfl) (by kernel_rfl)
def ml3 : Memo := (181, mk3, mv3) :: ml2
theorem mo3 : MemoOk Tryz.prog GLs ml3 := mo2.cons mp3
def mk4 : List AV := [sx6, .fn (.func 111) [] []]
def mv4 : AV := .i (-1)
theorem mp4 : Pure (PC GLs) 110 mk4 mv4 := bR bQ mo3 (n := 3000) (by kernel_rfl) (by kernel_rfl)
def ml4 : Memo := (110, mk4, mv4) :: ml3
theorem mo4 : MemoOk Tryz.prog GLs ml4 := mo3.cons mp4
def mk5 : List AV := [sx14]
def mv5 : AV := .tup [.sl 1 [.i 0], .i 0]
theorem mp5 : Pure (PC GLs) 211 mk5 mv5 := bR bQ mo4 (n := 3000) (by kernel_rfl) (by kernel_rfl)
def ml5 : Memo := (211, mk5, mv5) :: ml4
theorem mo5 : MemoOk Tryz.prog GLs ml5 := mo4.cons mp5
def mk6 : List AV := [.agg [.i 0, .i 0, sx7, .sl 4 [sx4], .sl 4 [sx5]], .i 1]
def mv6 : AV := .v (.bool true)
theorem mp6 : Pure (PC GLs) 139 mk6 mv6 := bR bQ mo5 (n := 3000) (by kernel_rfl) (by kernel_rfl)
def ml6 : Memo := (139, mk6, mv6) :: ml5
theorem mo6 : MemoOk Tryz.prog GLs ml6 := mo5.cons mp6
def mk7 : List AV := [sx14]
def mv7 : AV := .tup [sx14, .sl 1 [.i 0], .i 0]
theorem mp7 : Pure (PC GLs) 128 mk7 mv7 := bR bQ mo6 (n := 3000) (by kernel_rfl) (by kernel_rfl)
def ml7 : Memo := (128, mk7, mv7) :: ml6
theorem mo7 : MemoOk Tryz.prog GLs ml7 := mo6.cons mp7
def mk8 : List AV := [.agg [.i 1, .i 0, sx7, sx0, sx0], .i 1]
def mv8 : AV := .v (.bool true)
theorem mp8 : Pure (PC GLs) 139 mk8 mv8 := bR bQ mo7 (n := 3000) (by kernel_rfl) (by kernel_rfl)
def ml8 : Memo := (139, mk8, mv8) :: ml7
theorem mo8 : MemoOk Tryz.prog GLs ml8 := mo7.cons mp8
def mk9 : List AV := [.agg [.i 0, .i 0, sx15, sx0, sx0], .i 1]
def mv9 : AV := .v (.bool true)
theorem mp9 : Pure (PC GLs) 139 mk9 mv9 := bR bQ mo8 (n := 3000) (by kernel_rfl) (by kernel_rfl)
def ml9 : Memo := (139, mk9, mv9) :: ml8
theorem mo9 : MemoOk Tryz.prog GLs ml9 := mo8.cons mp9
def mk10 : List AV := [sx12, .i 1]
def mv10 : AV := .v (.bool true)
theorem mp10 : Pure (PC GLs) 139 mk10 mv10 := bR bQ mo9 (n := 3000) (by kernel_rfl) (by kernel_rfl)
def ml10 : Memo := (139, mk10, mv10) :: ml9
theorem mo10 : MemoOk Tryz.prog GLs ml10 := mo9.cons mp10
def mk11 : List AV := [sx17, .i 1]
def mv11 : AV := .v (.bool true)
theorem mp11 : Pure (PC GLs) 139 mk11 mv11 := bR bQ mo10 (n := 3000) (by kernel_rfl) (by kernel_rfl)
def ml11 : Memo := (139, mk11, mv11) :: ml10
theorem mo11 : MemoOk Tryz.prog GLs ml11 := mo10.cons mp11
def mk12 : List AV := [sx18, .i 1]
def mv12 : AV := .v (.bool true)
theorem mp12 : Pure (PC GLs) 139 mk12 mv12 := bR bQ mo11 (n := 3000) (by kernel_rfl) (by kernel_rfl)
def ml12 : Memo := (139, mk12, mv12) :: ml11
theorem mo12 : MemoOk Tryz.prog GLs ml12 := mo11.cons mp12
def mk13 : List AV := [sx6]
def mv13 : AV := .tup [sx1, .i 0, .i 0]
theorem mp13 : Pure (PC GLs) 29 mk13 mv13 := bR bQ mo12 (n := 3000) (by kernel_rfl) (by kernel_rfl)
def ml13 : Memo := (29, mk13, mv13) :: ml12
theorem mo13 : MemoOk Tryz.prog GLs ml13 := mo12.cons mp13
def mk14 : List AV := [sx1]
def mv14 : AV := .i 0
theorem mp14 : Pure (PC GLs) 32 mk14 mv14 := bR bQ mo13 (n := 3000) (by kernel_rfl) (by kernel_rfl)
def ml14 : Memo := (32, mk14, mv14) :: ml13
theorem mo14 : MemoOk Tryz.prog GLs ml14 := mo13.cons mp14
def mk15 : List AV := [sx1]
def mv15 : AV := .tup [.sl 4 [.agg [.i 5, .i 0, .str [58, 45], .sl 4 [.agg [.i 5, .i 0, .str [47], .sl 4 [sx10, sx8]]]], sx3, sx9, sx11, .agg [.i 5, .i 0, .str [58, 45], .sl 4 [.agg [.i 5, .i 0, .str [47], .sl 4 [sx16, sx8]]]], sx5], .i 0]
theorem mp15 : Pure (PC GLs) 28 mk15 mv15 := bR bQ mo14 (n := 3000) (by kernel_rfl) (by kernel_rfl)
def ml15 : Memo := (28, mk15, mv15) :: ml14
theorem mo15 : MemoOk Tryz.prog GLs ml15 := mo14.cons mp15
def mk16 : List AV := [sx1, .i 0]
def mv16 : AV := .tup [.sl 1 [.i 1], .i 0]
theorem mp16 : Pure (PC GLs) 42 mk16 mv16 := bR bQ mo15 (n := 3000) (by kernel_rfl) (by kernel_rfl)
def ml16 : Memo := (42, mk16, mv16) :: ml15
theorem mo16 : MemoOk Tryz.prog GLs ml16 := mo15.cons mp16
def mk17 : List AV := [sx1]
def mv17 : AV := .tup [.sl 1 [.sl 1 [.i 1], .sl 1 [.i 0]], .i 0]
theorem mp17 : Pure (PC GLs) 63 mk17 mv17 := bR bQ mo16 (n := 3000) (by kernel_rfl) (by kernel_rfl)
def ml17 : Memo := (63, mk17, mv17) :: ml16
theorem mo17 : MemoOk Tryz.prog GLs ml17 := mo16.cons mp17
def mk18 : List AV := [.sl 4 [sx10, sx16, sx10]]
def mv18 : AV := .tup [.agg [sx0], .i 2, .i 40]
theorem mp18 : Pure (PC GLs) 29 mk18 mv18 := bR bQ mo17 (n := 3000) (by kernel_rfl) (by kernel_rfl)
def ml18 : Memo := (29, mk18, mv18) :: ml17
theorem mo18 : MemoOk Tryz.prog GLs ml18 := mo17.cons mp18
theorem sane_ok : Pure (PC GLs) 16 [] (.v (.bool true)) := bR bQ mo18 (n := 3000) (by kernel_rfl) (by kernel_rfl)
end Go.Rip
