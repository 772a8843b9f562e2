/- ProgFresh: the tied card: for every input the law returns true, and the arguments read behind the call as they read before. No condition; what 'calculations' holds is tied to the program's text. -/
import Derived.Test.YtndcajdameofjaaGreatDoorCards
import Derived.Test.YtndcajdameofjaaGreatDoorRipAY

namespace Go.Proofs.YtndcajdameofjaaGreatDoor
open Go
set_option maxRecDepth 100000
theorem wfText8 : Rows.progFreshRow.wfByText (OpenSpec.ofChange Rows.progFreshSpec) = true := by kernel_rfl
theorem goes8 : false = Rows.progFreshRow.goesBy Tryz.prog := by kernel_rfl
theorem named8 : Tryz.prog.funcNamed "riparian/riparianlaw04.ProgFresh" = some 8 := by kernel_rfl
theorem progFresh_card : Rows.ProgFreshCardSaid :=
  Claim7.holds_tied_plain_at .later [] [.widerDeep] true (true, "7236a39b1eabb949023bf3950cd45d7949f3e8a0e4288c403ba7a4191ad4bfc4") true
    progFresh_holds (fun _ h => by cases h) wfText8 (fun _ h => by cases h) progFresh_row_tie rfl ⟨rfl, rfl⟩ mainIs rfl
    (fun f fn hf hfn => by
      obtain rfl : f = 8 := Option.some.inj (named8.symm.trans hf) |>.symm
      obtain rfl : fn = Tryz.f8 := (Option.some.inj (Tryz.func8.symm.trans hfn)).symm
      exact ⟨looks, fun j t ht => by
        rw [Tryz.params8] at ht
        have hm : t ∈ [68, 3, 3] := by simpa using Array.mem_of_getElem? ht
        have hall : ([68, 3, 3].all fun u => !Tryz.prog.wantsStandIn u) = true := by kernel_rfl
        exact (show Tryz.prog.wantsStandIn t = false by simpa using List.all_eq_true.1 hall t hm)⟩)
    goes8
#print axioms progFresh_card
end Go.Proofs.YtndcajdameofjaaGreatDoor
