/- ProgGoals: the tied card: for every term and every symbol the law returns true, and the arguments read behind the call as they read before. No condition; what 'calculations' holds is tied to the program's text. -/
import Derived.Test.YtndcajdameofjaaGreatDoorCards
import Derived.Test.YtndcajdameofjaaGreatDoorRipAS

namespace Go.Proofs.YtndcajdameofjaaGreatDoor
open Go
set_option maxRecDepth 100000
theorem mainIs : Tryz.prog.mainIs = some (true, "7236a39b1eabb949023bf3950cd45d7949f3e8a0e4288c403ba7a4191ad4bfc4".toList) := by kernel_rfl
theorem looks : true = Tryz.prog.looks [] := by kernel_rfl
theorem wfText3 : Rows.progGoalsRow.wfByText (OpenSpec.ofChange Rows.progGoalsSpec) = true := by kernel_rfl
theorem goes3 : false = Rows.progGoalsRow.goesBy Tryz.prog := by kernel_rfl
theorem named3 : Tryz.prog.funcNamed "riparian/riparianlaw04.ProgGoals" = some 3 := by kernel_rfl
theorem progGoals_card : Rows.ProgGoalsCardSaid :=
  Claim7.holds_tied_plain_at .later [] [.widerDeep] true (true, "7236a39b1eabb949023bf3950cd45d7949f3e8a0e4288c403ba7a4191ad4bfc4") true
    progGoals_holds (fun _ h => by cases h) wfText3 (fun _ h => by cases h) progGoals_row_tie rfl ⟨rfl, rfl⟩ mainIs rfl
    (fun f fn hf hfn => by
      obtain rfl : f = 3 := Option.some.inj (named3.symm.trans hf) |>.symm
      obtain rfl : fn = Tryz.f3 := (Option.some.inj (Tryz.func3.symm.trans hfn)).symm
      exact ⟨looks, fun j t ht => by
        rw [Tryz.params3] at ht
        have hm : t ∈ [24, 26] := by simpa using Array.mem_of_getElem? ht
        have hall : ([24, 26].all fun u => !Tryz.prog.wantsStandIn u) = true := by kernel_rfl
        exact (show Tryz.prog.wantsStandIn t = false by simpa using List.all_eq_true.1 hall t hm)⟩)
    goes3
#print axioms progGoals_card
end Go.Proofs.YtndcajdameofjaaGreatDoor
