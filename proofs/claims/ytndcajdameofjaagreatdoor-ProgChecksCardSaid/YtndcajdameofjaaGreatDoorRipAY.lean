/- ProgChecks: the tied card: for every input the law returns true, and the arguments read behind the call as they read before. No condition; what 'calculations' holds is tied to the program's text. -/
import Derived.Test.YtndcajdameofjaaGreatDoorCards
import Derived.Test.YtndcajdameofjaaGreatDoorRipAX

namespace Go.Proofs.YtndcajdameofjaaGreatDoor
open Go
set_option maxRecDepth 100000
theorem wfText7 : Rows.progChecksRow.wfByText (OpenSpec.ofChange Rows.progChecksSpec) = true := by kernel_rfl
theorem goes7 : false = Rows.progChecksRow.goesBy Tryz.prog := by kernel_rfl
theorem named7 : Tryz.prog.funcNamed "riparian/riparianlaw04.ProgChecks" = some 7 := by kernel_rfl
theorem progChecks_card : Rows.ProgChecksCardSaid :=
  Claim7.holds_tied_plain_at .later [] [.widerDeep] true (true, "7236a39b1eabb949023bf3950cd45d7949f3e8a0e4288c403ba7a4191ad4bfc4") true
    progChecks_holds (fun _ h => by cases h) wfText7 (fun _ h => by cases h) progChecks_row_tie rfl ⟨rfl, rfl⟩ mainIs rfl
    (fun f fn hf hfn => by
      obtain rfl : f = 7 := Option.some.inj (named7.symm.trans hf) |>.symm
      obtain rfl : fn = Tryz.f7 := (Option.some.inj (Tryz.func7.symm.trans hfn)).symm
      exact ⟨looks, fun j t ht => by
        rw [Tryz.params7] at ht
        have hm : t ∈ [68, 3, 37, 49, 26] := by simpa using Array.mem_of_getElem? ht
        have hall : ([68, 3, 37, 49, 26].all fun u => !Tryz.prog.wantsStandIn u) = true := by kernel_rfl
        exact (show Tryz.prog.wantsStandIn t = false by simpa using List.all_eq_true.1 hall t hm)⟩)
    goes7
#print axioms progChecks_card
end Go.Proofs.YtndcajdameofjaaGreatDoor
