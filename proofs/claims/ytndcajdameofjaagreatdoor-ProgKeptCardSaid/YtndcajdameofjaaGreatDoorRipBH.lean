/- ProgKept: the tied card: for every input the law returns true, and the arguments read behind the call as they read before. No condition; what 'calculations' holds is tied to the program's text. -/
import Derived.Test.YtndcajdameofjaaGreatDoorCards
import Derived.Test.YtndcajdameofjaaGreatDoorRipBG
namespace Go.Proofs.YtndcajdameofjaaGreatDoor
open Go
set_option maxRecDepth 100000
theorem wfText6 : Rows.progKeptRow.wfByText (OpenSpec.ofChange Rows.progKeptSpec) = true := by kernel_rfl
theorem goes6 : false = Rows.progKeptRow.goesBy Tryz.prog := by kernel_rfl
theorem named6 : Tryz.prog.funcNamed "riparian/riparianlaw04.ProgKept" = some 6 := by kernel_rfl
theorem progKept_card : Rows.ProgKeptCardSaid :=
 Claim7.holds_tied_plain_at .later [] [.widerDeep] true (true, "7236a39b1eabb949023bf3950cd45d7949f3e8a0e4288c403ba7a4191ad4bfc4") true
  progKept_holds (fun _ h => by cases h) wfText6 (fun _ h => by cases h) progKept_row_tie rfl ⟨rfl, rfl⟩ mainIs rfl
  (fun f fn hf hfn => by
   obtain rfl : f = 6 := Option.some.inj (named6.symm.trans hf) |>.symm
   obtain rfl : fn = Tryz.f6 := (Option.some.inj (Tryz.func6.symm.trans hfn)).symm
   exact ⟨looks, fun j t ht => by
    rw [Tryz.params6] at ht
    have hm : t ∈ [37, 3, 3, 3, 3] := by simpa using Array.mem_of_getElem? ht
    have hall : ([37, 3, 3, 3, 3].all fun u => !Tryz.prog.wantsStandIn u) = true := by kernel_rfl
    exact (show Tryz.prog.wantsStandIn t = false by simpa using List.all_eq_true.1 hall t hm)⟩)
  goes6
#print axioms progKept_card
end Go.Proofs.YtndcajdameofjaaGreatDoor
