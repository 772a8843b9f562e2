/- ProgWritten: the tied card: for every input the law returns true, and the arguments read behind the call as they read before. No condition; what 'calculations' holds is tied to the program's text. -/
import Derived.Test.YtndcajdameofjaaGreatDoorCards
import Derived.Test.YtndcajdameofjaaGreatDoorRipBK
namespace Go.Proofs.YtndcajdameofjaaGreatDoor
open Go
set_option maxRecDepth 100000
theorem wfText4 : Rows.progWrittenRow.wfByText (OpenSpec.ofChange Rows.progWrittenSpec) = true := by kernel_rfl
theorem goes4 : false = Rows.progWrittenRow.goesBy Tryz.prog := by kernel_rfl
theorem named4 : Tryz.prog.funcNamed "riparian/riparianlaw04.ProgWritten" = some 4 := by kernel_rfl
theorem progWritten_card : Rows.ProgWrittenCardSaid :=
 Claim7.holds_tied_plain_at .later [] [.widerDeep] true (true, "7236a39b1eabb949023bf3950cd45d7949f3e8a0e4288c403ba7a4191ad4bfc4") true
  kH (fun _ h => by cases h) wfText4 (fun _ h => by cases h) progWritten_row_tie rfl ⟨rfl, rfl⟩ mainIs rfl
  (fun f fn hf hfn => by
   obtain rfl : f = 4 := Option.some.inj (named4.symm.trans hf) |>.symm
   obtain rfl : fn = Tryz.f4 := (Option.some.inj (Tryz.func4.symm.trans hfn)).symm
   exact ⟨looks, fun j t ht => by
    rw [Tryz.params4] at ht
    have hm : t ∈ [37, 22] := by simpa using Array.mem_of_getElem? ht
    have hall : ([37, 22].all fun u => !Tryz.prog.wantsStandIn u) = true := by kernel_rfl
    exact (show Tryz.prog.wantsStandIn t = false by simpa using List.all_eq_true.1 hall t hm)⟩)
  goes4
#print axioms progWritten_card
end Go.Proofs.YtndcajdameofjaaGreatDoor
