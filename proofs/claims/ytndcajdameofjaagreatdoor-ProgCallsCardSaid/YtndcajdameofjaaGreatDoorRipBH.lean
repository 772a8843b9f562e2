/- ProgCalls: the tied card: for every input the law returns true, and the arguments read behind the call as they read before. No condition; what 'calculations' holds is tied to the program's text. -/
import Derived.Test.YtndcajdameofjaaGreatDoorCards
import Derived.Test.YtndcajdameofjaaGreatDoorRipBG
namespace Go.Proofs.YtndcajdameofjaaGreatDoor
open Go
set_option maxRecDepth 100000
theorem wfText10 : Rows.progCallsRow.wfByText (OpenSpec.ofChange Rows.progCallsSpec) = true := by kernel_rfl
theorem goes10 : false = Rows.progCallsRow.goesBy Tryz.prog := by kernel_rfl
theorem named10 : Tryz.prog.funcNamed "riparian/riparianlaw04.ProgCalls" = some 10 := by kernel_rfl
theorem progCalls_card : Rows.ProgCallsCardSaid :=
 Claim7.holds_tied_plain_at .later [] [.widerDeep] true (true, "7236a39b1eabb949023bf3950cd45d7949f3e8a0e4288c403ba7a4191ad4bfc4") true
  progCalls_holds (fun _ h => by cases h) wfText10 (fun _ h => by cases h) progCalls_row_tie rfl ⟨rfl, rfl⟩ mainIs rfl
  (fun f fn hf hfn => by
   obtain rfl : f = 10 := Option.some.inj (named10.symm.trans hf) |>.symm
   obtain rfl : fn = Tryz.f10 := (Option.some.inj (Tryz.func10.symm.trans hfn)).symm
   exact ⟨looks, fun j t ht => by
    rw [Tryz.params10] at ht
    have hm : t ∈ [37, 49, 3] := by simpa using Array.mem_of_getElem? ht
    have hall : ([37, 49, 3].all fun u => !Tryz.prog.wantsStandIn u) = true := by kernel_rfl
    exact (show Tryz.prog.wantsStandIn t = false by simpa using List.all_eq_true.1 hall t hm)⟩)
  goes10
#print axioms progCalls_card
end Go.Proofs.YtndcajdameofjaaGreatDoor
