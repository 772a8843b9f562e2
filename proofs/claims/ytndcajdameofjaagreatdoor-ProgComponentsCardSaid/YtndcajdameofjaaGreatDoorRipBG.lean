/- ProgComponents: the tied card: for every input the law returns true, and the arguments read behind the call as they read before. No condition; what 'calculations' holds is tied to the program's text. -/
import Derived.Test.YtndcajdameofjaaGreatDoorCards
import Derived.Test.YtndcajdameofjaaGreatDoorRipBF
namespace Go.Proofs.YtndcajdameofjaaGreatDoor
open Go
set_option maxRecDepth 100000
theorem wfText9 : Rows.progComponentsRow.wfByText (OpenSpec.ofChange Rows.progComponentsSpec) = true := by kernel_rfl
theorem goes9 : false = Rows.progComponentsRow.goesBy Tryz.prog := by kernel_rfl
theorem named9 : Tryz.prog.funcNamed "riparian/riparianlaw04.ProgComponents" = some 9 := by kernel_rfl
theorem progComponents_card : Rows.ProgComponentsCardSaid :=
 Claim7.holds_tied_plain_at .later [] [.widerDeep] true (true, "7236a39b1eabb949023bf3950cd45d7949f3e8a0e4288c403ba7a4191ad4bfc4") true
  progComponents_holds (fun _ h => by cases h) wfText9 (fun _ h => by cases h) progComponents_row_tie rfl ⟨rfl, rfl⟩ mainIs rfl
  (fun f fn hf hfn => by
   obtain rfl : f = 9 := Option.some.inj (named9.symm.trans hf) |>.symm
   obtain rfl : fn = Tryz.f9 := (Option.some.inj (Tryz.func9.symm.trans hfn)).symm
   exact ⟨looks, fun j t ht => by
    rw [Tryz.params9] at ht
    have hm : t ∈ [37, 49] := by simpa using Array.mem_of_getElem? ht
    have hall : ([37, 49].all fun u => !Tryz.prog.wantsStandIn u) = true := by kernel_rfl
    exact (show Tryz.prog.wantsStandIn t = false by simpa using List.all_eq_true.1 hall t hm)⟩)
  goes9
#print axioms progComponents_card
end Go.Proofs.YtndcajdameofjaaGreatDoor
