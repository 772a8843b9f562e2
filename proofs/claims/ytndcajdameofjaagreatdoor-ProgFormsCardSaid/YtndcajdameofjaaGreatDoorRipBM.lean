/- ProgForms: the tied card: for every input the law returns true, and the arguments read behind the call as they read before. No condition; what 'calculations' holds is tied to the program's text. -/
import Derived.Test.YtndcajdameofjaaGreatDoorCards
import Derived.Test.YtndcajdameofjaaGreatDoorRipBL
namespace Go.Proofs.YtndcajdameofjaaGreatDoor
open Go
set_option maxRecDepth 100000
theorem wfText13 : Rows.progFormsRow.wfByText (OpenSpec.ofChange Rows.progFormsSpec) = true := by kernel_rfl
theorem goes13 : false = Rows.progFormsRow.goesBy Tryz.prog := by kernel_rfl
theorem named13 : Tryz.prog.funcNamed "riparian/riparianlaw04.ProgForms" = some 13 := by kernel_rfl
theorem progForms_card : Rows.ProgFormsCardSaid :=
 Claim7.holds_tied_plain_at .later [] [.widerDeep] true (true, "7236a39b1eabb949023bf3950cd45d7949f3e8a0e4288c403ba7a4191ad4bfc4") true
  mX (fun _ h => by cases h) wfText13 (fun _ h => by cases h) progForms_row_tie rfl ⟨rfl, rfl⟩ mainIs rfl
  (fun f fn hf hfn => by
   obtain rfl : f = 13 := Option.some.inj (named13.symm.trans hf) |>.symm
   obtain rfl : fn = Tryz.f13 := (Option.some.inj (Tryz.func13.symm.trans hfn)).symm
   exact ⟨looks, fun j t ht => by
    rw [Tryz.params13] at ht
    have hm : t ∈ [37, 37, 68, 3] := by simpa using Array.mem_of_getElem? ht
    have hall : ([37, 37, 68, 3].all fun u => !Tryz.prog.wantsStandIn u) = true := by kernel_rfl
    exact (show Tryz.prog.wantsStandIn t = false by simpa using List.all_eq_true.1 hall t hm)⟩)
  goes13
#print axioms progForms_card
end Go.Proofs.YtndcajdameofjaaGreatDoor
