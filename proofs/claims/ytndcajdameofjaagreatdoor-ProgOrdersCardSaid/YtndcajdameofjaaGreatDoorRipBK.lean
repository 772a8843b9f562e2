/- ProgOrders: the tied card: for every input the law returns true, and the arguments read behind the call as they read before. No condition; what 'calculations' holds is tied to the program's text. -/
import Derived.Test.YtndcajdameofjaaGreatDoorCards
import Derived.Test.YtndcajdameofjaaGreatDoorRipBJ
namespace Go.Proofs.YtndcajdameofjaaGreatDoor
open Go
set_option maxRecDepth 100000
theorem wfText14 : Rows.progOrdersRow.wfByText (OpenSpec.ofChange Rows.progOrdersSpec) = true := by kernel_rfl
theorem goes14 : false = Rows.progOrdersRow.goesBy Tryz.prog := by kernel_rfl
theorem named14 : Tryz.prog.funcNamed "riparian/riparianlaw04.ProgOrders" = some 14 := by kernel_rfl
theorem progOrders_card : Rows.ProgOrdersCardSaid :=
 Claim7.holds_tied_plain_at .later [] [.widerDeep] true (true, "7236a39b1eabb949023bf3950cd45d7949f3e8a0e4288c403ba7a4191ad4bfc4") true
  mF (fun _ h => by cases h) wfText14 (fun _ h => by cases h) progOrders_row_tie rfl ⟨rfl, rfl⟩ mainIs rfl
  (fun f fn hf hfn => by
   obtain rfl : f = 14 := Option.some.inj (named14.symm.trans hf) |>.symm
   obtain rfl : fn = Tryz.f14 := (Option.some.inj (Tryz.func14.symm.trans hfn)).symm
   exact ⟨looks, fun j t ht => by
    rw [Tryz.params14] at ht
    have hm : t ∈ [37, 49, 61] := by simpa using Array.mem_of_getElem? ht
    have hall : ([37, 49, 61].all fun u => !Tryz.prog.wantsStandIn u) = true := by kernel_rfl
    exact (show Tryz.prog.wantsStandIn t = false by simpa using List.all_eq_true.1 hall t hm)⟩)
  goes14
#print axioms progOrders_card
end Go.Proofs.YtndcajdameofjaaGreatDoor
