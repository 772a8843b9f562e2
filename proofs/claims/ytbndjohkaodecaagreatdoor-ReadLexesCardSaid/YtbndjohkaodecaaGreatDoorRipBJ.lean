/- ReadLexes: the tied card: for every input the law returns true, and the arguments read behind the call as they read before. No condition; what the listed variables hold is tied to the program's text. -/
import Derived.Test.YtbndjohkaodecaaGreatDoorCards
import Derived.Test.YtbndjohkaodecaaGreatDoorRipBI
namespace Go.Proofs.YtbndjohkaodecaaGreatDoor
open Go
set_option maxRecDepth 100000
theorem wfText3 : Rows.readLexesRow.wfByText (OpenSpec.ofChange Rows.readLexesSpec) = true := by kernel_rfl
theorem goes3 : false = Rows.readLexesRow.goesBy Tryz.prog := by kernel_rfl
theorem named3 : Tryz.prog.funcNamed "riparian/riparianlaw02.ReadLexes" = some 3 := by kernel_rfl
theorem readLexes_card : Rows.ReadLexesCardSaid :=
 Claim7.holds_tied_plain_at .later [] [.data, .data, .data, .sentinel, .sentinel] true (true, "0487231308984262cb8012114dd09b33cfa2734f14c88897aaaf00f71f20233c") true
  mI (fun _ h => by cases h) wfText3 (fun _ h => by cases h) readLexes_row_tie rfl ⟨rfl, rfl⟩ mainIs rfl
  (fun f fn hf hfn => by
   obtain rfl : f = 3 := Option.some.inj (named3.symm.trans hf) |>.symm
   obtain rfl : fn = Tryz.f3 := (Option.some.inj (Tryz.func3.symm.trans hfn)).symm
   exact ⟨looks, fun j t ht => by
    rw [Tryz.params3] at ht
    have hm : t ∈ [9] := by simpa using Array.mem_of_getElem? ht
    have hall : ([9].all fun u => !Tryz.prog.wantsStandIn u) = true := by kernel_rfl
    exact (show Tryz.prog.wantsStandIn t = false by simpa using List.all_eq_true.1 hall t hm)⟩)
  goes3
#print axioms readLexes_card
end Go.Proofs.YtbndjohkaodecaaGreatDoor
