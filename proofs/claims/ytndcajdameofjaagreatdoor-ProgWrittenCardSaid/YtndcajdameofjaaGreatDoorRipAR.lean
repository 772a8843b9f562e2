/- Closed facts that every law's row needs: the types, the global, the zero values. -/
import Derived.Test.YtndcajdameofjaaGreatDoorRows
import Derived.Test.YtndcajdameofjaaGreatDoorTie
import Derived.ProofKit
import Derived.LaidMore
import Derived.OpenShut
import Derived.Stop.Joined
import Derived.MakeChecks
import Derived.SevenTiedAt
import Derived.Carry
import Derived.Test.YtndcajdameofjaaGreatDoorRipAP
import Derived.Test.YtndcajdameofjaaGreatDoorRipAJ
import Derived.Test.YtndcajdameofjaaGreatDoorRipAQ
namespace Go.Proofs.YtndcajdameofjaaGreatDoor
set_option maxRecDepth 100000
open Go Go.ChangeShapes Go.WideShapes Go.ChangeAt Go.WideMaps Go.WideElems Go.RowKit Go.Rip
theorem own : ownKnob Tryz.prog.godebug = none := by kernel_rfl
def laidL : List (String × DataW Unit) := [("riparian/prog.calculations", Rows.laid_riparian_prog_calculations)]
theorem gCalc : Tryz.prog.globalNamed "riparian/prog.calculations" = some 0 := by kernel_rfl
theorem tCalc : (Tryz.prog.globals[0]?).map (·.type) = some 218 := by kernel_rfl
theorem c9 : Tryz.prog.cellsOf 9 = 1 := by kernel_rfl
theorem tmTy : TmTy Tryz.prog 24 22 9 3 := ⟨⟨_, Tryz.underlying24, by kernel_rfl, rfl⟩, by kernel_rfl, Tryz.underlying22, Tryz.underlying9, Tryz.underlying3, of_decide_eq_true (by kernel_rfl)⟩
theorem glob_ok {W : World} (h : laidMetH Tryz.prog laidL W) : ∀ n l, (n, l) ∈ GLs -> ∀ E', RepC E' (allA W) (allG W) W n 0 l := by
 rw [MakeChecks.laidMetH_plain _ _ _ (by kernel_rfl)] at h
 obtain ⟨ps, ⟨g0, t0, cs0, f0, p0, q0, hg0, ht0, hv0, hd0, _, _⟩, _, _⟩ := h
 obtain rfl := Option.some.inj (gCalc.symm.trans hg0)
 obtain rfl := Option.some.inj (tCalc.symm.trans ht0)
 intro n l hl E'
 simp only [GLs, List.mem_singleton, Prod.mk.injEq] at hl
 obtain ⟨rfl, rfl⟩ := hl
 have hcell : ∀ i s, [[43], [45], [42], [47], [109, 111, 100], [45]][i]? = some s -> W.cell? ⟨0, i, none⟩ = some (.string ⟨s.toArray⟩) := fun i s hs => by
  rw [World.var?_cell hg0 hv0 i, <- Array.getElem?_toList]
  exact glob_strs (ss := [[43], [45], [42], [47], [109, 111, 100], [45]]) Tryz.underlying218 Tryz.underlying9 c9 hd0 rfl hs
 refine RepC.of_get (l := [[43], [45], [42], [47], [109, 111, 100], [45]].map AV.str) fun i x hx => ?_
 simp only [List.getElem?_map, Option.map_eq_some_iff] at hx
 obtain ⟨s, hs, rfl⟩ := hx
 have := hcell i s hs
 rw [Nat.zero_add]
 exact ⟨_, this, ⟨_, this⟩, rfl, rfl⟩
theorem door_met (os : Os) (args : Array Value) : laidMetH Tryz.prog laidL ((World.doorLaid Tryz.prog 400 os).forCall (fun _ _ => 0) ⟨#[], args, []⟩).memory :=
 laidMetH_of_parts3 (fuel := 8) (laidMet_of_run' 8 (by kernel_rfl) (by kernel_rfl)) (by kernel_rfl) (by kernel_rfl)
theorem clTy : ClTy Tryz.prog 68 24 22 9 3 := ⟨tmTy, ⟨⟨_, Tryz.underlying68, by kernel_rfl, rfl⟩⟩⟩
theorem prTy : PrTy Tryz.prog 60 58 68 24 22 9 3 := ⟨clTy, ⟨Tryz.underlying58, by kernel_rfl, by omega, of_decide_eq_true (by kernel_rfl)⟩, ⟨⟨_, Tryz.underlying60, by kernel_rfl, rfl⟩⟩⟩
theorem pgTy : PgTy Tryz.prog 37 35 60 58 68 24 22 9 3 := ⟨prTy, ⟨Tryz.underlying35, by kernel_rfl, by omega, of_decide_eq_true (by kernel_rfl)⟩, ⟨⟨_, Tryz.underlying37, by kernel_rfl, rfl⟩⟩⟩
def ints0 : Value := .slice none 0 0
def pg0 : Value := .agg #[.slice none 0 0]
theorem mainIs : Tryz.prog.mainIs = some (true, "7236a39b1eabb949023bf3950cd45d7949f3e8a0e4288c403ba7a4191ad4bfc4".toList) := by kernel_rfl
theorem looks : true = Tryz.prog.looks [] := by kernel_rfl
end Go.Proofs.YtndcajdameofjaaGreatDoor
