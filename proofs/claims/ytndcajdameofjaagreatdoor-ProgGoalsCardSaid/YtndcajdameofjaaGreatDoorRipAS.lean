/- ProgGoals: for every term and every symbol the law returns true, and the arguments read behind the call as they read before. No condition. -/
import Derived.Test.YtndcajdameofjaaGreatDoorRows
import Derived.Test.YtndcajdameofjaaGreatDoorTie
import Derived.ProofKit
import Derived.LaidMore
import Derived.OpenShut
import Derived.Stop.Joined
import Derived.MakeChecks
import Derived.SevenTiedAt
import Derived.Test.YtndcajdameofjaaGreatDoorRipAQ
import Derived.Test.YtndcajdameofjaaGreatDoorRipAR

namespace Go.Proofs.YtndcajdameofjaaGreatDoor
set_option maxRecDepth 100000
open Go Go.ChangeShapes Go.WideShapes Go.ChangeAt Go.WideMaps Go.WideElems Go.RowKit Go.Rip

theorem own : ownKnob Tryz.prog.godebug = none := by kernel_rfl
def laidL : List (String × DataW Unit) := [("riparian/prog.calculations", Rows.laid_riparian_prog_calculations)]
theorem gCalc : Tryz.prog.globalNamed "riparian/prog.calculations" = some 0 := by kernel_rfl
theorem tCalc : (Tryz.prog.globals[0]?).map (·.type) = some 218 := by kernel_rfl
theorem c9 : Tryz.prog.cellsOf 9 = 1 := by kernel_rfl
theorem tmTy : TmTy Tryz.prog 24 22 9 3 := ⟨⟨_, Tryz.underlying24, by kernel_rfl, rfl⟩, by kernel_rfl, Tryz.underlying22, Tryz.underlying9, Tryz.underlying3, of_decide_eq_true (by kernel_rfl)⟩
theorem symTy : SymTy Tryz.prog 26 9 3 := ⟨⟨_, Tryz.underlying26, by kernel_rfl, rfl⟩, Tryz.underlying9, Tryz.underlying3⟩
theorem glob_ok {W : World} (h : laidMetH Tryz.prog laidL W) : ∀ n l, (n, l) ∈ GLs → ∀ E', RepC E' (allA W) (allG W) W n 0 l := by
  rw [MakeChecks.laidMetH_plain _ _ _ (by kernel_rfl)] at h
  obtain ⟨ps, ⟨g0, t0, cs0, f0, p0, q0, hg0, ht0, hv0, hd0, _, _⟩, _, _⟩ := h
  obtain rfl := Option.some.inj (gCalc.symm.trans hg0)
  obtain rfl := Option.some.inj (tCalc.symm.trans ht0)
  intro n l hl E'
  simp only [GLs, List.mem_singleton, Prod.mk.injEq] at hl
  obtain ⟨rfl, rfl⟩ := hl
  have hcell : ∀ i s, [[43], [45], [42], [47], [109, 111, 100], [45]][i]? = some s → W.cell? ⟨0, i, none⟩ = some (.string ⟨s.toArray⟩) := fun i s hs => by
    rw [World.var?_cell hg0 hv0 i, ← Array.getElem?_toList]
    exact glob_strs (ss := [[43], [45], [42], [47], [109, 111, 100], [45]]) Tryz.underlying218 Tryz.underlying9 c9 hd0 rfl hs
  refine RepC.of_get (l := [[43], [45], [42], [47], [109, 111, 100], [45]].map AV.str) fun i x hx => ?_
  simp only [List.getElem?_map, Option.map_eq_some_iff] at hx
  obtain ⟨s, hs, rfl⟩ := hx
  have := hcell i s hs
  rw [Nat.zero_add]
  exact ⟨_, this, ⟨_, this⟩, rfl, rfl⟩
theorem door_met (os : Os) (args : Array Value) : laidMetH Tryz.prog laidL ((World.doorLaid Tryz.prog 400 os).forCall (fun _ _ => 0) ⟨#[], args, []⟩).memory :=
  laidMetH_of_parts3 (fuel := 8) (laidMet_of_run' 8 (by kernel_rfl) (by kernel_rfl)) (by kernel_rfl) (by kernel_rfl)
def tm0 : Value := .agg #[.int .i64 0, .int .i64 0, .string ⟨#[]⟩, .slice none 0 0]
def sym0 : Value := .agg #[.string ⟨#[]⟩, .int .i64 0]
theorem progGoals_lifted (os : Os) (started : os.Started) (H : Type) (enc' : TypeId × Value → H) :
    ReturnsInHanded {} Tryz.checked os 3 .any (fun w args => (Rows.progGoalsSpec.pre enc' Tryz.prog Tryz.f3 [] false w args ∧ laidMetH Tryz.prog laidL w) ∧ sizedMet enc' Tryz.prog Tryz.f3 (OpenSpec.ofChange Rows.progGoalsSpec) false w args)
      (Rows.progGoalsSpec.post enc' Tryz.prog Tryz.f3 false true false false) := by
  refine returnsInHanded_of_change_and (C := Tryz.checked) (X := fun w _ => laidMetH Tryz.prog laidL w) (fun _ _ _ hh h => h.of_heap hh) own started (by kernel_rfl) Tryz.func3
    (ChangeSpec.witness_shaped (enc := enc') (C := Tryz.checked) (os := os) (X := fun w _ => laidMetH Tryz.prog laidL w) false (World.doorLaid Tryz.prog 400 os) #[tm0, sym0] 8 rfl (World.shaped_of_RefB (by kernel_rfl) (by kernel_rfl)) (by kernel_rfl) (by kernel_rfl) (by kernel_rfl) (door_met os _)) ?_
  intro W base args ds gs before hval0 hW _ hsz hL _
  have hval : ∀ (j : Nat) t v, Tryz.f3.params[j]? = some t → args[j]? = some v → Value.okWide Tryz.prog W .any base t v := hval0
  have hW' := hW
  obtain ⟨p, q, hA0, hV, rfl, hfz, hnd⟩ := hW
  have hA : DataW.TrodAll enc' Tryz.prog W 0 (fun _ => true) true Tryz.f3.params.toList args.toList ds p := hA0
  rw [Tryz.params3] at hA hval
  obtain ⟨v0, v1, d0, d1, p0, p1, rfl, rfl, rfl, h0, h1⟩ := trodAll_two hA
  obtain ⟨rfl, rfl⟩ := trodVars_none hV
  have hw0 : ∀ y ∈ d0.weights Tryz.prog 24, y ≤ reachBytes := fun y hy => of_decide_eq_true (List.all_eq_true.1 hsz y (mem_weightsEach (i := 0) (by simp [Tryz.params3]) rfl hy))
  have hw1 : ∀ y ∈ d1.weights Tryz.prog 26, y ≤ reachBytes := fun y hy => of_decide_eq_true (List.all_eq_true.1 hsz y (mem_weightsEach (i := 1) (by simp [Tryz.params3]) rfl hy))
  obtain ⟨t, ht, hr0⟩ := arg_tm tmTy (hval 0 24 v0 rfl rfl) h0 hw0
  obtain ⟨s, -, hr1⟩ := arg_sym symTy (hval 1 26 v1 rfl rfl) h1 hw1
  refine (calls_of_pure k3 (h3 t s ht) (glob_ok hL) (vs := [v0, v1]) ⟨_, _, rfl, hr0, _, _, rfl, hr1, rfl⟩).mono fun e W' ⟨he, hb⟩ => ?_
  subst he
  exact ⟨_, rfl, post_true hW' rfl rfl rfl Tryz.underlying4 laidOut (by kernel_rfl) hb⟩
theorem q3a : Tryz.prog.inPlace 3 = [] := by kernel_rfl
theorem q3b : Tryz.prog.unfollowed 3 = true := by kernel_rfl
theorem q3c : Tryz.prog.recurses 3 = true := by kernel_rfl
theorem q3d : Tryz.prog.varsNamed 3 = ["riparian/prog.calculations"] := by kernel_rfl
theorem progGoals_facts : joinedFacts Tryz.prog 3 Tryz.f3 Rows.progGoalsSpec Rows.progGoalsRow = true := by
  unfold joinedFacts
  rw [laidOut, mapsRowed', stopsHeard, mayEnter, liftsFinal, make, q3a, q3b, q3c, q3d]
  kernel_rfl
theorem progGoals_holds : Rows.ProgGoalsSaid :=
  OpenClaim.holds_of_wide 3 Tryz.f3 rfl rfl rfl rfl rfl rfl rfl ⟨rfl, rfl, rfl, rfl, rfl⟩ rfl rfl rfl rfl rfl (by kernel_rfl) Tryz.func3 progGoals_facts
    (of_decide_eq_true (by kernel_rfl)) (by unfold Func.isWrapper; first | (rw [if_pos (by decide +kernel)]; kernel_rfl) | (rw [if_neg (by decide +kernel)]; exact ⟨rfl, rfl⟩))
    (fun os started H enc _ => progGoals_lifted os started H enc)
end Go.Proofs.YtndcajdameofjaaGreatDoor
