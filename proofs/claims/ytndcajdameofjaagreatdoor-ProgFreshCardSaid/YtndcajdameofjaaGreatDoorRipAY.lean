/- ProgFresh: for every input the law returns true, and the arguments read behind the call as they read before. No condition. -/
import Derived.Test.YtndcajdameofjaaGreatDoorRipAS
import Derived.Test.YtndcajdameofjaaGreatDoorRipAX

namespace Go.Proofs.YtndcajdameofjaaGreatDoor
set_option maxRecDepth 100000
open Go Go.ChangeShapes Go.WideShapes Go.ChangeAt Go.WideMaps Go.WideElems Go.RowKit Go.Rip
theorem progFresh_lifted (os : Os) (started : os.Started) (H : Type) (enc' : TypeId × Value → H) :
    ReturnsInHanded {} Tryz.checked os 8 .any (fun w args => (Rows.progFreshSpec.pre enc' Tryz.prog Tryz.f8 [] false w args ∧ laidMetH Tryz.prog laidL w) ∧ sizedMet enc' Tryz.prog Tryz.f8 (OpenSpec.ofChange Rows.progFreshSpec) false w args)
      (Rows.progFreshSpec.post enc' Tryz.prog Tryz.f8 false true false false) := by
  refine returnsInHanded_of_change_and (C := Tryz.checked) (X := fun w _ => laidMetH Tryz.prog laidL w) (fun _ _ _ hh h => h.of_heap hh) own started (by kernel_rfl) Tryz.func8
    (ChangeSpec.witness_shaped (enc := enc') (C := Tryz.checked) (os := os) (X := fun w _ => laidMetH Tryz.prog laidL w) false (World.doorLaid Tryz.prog 400 os) #[cl0, int0, int0] 8 rfl (World.shaped_of_RefB (by kernel_rfl) (by kernel_rfl)) (by kernel_rfl) (by kernel_rfl) (by kernel_rfl) (door_met os _)) ?_
  intro W base args ds gs before hval0 hW _ hsz hL _
  have hval : ∀ (j : Nat) t v, Tryz.f8.params[j]? = some t → args[j]? = some v → Value.okWide Tryz.prog W .any base t v := hval0
  have hW' := hW
  obtain ⟨p, q, hA0, hV, rfl, hfz, hnd⟩ := hW
  have hA : DataW.TrodAll enc' Tryz.prog W 0 (fun _ => true) true Tryz.f8.params.toList args.toList ds p := hA0
  rw [Tryz.params8] at hA hval
  obtain ⟨v0, v1, v2, d0, d1, d2, p0, p1, p2, rfl, rfl, rfl, h0, h1, h2⟩ := trodAll_three hA
  obtain ⟨rfl, rfl⟩ := trodVars_none hV
  have hw0 : ∀ y ∈ d0.weights Tryz.prog 68, y ≤ reachBytes := fun y hy => of_decide_eq_true (List.all_eq_true.1 hsz y (mem_weightsEach (i := 0) (by simp [Tryz.params8]) rfl hy))
  obtain ⟨x0, hx0, hr0⟩ := arg_cl clTy (hval 0 68 v0 rfl rfl) h0 hw0
  obtain ⟨x1, hr1⟩ := arg_int Tryz.underlying3 (hval 1 3 v1 rfl rfl)
  obtain ⟨x2, hr2⟩ := arg_int Tryz.underlying3 (hval 2 3 v2 rfl rfl)
  refine (calls_of_pure k8 (h8 x0 x1 x2 hx0) (glob_ok hL) (vs := [v0, v1, v2]) ⟨_, _, rfl, hr0, _, _, rfl, hr1, _, _, rfl, hr2, rfl⟩).mono fun e W' ⟨he, hb⟩ => ?_
  subst he
  exact ⟨_, rfl, post_true hW' rfl rfl rfl Tryz.underlying4 laidOut (by kernel_rfl) hb⟩
theorem q8a : Tryz.prog.inPlace 8 = [] := by kernel_rfl
theorem q8b : Tryz.prog.unfollowed 8 = true := by kernel_rfl
theorem q8c : Tryz.prog.recurses 8 = true := by kernel_rfl
theorem q8d : Tryz.prog.varsNamed 8 = ["riparian/prog.calculations"] := by kernel_rfl
theorem progFresh_facts : joinedFacts Tryz.prog 8 Tryz.f8 Rows.progFreshSpec Rows.progFreshRow = true := by
  unfold joinedFacts
  rw [laidOut, mapsRowed', stopsHeard, mayEnter, liftsFinal, make, q8a, q8b, q8c, q8d]
  kernel_rfl
theorem progFresh_holds : Rows.ProgFreshSaid :=
  OpenClaim.holds_of_wide 8 Tryz.f8 rfl rfl rfl rfl rfl rfl rfl ⟨rfl, rfl, rfl, rfl, rfl⟩ rfl rfl rfl rfl rfl (by kernel_rfl) Tryz.func8 progFresh_facts
    (of_decide_eq_true (by kernel_rfl)) (by unfold Func.isWrapper; first | (rw [if_pos (by decide +kernel)]; kernel_rfl) | (rw [if_neg (by decide +kernel)]; exact ⟨rfl, rfl⟩))
    (fun os started H enc _ => progFresh_lifted os started H enc)
end Go.Proofs.YtndcajdameofjaaGreatDoor
