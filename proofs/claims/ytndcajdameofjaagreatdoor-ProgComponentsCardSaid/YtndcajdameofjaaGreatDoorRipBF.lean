/- ProgComponents: for every input the law returns true, and the arguments read behind the call as they read before. No condition. -/
import Derived.Test.YtndcajdameofjaaGreatDoorRipAQ
import Derived.Test.YtndcajdameofjaaGreatDoorRipBE
namespace Go.Proofs.YtndcajdameofjaaGreatDoor
set_option maxRecDepth 100000
open Go Go.ChangeShapes Go.WideShapes Go.ChangeAt Go.WideMaps Go.WideElems Go.RowKit Go.Rip
theorem progComponents_lifted (os : Os) (started : os.Started) (H : Type) (enc' : TypeId × Value -> H) :
  ReturnsInHanded {} Tryz.checked os 9 .any (fun w args => (Rows.progComponentsSpec.pre enc' Tryz.prog Tryz.f9 [] false w args /\ laidMetH Tryz.prog laidL w) /\ sizedMet enc' Tryz.prog Tryz.f9 (OpenSpec.ofChange Rows.progComponentsSpec) false w args)
   (Rows.progComponentsSpec.post enc' Tryz.prog Tryz.f9 false true false false) := by
 refine returnsInHanded_of_change_and (C := Tryz.checked) (X := fun w _ => laidMetH Tryz.prog laidL w) (fun _ _ _ hh h => h.of_heap hh) own started (by kernel_rfl) Tryz.func9
  (ChangeSpec.witness_shaped (enc := enc') (C := Tryz.checked) (os := os) (X := fun w _ => laidMetH Tryz.prog laidL w) false (World.doorLaid Tryz.prog 400 os) #[pg0, qy0] 8 rfl (World.shaped_of_RefB (by kernel_rfl) (by kernel_rfl)) (by kernel_rfl) (by kernel_rfl) (by kernel_rfl) (door_met os _)) ?_
 intro W base args ds gs before hval0 hW _ hsz hL _
 have hval : ∀ (j : Nat) t v, Tryz.f9.params[j]? = some t -> args[j]? = some v -> Value.okWide Tryz.prog W .any base t v := hval0
 have hW' := hW
 obtain ⟨p, q, hA0, hV, rfl, hfz, hnd⟩ := hW
 have hA : DataW.TrodAll enc' Tryz.prog W 0 (fun _ => true) true Tryz.f9.params.toList args.toList ds p := hA0
 rw [Tryz.params9] at hA hval
 obtain ⟨v0, v1, d0, d1, p0, p1, rfl, rfl, rfl, h0, h1⟩ := trodAll_two hA
 obtain ⟨rfl, rfl⟩ := trodVars_none hV
 have hw0 : ∀ y ∈ d0.weights Tryz.prog 37, y <= reachBytes := fun y hy => of_decide_eq_true (List.all_eq_true.1 hsz y (cS (i := 0) (by simp [Tryz.params9]) rfl hy))
 have hw1 : ∀ y ∈ d1.weights Tryz.prog 49, y <= reachBytes := fun y hy => of_decide_eq_true (List.all_eq_true.1 hsz y (cS (i := 1) (by simp [Tryz.params9]) rfl hy))
 obtain ⟨x0, hx0, hr0⟩ := arg_pg pgTy (hval 0 37 v0 rfl rfl) h0 hw0
 obtain ⟨x1, hx1, hr1⟩ := arg_qy qyTy (hval 1 49 v1 rfl rfl) h1 hw1
 refine (calls_of_pure k9 (h9 x0 x1 hx0 hx1) (glob_ok hL) (vs := [v0, v1]) ⟨_, _, rfl, hr0, _, _, rfl, hr1, rfl⟩).mono fun e W' ⟨he, hb⟩ => ?_
 subst he
 exact ⟨_, rfl, post_true hW' rfl rfl rfl Tryz.underlying4 laidOut (by kernel_rfl) hb⟩
theorem q9a : Tryz.prog.inPlace 9 = [] := by kernel_rfl
theorem q9b : Tryz.prog.unfollowed 9 = true := by kernel_rfl
theorem q9c : Tryz.prog.recurses 9 = true := by kernel_rfl
theorem q9d : Tryz.prog.varsNamed 9 = ["riparian/prog.calculations"] := by kernel_rfl
theorem progComponents_facts : joinedFacts Tryz.prog 9 Tryz.f9 Rows.progComponentsSpec Rows.progComponentsRow = true := by
 unfold joinedFacts
 rw [laidOut, mapsRowed', stopsHeard, mayEnter, liftsFinal, make, q9a, q9b, q9c, q9d]
 kernel_rfl
theorem progComponents_holds : Rows.ProgComponentsSaid :=
 OpenClaim.holds_of_wide 9 Tryz.f9 rfl rfl rfl rfl rfl rfl rfl ⟨rfl, rfl, rfl, rfl, rfl⟩ rfl rfl rfl rfl rfl (by kernel_rfl) Tryz.func9 progComponents_facts
  (of_decide_eq_true (by kernel_rfl)) (by unfold Func.isWrapper; first | (rw [if_pos (by decide +kernel)]; kernel_rfl) | (rw [if_neg (by decide +kernel)]; exact ⟨rfl, rfl⟩))
  (fun os started H enc _ => progComponents_lifted os started H enc)
end Go.Proofs.YtndcajdameofjaaGreatDoor
