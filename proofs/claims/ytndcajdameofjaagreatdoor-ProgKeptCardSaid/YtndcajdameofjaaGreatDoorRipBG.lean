/- ProgKept: for every input the law returns true, and the arguments read behind the call as they read before. No condition. -/
import Derived.Test.YtndcajdameofjaaGreatDoorRipAR
import Derived.Test.YtndcajdameofjaaGreatDoorRipBF
namespace Go.Proofs.YtndcajdameofjaaGreatDoor
set_option maxRecDepth 100000
open Go Go.ChangeShapes Go.WideShapes Go.ChangeAt Go.WideMaps Go.WideElems Go.RowKit Go.Rip
theorem progKept_lifted (os : Os) (started : os.Started) (H : Type) (enc' : TypeId × Value -> H) :
  ReturnsInHanded {} Tryz.checked os 6 .any (fun w args => (Rows.progKeptSpec.pre enc' Tryz.prog Tryz.f6 [] false w args /\ laidMetH Tryz.prog laidL w) /\ sizedMet enc' Tryz.prog Tryz.f6 (OpenSpec.ofChange Rows.progKeptSpec) false w args)
   (Rows.progKeptSpec.post enc' Tryz.prog Tryz.f6 false true false false) := by
 refine returnsInHanded_of_change_and (C := Tryz.checked) (X := fun w _ => laidMetH Tryz.prog laidL w) (fun _ _ _ hh h => h.of_heap hh) own started (by kernel_rfl) Tryz.func6
  (ChangeSpec.witness_shaped (enc := enc') (C := Tryz.checked) (os := os) (X := fun w _ => laidMetH Tryz.prog laidL w) false (World.doorLaid Tryz.prog 400 os) #[pg0, int0, int0, int0, int0] 8 rfl (World.shaped_of_RefB (by kernel_rfl) (by kernel_rfl)) (by kernel_rfl) (by kernel_rfl) (by kernel_rfl) (door_met os _)) ?_
 intro W base args ds gs before hval0 hW _ hsz hL _
 have hval : ∀ (j : Nat) t v, Tryz.f6.params[j]? = some t -> args[j]? = some v -> Value.okWide Tryz.prog W .any base t v := hval0
 have hW' := hW
 obtain ⟨p, q, hA0, hV, rfl, hfz, hnd⟩ := hW
 have hA : DataW.TrodAll enc' Tryz.prog W 0 (fun _ => true) true Tryz.f6.params.toList args.toList ds p := hA0
 rw [Tryz.params6] at hA hval
 obtain ⟨v0, v1, v2, v3, v4, d0, d1, d2, d3, d4, p0, p1, p2, p3, p4, rfl, rfl, rfl, h0, h1, h2, h3, h4⟩ := trodAll_five hA
 obtain ⟨rfl, rfl⟩ := trodVars_none hV
 have hw0 : ∀ y ∈ d0.weights Tryz.prog 37, y <= reachBytes := fun y hy => of_decide_eq_true (List.all_eq_true.1 hsz y (mem_weightsEach (i := 0) (by simp [Tryz.params6]) rfl hy))
 obtain ⟨x0, hx0, hr0⟩ := arg_pg pgTy (hval 0 37 v0 rfl rfl) h0 hw0
 obtain ⟨x1, hr1⟩ := arg_int Tryz.underlying3 (hval 1 3 v1 rfl rfl)
 obtain ⟨x2, hr2⟩ := arg_int Tryz.underlying3 (hval 2 3 v2 rfl rfl)
 obtain ⟨x3, hr3⟩ := arg_int Tryz.underlying3 (hval 3 3 v3 rfl rfl)
 obtain ⟨x4, hr4⟩ := arg_int Tryz.underlying3 (hval 4 3 v4 rfl rfl)
 refine (calls_of_pure k6 (h6 x0 x1 x2 x3 x4 hx0) (glob_ok hL) (vs := [v0, v1, v2, v3, v4]) ⟨_, _, rfl, hr0, _, _, rfl, hr1, _, _, rfl, hr2, _, _, rfl, hr3, _, _, rfl, hr4, rfl⟩).mono fun e W' ⟨he, hb⟩ => ?_
 subst he
 exact ⟨_, rfl, post_true hW' rfl rfl rfl Tryz.underlying4 laidOut (by kernel_rfl) hb⟩
theorem q6a : Tryz.prog.inPlace 6 = [] := by kernel_rfl
theorem q6b : Tryz.prog.unfollowed 6 = true := by kernel_rfl
theorem q6c : Tryz.prog.recurses 6 = true := by kernel_rfl
theorem q6d : Tryz.prog.varsNamed 6 = ["riparian/prog.calculations"] := by kernel_rfl
theorem progKept_facts : joinedFacts Tryz.prog 6 Tryz.f6 Rows.progKeptSpec Rows.progKeptRow = true := by
 unfold joinedFacts
 rw [laidOut, mapsRowed', stopsHeard, mayEnter, liftsFinal, make, q6a, q6b, q6c, q6d]
 kernel_rfl
theorem progKept_holds : Rows.ProgKeptSaid :=
 OpenClaim.holds_of_wide 6 Tryz.f6 rfl rfl rfl rfl rfl rfl rfl ⟨rfl, rfl, rfl, rfl, rfl⟩ rfl rfl rfl rfl rfl (by kernel_rfl) Tryz.func6 progKept_facts
  (of_decide_eq_true (by kernel_rfl)) (by unfold Func.isWrapper; first | (rw [if_pos (by decide +kernel)]; kernel_rfl) | (rw [if_neg (by decide +kernel)]; exact ⟨rfl, rfl⟩))
  (fun os started H enc _ => progKept_lifted os started H enc)
end Go.Proofs.YtndcajdameofjaaGreatDoor
