/- ProgOrders: for every input the law returns true, and the arguments read behind the call as they read before. No condition. -/
import Derived.Test.YtndcajdameofjaaGreatDoorRipAS
import Derived.Test.YtndcajdameofjaaGreatDoorRipBI
namespace Go.Proofs.YtndcajdameofjaaGreatDoor
set_option maxRecDepth 100000
open Go Go.ChangeShapes Go.WideShapes Go.ChangeAt Go.WideMaps Go.WideElems Go.RowKit Go.Rip
theorem kT (os : Os) (started : os.Started) (H : Type) (enc' : TypeId × Value -> H) :
  ReturnsInHanded {} Tryz.checked os 14 .any (fun w args => (Rows.progOrdersSpec.pre enc' Tryz.prog Tryz.f14 [] false w args /\ laidMetH Tryz.prog laidL w) /\ sizedMet enc' Tryz.prog Tryz.f14 (OpenSpec.ofChange Rows.progOrdersSpec) false w args)
   (Rows.progOrdersSpec.post enc' Tryz.prog Tryz.f14 false true false false) := by
 refine returnsInHanded_of_change_and (C := Tryz.checked) (X := fun w _ => laidMetH Tryz.prog laidL w) (fun _ _ _ hh h => h.of_heap hh) own started (by kernel_rfl) Tryz.func14
  (ChangeSpec.witness_shaped (enc := enc') (C := Tryz.checked) (os := os) (X := fun w _ => laidMetH Tryz.prog laidL w) false (World.doorLaid Tryz.prog 400 os) #[pg0, qy0, ints0] 8 rfl (World.shaped_of_RefB (by kernel_rfl) (by kernel_rfl)) (by kernel_rfl) (by kernel_rfl) (by kernel_rfl) (door_met os _)) ?_
 intro W base args ds gs before hval0 hW _ hsz hL _
 have hval : ∀ (j : Nat) t v, Tryz.f14.params[j]? = some t -> args[j]? = some v -> Value.okWide Tryz.prog W .any base t v := hval0
 have hW' := hW
 obtain ⟨p, q, hA0, hV, rfl, hfz, hnd⟩ := hW
 have hA : DataW.TrodAll enc' Tryz.prog W 0 (fun _ => true) true Tryz.f14.params.toList args.toList ds p := hA0
 rw [Tryz.params14] at hA hval
 obtain ⟨v0, v1, v2, d0, d1, d2, p0, p1, p2, rfl, rfl, rfl, h0, h1, h2⟩ := trodAll_three hA
 obtain ⟨rfl, rfl⟩ := trodVars_none hV
 have hw0 : ∀ y ∈ d0.weights Tryz.prog 37, y <= reachBytes := fun y hy => Cc (Be.1 hsz y (cL (i := 0) (by simp [Tryz.params14]) rfl hy))
 have hw1 : ∀ y ∈ d1.weights Tryz.prog 49, y <= reachBytes := fun y hy => Cc (Be.1 hsz y (cL (i := 1) (by simp [Tryz.params14]) rfl hy))
 have hw2 : ∀ y ∈ d2.weights Tryz.prog 61, y <= reachBytes := fun y hy => Cc (Be.1 hsz y (cL (i := 2) (by simp [Tryz.params14]) rfl hy))
 obtain ⟨x0, hx0, hr0⟩ := arg_pg pgTy (hval 0 37 v0 rfl rfl) h0 hw0
 obtain ⟨x1, hx1, hr1⟩ := arg_qy qyTy (hval 1 49 v1 rfl rfl) h1 hw1
 obtain ⟨x2, -, hr2⟩ := arg_ints intsTy Tryz.underlying3 (hval 2 61 v2 rfl rfl) h2 hw2
 refine (pW k14 (h14 x0 x1 x2 hx0 hx1) (glob_ok hL) (vs := [v0, v1, v2]) ⟨_, _, rfl, hr0, _, _, rfl, hr1, _, _, rfl, hr2, rfl⟩).mono fun e W' ⟨he, hb⟩ => ?_
 subst he
 exact ⟨_, rfl, post_true hW' rfl rfl rfl Tryz.underlying4 laidOut (by kernel_rfl) hb⟩
theorem q14a : Tryz.prog.inPlace 14 = [] := by kernel_rfl
theorem q14b : Tryz.prog.unfollowed 14 = true := by kernel_rfl
theorem q14c : Tryz.prog.recurses 14 = true := by kernel_rfl
theorem q14d : Tryz.prog.varsNamed 14 = ["riparian/prog.calculations"] := by kernel_rfl
theorem lW : joinedFacts Tryz.prog 14 Tryz.f14 Rows.progOrdersSpec Rows.progOrdersRow = true := by
 unfold joinedFacts
 rw [laidOut, wS, stopsHeard, mayEnter, liftsFinal, make, q14a, q14b, q14c, q14d]
 kernel_rfl
theorem mF : Rows.ProgOrdersSaid :=
 OpenClaim.holds_of_wide 14 Tryz.f14 rfl rfl rfl rfl rfl rfl rfl ⟨rfl, rfl, rfl, rfl, rfl⟩ rfl rfl rfl rfl rfl (by kernel_rfl) Tryz.func14 lW
  (Cc (by kernel_rfl)) (by unfold Func.isWrapper; first | (rw [if_pos (by decide +kernel)]; kernel_rfl) | (rw [if_neg (by decide +kernel)]; exact ⟨rfl, rfl⟩))
  (fun os started H enc _ => kT os started H enc)
end Go.Proofs.YtndcajdameofjaaGreatDoor
