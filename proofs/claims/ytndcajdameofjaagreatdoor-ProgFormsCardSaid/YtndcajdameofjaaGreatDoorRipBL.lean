/- ProgForms: for every input the law returns true, and the arguments read behind the call as they read before. No condition. -/
import Derived.Test.YtndcajdameofjaaGreatDoorRipAR
import Derived.Test.YtndcajdameofjaaGreatDoorRipBK
namespace Go.Proofs.YtndcajdameofjaaGreatDoor
set_option maxRecDepth 100000
open Go Go.ChangeShapes Go.WideShapes Go.ChangeAt Go.WideMaps Go.WideElems Go.RowKit Go.Rip
theorem lS (os : Os) (started : os.Started) (H : Type) (enc' : TypeId × Value -> H) :
  ReturnsInHanded {} Tryz.checked os 13 .any (fun w args => (Rows.progFormsSpec.pre enc' Tryz.prog Tryz.f13 [] false w args /\ laidMetH Tryz.prog laidL w) /\ sizedMet enc' Tryz.prog Tryz.f13 (OpenSpec.ofChange Rows.progFormsSpec) false w args)
   (Rows.progFormsSpec.post enc' Tryz.prog Tryz.f13 false true false false) := by
 refine returnsInHanded_of_change_and (C := Tryz.checked) (X := fun w _ => laidMetH Tryz.prog laidL w) (fun _ _ _ hh h => h.of_heap hh) own started (by kernel_rfl) Tryz.func13
  (ChangeSpec.witness_shaped (enc := enc') (C := Tryz.checked) (os := os) (X := fun w _ => laidMetH Tryz.prog laidL w) false (World.doorLaid Tryz.prog 400 os) #[pg0, pg0, cl0, int0] 8 rfl (World.shaped_of_RefB (by kernel_rfl) (by kernel_rfl)) (by kernel_rfl) (by kernel_rfl) (by kernel_rfl) (door_met os _)) ?_
 intro W base args ds gs before hval0 hW _ hsz hL _
 have hval : ∀ (j : Nat) t v, Tryz.f13.params[j]? = some t -> args[j]? = some v -> Value.okWide Tryz.prog W .any base t v := hval0
 have hW' := hW
 obtain ⟨p, q, hA0, hV, rfl, hfz, hnd⟩ := hW
 have hA : DataW.TrodAll enc' Tryz.prog W 0 (fun _ => true) true Tryz.f13.params.toList args.toList ds p := hA0
 rw [Tryz.params13] at hA hval
 obtain ⟨v0, v1, v2, v3, d0, d1, d2, d3, p0, p1, p2, p3, rfl, rfl, rfl, h0, h1, h2, h3⟩ := trodAll_four hA
 obtain ⟨rfl, rfl⟩ := trodVars_none hV
 have hw0 : ∀ y ∈ d0.weights Tryz.prog 37, y <= reachBytes := fun y hy => of_decide_eq_true (List.all_eq_true.1 hsz y (cU (i := 0) (by simp [Tryz.params13]) rfl hy))
 have hw1 : ∀ y ∈ d1.weights Tryz.prog 37, y <= reachBytes := fun y hy => of_decide_eq_true (List.all_eq_true.1 hsz y (cU (i := 1) (by simp [Tryz.params13]) rfl hy))
 have hw2 : ∀ y ∈ d2.weights Tryz.prog 68, y <= reachBytes := fun y hy => of_decide_eq_true (List.all_eq_true.1 hsz y (cU (i := 2) (by simp [Tryz.params13]) rfl hy))
 obtain ⟨x0, hx0, hr0⟩ := arg_pg pgTy (hval 0 37 v0 rfl rfl) h0 hw0
 obtain ⟨x1, hx1, hr1⟩ := arg_pg pgTy (hval 1 37 v1 rfl rfl) h1 hw1
 obtain ⟨x2, hx2, hr2⟩ := arg_cl clTy (hval 2 68 v2 rfl rfl) h2 hw2
 obtain ⟨x3, hr3⟩ := arg_int Tryz.underlying3 (hval 3 3 v3 rfl rfl)
 refine (pM k13 (h13 x0 x1 x2 x3 hx0 hx1 hx2) (glob_ok hL) (vs := [v0, v1, v2, v3]) ⟨_, _, rfl, hr0, _, _, rfl, hr1, _, _, rfl, hr2, _, _, rfl, hr3, rfl⟩).mono fun e W' ⟨he, hb⟩ => ?_
 subst he
 exact ⟨_, rfl, post_true hW' rfl rfl rfl Tryz.underlying4 laidOut (by kernel_rfl) hb⟩
theorem q13a : Tryz.prog.inPlace 13 = [] := by kernel_rfl
theorem q13b : Tryz.prog.unfollowed 13 = true := by kernel_rfl
theorem q13c : Tryz.prog.recurses 13 = true := by kernel_rfl
theorem q13d : Tryz.prog.varsNamed 13 = ["riparian/prog.calculations"] := by kernel_rfl
theorem mZ : joinedFacts Tryz.prog 13 Tryz.f13 Rows.progFormsSpec Rows.progFormsRow = true := by
 unfold joinedFacts
 rw [laidOut, wY, stopsHeard, mayEnter, liftsFinal, make, q13a, q13b, q13c, q13d]
 kernel_rfl
theorem mX : Rows.ProgFormsSaid :=
 OpenClaim.holds_of_wide 13 Tryz.f13 rfl rfl rfl rfl rfl rfl rfl ⟨rfl, rfl, rfl, rfl, rfl⟩ rfl rfl rfl rfl rfl (by kernel_rfl) Tryz.func13 mZ
  (of_decide_eq_true (by kernel_rfl)) (by unfold Func.isWrapper; first | (rw [if_pos (by decide +kernel)]; kernel_rfl) | (rw [if_neg (by decide +kernel)]; exact ⟨rfl, rfl⟩))
  (fun os started H enc _ => lS os started H enc)
end Go.Proofs.YtndcajdameofjaaGreatDoor
