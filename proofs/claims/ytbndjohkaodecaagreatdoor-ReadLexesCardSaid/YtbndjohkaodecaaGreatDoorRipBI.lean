/- ReadLexes: for every input the law returns true, and the arguments read behind the call as they read before. No condition. -/
import Derived.Test.YtbndjohkaodecaaGreatDoorRipAQ
import Derived.Test.YtbndjohkaodecaaGreatDoorRipBH
namespace Go.Proofs.YtbndjohkaodecaaGreatDoor
set_option maxRecDepth 100000
open Go Go.ChangeShapes Go.WideShapes Go.ChangeAt Go.WideMaps Go.WideElems Go.RowKit Go.Rip
theorem kZ (os : Os) (started : os.Started) (H : Type) (enc' : TypeId × Value -> H) :
  ReturnsInHanded {} Tryz.checked os 3 .any (fun w args => (Rows.readLexesSpec.pre enc' Tryz.prog Tryz.f3 [] false w args /\ laidMetH Tryz.prog laidL w) /\ sizedMet enc' Tryz.prog Tryz.f3 (OpenSpec.ofChange Rows.readLexesSpec) false w args)
   (Rows.readLexesSpec.post enc' Tryz.prog Tryz.f3 false true false false) := by
 refine eS (C := Tryz.checked) (X := fun w _ => laidMetH Tryz.prog laidL w) (fun _ _ _ hh h => h.of_heap hh) own started (by kernel_rfl) Tryz.func3
  (ChangeSpec.witness_shaped (enc := enc') (C := Tryz.checked) (os := os) (X := fun w _ => laidMetH Tryz.prog laidL w) false (World.doorLaid Tryz.prog 400 os) #[str0] 8 rfl (World.shaped_of_RefB (by kernel_rfl) (by kernel_rfl)) (by kernel_rfl) (by kernel_rfl) (by kernel_rfl) (door_met os _)) ?_
 intro W base args ds gs before hval0 hW hsz hL hsh
 have hval : ∀ (j : Nat) t v, Tryz.f3.params[j]? = some t -> args[j]? = some v -> Value.okWide Tryz.prog W .any base t v := hval0
 have hW' := hW
 obtain ⟨p, q, hA0, hV, rfl, hfz, hnd⟩ := hW
 have hA : DataW.TrodAll enc' Tryz.prog W 0 (fun _ => true) true Tryz.f3.params.toList args.toList ds p := hA0
 rw [Tryz.params3] at hA hval
 obtain ⟨v0, d0, rfl, rfl, h0⟩ := trodAll_one hA
 obtain ⟨rfl, rfl⟩ := trodVars_none hV
 have hw0 : ∀ y ∈ d0.weights Tryz.prog 9, y <= reachBytes := fun y hy => of_decide_eq_true (List.all_eq_true.1 hsz y (gJ (i := 0) (by simp [Tryz.params3]) rfl hy))
 obtain ⟨x0, -, hr0⟩ := arg_str strTy (hval 0 9 v0 rfl rfl) h0 hw0
 obtain ⟨GL, hG, hgl⟩ := glob_ok hL hsh
 refine (pF k3 (h3 hG x0) hgl (vs := [v0]) ⟨_, _, rfl, hr0, rfl⟩).mono fun e W' ⟨he, hb⟩ => ?_
 subst he
 exact ⟨_, rfl, post_true hW' rfl rfl rfl Tryz.underlying4 laidOut (by kernel_rfl) hb⟩
theorem q3a : Tryz.prog.inPlace 3 = ["internal/bytealg.IndexByteString", "internal/bytealg.IndexString", "internal/abi.NoEscape"] := by kernel_rfl
theorem q3b : Tryz.prog.unfollowed 3 = true := by kernel_rfl
theorem q3c : Tryz.prog.recurses 3 = true := by kernel_rfl
theorem q3d : Tryz.prog.varsNamed 3 = ["internal/bytealg.MaxLen", "strconv.ErrSyntax", "strconv.ErrRange", "internal/strconv.uint64pow10", "math/bits.deBruijn32tab", "math/bits.deBruijn64tab"] := by kernel_rfl
theorem mF : joinedFacts Tryz.prog 3 Tryz.f3 Rows.readLexesSpec Rows.readLexesRow = true := by
 unfold joinedFacts
 rw [laidOut, vE, stopsHeard, mayEnter, liftsFinal, make, q3a, q3b, q3c, q3d]
 kernel_rfl
theorem mI : Rows.ReadLexesSaid :=
 OpenClaim.holds_of_wide 3 Tryz.f3 rfl rfl rfl rfl rfl rfl rfl ⟨rfl, rfl, rfl, rfl, rfl⟩ rfl rfl rfl rfl rfl (by kernel_rfl) Tryz.func3 mF
  (of_decide_eq_true (by kernel_rfl)) (by unfold Func.isWrapper; first | (rw [if_pos (by decide +kernel)]; kernel_rfl) | (rw [if_neg (by decide +kernel)]; exact ⟨rfl, rfl⟩))
  (fun os started H enc _ => kZ os started H enc)
end Go.Proofs.YtbndjohkaodecaaGreatDoor
