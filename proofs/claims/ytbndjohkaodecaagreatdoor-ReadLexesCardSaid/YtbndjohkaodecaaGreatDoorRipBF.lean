/- The examples: what reads, what is written. -/
import Derived.Test.YtbndjohkaodecaaGreatDoorRipBB
import Derived.Test.YtbndjohkaodecaaGreatDoorRipBD
import Derived.Test.YtbndjohkaodecaaGreatDoorRipBE
namespace Go.Rip
open Go Go.Proofs
set_option maxRecDepth 100000
variable {GL : Glob}
attribute [local irreducible] Pure
theorem fB (t : Tm) : bd 0 (enc t) := by simp [go_sem]
theorem h30 (s : Str) : Pure (PC GL) 30 [.str s] (enc (.mk 3 0 s [])) := by
 refine aN (by simp [go_sem]) (fB _) ?_
 refine k30.call (by simp) ?_
 simp -implicitDefEqProofs only [go_sem, c30, r30]
 exact aO (by simp [wkr, wkrs, enc, encs]) (fB _)
theorem h53 (n : Int) : Pure (PC GL) 53 [.i n] (enc (.mk 1 n [] [])) := by
 refine aN (by simp [go_sem]) (fB _) ?_
 refine k53.call (by simp) ?_
 simp -implicitDefEqProofs only [go_sem, c53, r53]
 exact aO (by simp [wkr, wkrs, enc, encs]) (fB _)
theorem h54 (n : Int) : Pure (PC GL) 54 [.i n] (enc (.mk 2 n [] [])) := by
 refine aN (by simp [go_sem]) (fB _) ?_
 refine k54.call (by simp) ?_
 simp -implicitDefEqProofs only [go_sem, c54, r54]
 exact aO (by simp [wkr, wkrs, enc, encs]) (fB _)
theorem h31 (s : Str) (l : List Tm) : Pure (PC GL) 31 [.str s, .sl 4 (l.map enc)] (enc (.mk 5 0 s l)) := by
 refine aN (by simp [go_sem]) (fB _) ?_
 refine k31.call (by simp) ?_
 simp -implicitDefEqProofs only [go_sem, c31, r31]
 exact aO (by rw [wN]; simp [wkr, wkrs]) (fB _)
noncomputable def readsB (s : Str) (t : Tm) : Bool := match readT s with
 | .ok p => t.same p.1
 | .error _ => false
theorem h32 (hG : GLok GL) (s : Str) (t : Tm) (ht : t.size < 2 ^ 30) : Pure (PC GL) 32 [.str s, enc t] (.b (readsB s t)) := by
 refine aN (by simp [go_sem]) (by simp [go_sem]) ?_
 refine k32.call (by simp) ?_
 simp -implicitDefEqProofs only [go_sem, c32, r32]
 refine aC hC (h21 hG s) ?_
 unfold termV readsB
 rcases hz : readT s with ⟨e, n⟩ | ⟨u, ns⟩
 ·have d1 : (e == 0) = false := by simpa using qG hz
  simp -implicitDefEqProofs only [go_sem, d1]
  exact aR (bM _) rfl
 ·have d1 : ((0 : Int) == 0) = true := rfl
  simp -implicitDefEqProofs only [go_sem, d1, bC]
  refine aC hC (h24 t ht u) ?_
  simp -implicitDefEqProofs only [go_sem]
  exact aR (bM _) rfl
def writesB (t : Tm) (s : Str) : Bool := (textO varN false t).2 == 0 && (textO varN false t).1 == s
theorem h55 (hG : GLok GL) (s : Str) (t : Tm) (ht : t.size < 2 ^ 30) (hs : t.strs) : Pure (PC GL) 55 [enc t, .str s] (.b (writesB t s)) := by
 refine aN (by simp [go_sem]) (by simp [go_sem]) ?_
 refine k55.call (by simp) ?_
 simp -implicitDefEqProofs only [go_sem, c55, r55]
 refine aC hC (h22 hG t ht hs) ?_
 unfold textV writesB
 rcases hz : ((textO varN false t).2 == 0) with _ | _
 ·simp -implicitDefEqProofs only [go_sem, hz]
  exact aR (bM _) rfl
 ·simp -implicitDefEqProofs only [go_sem, hz]
  exact aR (bM _) rfl
end Go.Rip
