/- ProgGoals. -/
import Derived.Test.YtndcajdameofjaaGreatDoorRipAO
import Derived.Test.YtndcajdameofjaaGreatDoorRipAP

namespace Go.Rip
open Go Go.Proofs
variable {GL : Glob}
attribute [local irreducible] Pure
theorem goal_size (t : Tm) : t.goalR.2.2.size ≤ t.size := by
  have hp := size_pos t
  have hz : Tm.size .zero = 1 := by simp [Tm.zero, Tm.size, sizes]
  unfold Tm.goalR
  split
  · unfold Tm.goal
    split
    · rename_i g p h1 h2
      split
      · simp only [hz]; omega
      · have := size_lt (t := t) (x := g) (by rw [h2]; simp)
        simp only; omega
    · simp only [hz]; omega
    · split
      · simp only [hz]; omega
      · exact Nat.le_refl _
  · simp only [hz]; omega
theorem h3 (t : Tm) (s : Sym) (hw : t.wid) : Pure (PC GLs) 3 [enc t, encSym s] (.b true) := by
  have f1 := h17 (GL := GLs) [[t]] 2000 (by simp [wids, hw]) (by simp) (by omega)
  obtain ⟨a, n⟩ := s
  refine k3.pure (by simp) (by simp [go_sem, encSym]) (by simp [go_sem]) ?_
  simp -implicitDefEqProofs only [go_sem, c3, r3, encSym]
  refine call_pure hC sane_ok ?_
  simp -implicitDefEqProofs only [go_sem, blt01, Bool.not_true]
  refine call_fz f1 ?_ ?_
  · simp [fzs, fzGs, fzG, fzG_enc, encL]
  rcases hc : cnts [[t]].flatten 2000 1 with ⟨_ | _, x⟩
  · simp -implicitDefEqProofs only [go_sem, Bool.not_false]
    refine fin_pure ?_ ?_ <;> simp [go_sem]
  · have hx := (cnts_true [t] 2000 1 x (by omega) (by simpa using hc))
    simp only [sizes, strss] at hx
    obtain ⟨x0, x1, x2, -⟩ := hx
    have hs : t.size < 2 ^ 30 := by omega
    have f2 := h18 (GL := GLs) t hs x2
    have f3 := h19 (GL := GLs) t hs x2
    have f4 := h20 t hs x2
    have f5 := h21 (GL := GLs) t hs x2
    have f6 := h22 t hs x2
    have f7 := h23 (GL := GLs) t hs x2
    have f8 := h24 (GL := GLs) t.goalR.2.2 (by have := goal_size t; omega) t.goalR.2.2
    have f9 := h25 (GL := GLs) ⟨a, n⟩
    have f10 := h26 (GL := GLs) ⟨a, n⟩
    rw [same_refl] at f8
    simp only [encG] at f2 f3
    simp -implicitDefEqProofs only [go_sem, Bool.not_true]
    repeat' (first | simp -implicitDefEqProofs only [go_sem, *, beq_self_eq_true] | with_reducible refine gdO_and (fun _ => ?_) (fun _ => ?_) | with_reducible refine pkO_and (fun _ => ?_) (fun _ => ?_) | with_reducible refine cdO_and (fun _ => ?_) (fun _ => ?_) | with_reducible refine fin_pure ?_ ?_ | ((with_reducible apply call_pure hC); (exact f2)) | ((with_reducible apply call_pure hC); (exact f3)) | ((with_reducible apply call_pure hC); (exact f4)) | ((with_reducible apply call_pure hC); (exact f5)) | ((with_reducible apply call_pure hC); (exact f6)) | ((with_reducible apply call_pure hC); (exact f7)) | ((with_reducible apply call_pure hC); (exact f8)) | ((with_reducible apply call_pure hC); (exact f9)) | ((with_reducible apply call_pure hC); (exact f10)) | ((with_reducible refine And.intro ?bnd ?_); (case bnd => decide)) | fail)
    all_goals simp_all [go_sem]
end Go.Rip
