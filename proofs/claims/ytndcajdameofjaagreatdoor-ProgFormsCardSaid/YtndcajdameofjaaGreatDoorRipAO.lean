/- The reference's tests; Expr, Test. -/
import Derived.Test.YtndcajdameofjaaGreatDoorRipAN
namespace Go.Rip
open Go Go.Proofs
variable {GL : Glob}
theorem hU (n : Int) (s : List UInt8) (l : List Tm) (x : List UInt8) : (Tm.mk 5 n s l).isAtom x = false := rfl
theorem nI (n : Int) (s : List UInt8) (l : List Tm) (x : List UInt8) (m : Int) : (Tm.mk 5 n s l).isFun x m = (s == x && (l.length : Int) == m) := rfl
theorem isFun_ne (k n : Int) (s : List UInt8) (l : List Tm) (x : List UInt8) (m : Int) (h : k ≠ 5) : (Tm.mk k n s l).isFun x m = false := by simp [Tm.isFun, Tm.kind, h]
def tst1 (s : List UInt8) : Bool := s == [119, 97, 105, 116] || (s == [105, 110, 116, 101, 103, 101, 114] || (s == [97, 116, 111, 109] || (s == [115, 116, 114, 105, 110, 103] || (s == [118, 101, 99, 116, 111, 114] || s == [108, 105, 115, 116]))))
def tst2 (s : List UInt8) : Bool := s == [61, 61] || s == [92, 61, 61]
def cmps (s : List UInt8) : Bool := s == [61, 58, 61] || (s == [61, 92, 61] || (s == [60] || (s == [61, 60] || (s == [62] || s == [62, 61]))))
theorem rY (n : Int) (s : List UInt8) (l : List Tm) : (Tm.mk 5 n s l).test = ((tst1 s && (l.length : Int) == 1) || ((tst2 s && (l.length : Int) == 2) || (cmps s && ((l.length : Int) == 2 && exprs l)))) := by
 simp only [Tm.test, hU, Tm.kind_mk, Tm.s_mk, Tm.l_mk, tst1, tst2, cmps, tstL, cmpL, getT, deq2, deq1]
 by_cases h1 : s = [119, 97, 105, 116]; · subst h1; simp [deq1]
 by_cases h2 : s = [105, 110, 116, 101, 103, 101, 114]; · subst h2; simp [deq1]
 by_cases h3 : s = [97, 116, 111, 109]; · subst h3; simp [deq1]
 by_cases h4 : s = [115, 116, 114, 105, 110, 103]; · subst h4; simp [deq1]
 by_cases h5 : s = [118, 101, 99, 116, 111, 114]; · subst h5; simp [deq1]
 by_cases h6 : s = [108, 105, 115, 116]; · subst h6; simp [deq1]
 by_cases h7 : s = [61, 61]; · subst h7; simp [deq2]
 by_cases h8 : s = [92, 61, 61]; · subst h8; simp [deq2]
 simp only [h1, h2, h3, h4, h5, h6, h7, h8, if_false]
 by_cases h9 : s = [61, 58, 61]; · subst h9; simp
 by_cases h10 : s = [61, 92, 61]; · subst h10; simp
 by_cases h11 : s = [60]; · subst h11; simp
 by_cases h12 : s = [61, 60]; · subst h12; simp
 by_cases h13 : s = [62]; · subst h13; simp
 by_cases h14 : s = [62, 61]; · subst h14; simp
 simp [*]
theorem test_ne (k n : Int) (s : List UInt8) (l : List Tm) (h : k ≠ 5) : (Tm.mk k n s l).test = (Tm.mk k n s l).isAtom [116, 114, 117, 101] := by
 simp [Tm.test, Tm.kind, h]
theorem h102_0 (n : Int) (s : List UInt8) : Pure (PC GL) 102 [enc (.mk 5 n s [])] (.b (Tm.test (.mk 5 n s []))) := by
 refine k102.pure (by simp) (by simp [go_sem]) (by simp [go_sem]) ?_
 have e1 := rY n s []
 have q := jM (GL := GL) 5 n s []
 simp -implicitDefEqProofs only [go_sem, c102, r102, Tm.kind_mk, Tm.n_mk, Tm.s_mk, Tm.l_mk]
 repeat' (first | simp -implicitDefEqProofs only [go_sem, *, qF, kD, gY, nI, hU, Int.reduceToNat, Nat.reduceAdd, bQ] | with_reducible refine aU (fun _ => ?_) (fun _ => ?_) | with_reducible refine aV (fun _ => ?_) (fun _ => ?_) | with_reducible refine aG (fun _ => ?_) (fun _ => ?_) | with_reducible refine aD ?_ ?_ | (refine aC hC (q _ _) ?_) | ((with_reducible refine And.intro ?bnd ?_); (case bnd => decide)) | fail)
 all_goals simp_all [go_sem]
theorem h102_1 (n : Int) (s : List UInt8) (a : Tm) : Pure (PC GL) 102 [enc (.mk 5 n s [a])] (.b (Tm.test (.mk 5 n s [a]))) := by
 refine k102.pure (by simp) (by simp [go_sem]) (by simp [go_sem]) ?_
 have e1 := rY n s [a]
 have q := jM (GL := GL) 5 n s [a]
 simp -implicitDefEqProofs only [go_sem, c102, r102, Tm.kind_mk, Tm.n_mk, Tm.s_mk, Tm.l_mk]
 repeat' (first | simp -implicitDefEqProofs only [go_sem, *, qF, kD, gY, nI, hU, Int.reduceToNat, Nat.reduceAdd, List.getD_cons_zero, bQ] | with_reducible refine aU (fun _ => ?_) (fun _ => ?_) | with_reducible refine aV (fun _ => ?_) (fun _ => ?_) | with_reducible refine aG (fun _ => ?_) (fun _ => ?_) | with_reducible refine aD ?_ ?_ | (refine aC hC (q _ _) ?_) | ((with_reducible refine And.intro ?bnd ?_); (case bnd => decide)) | fail)
 all_goals simp_all [go_sem, tst1]
theorem h102_2 (n : Int) (s : List UInt8) (a b : Tm) : Pure (PC GL) 102 [enc (.mk 5 n s [a, b])] (.b (Tm.test (.mk 5 n s [a, b]))) := by
 refine k102.pure (by simp) (by simp [go_sem]) (by simp [go_sem]) ?_
 have e1 := rY n s [a, b]
 have ia := h100 (GL := GL) a
 have ib := h100 (GL := GL) b
 have q := jM (GL := GL) 5 n s [a, b]
 simp -implicitDefEqProofs only [go_sem, c102, r102, Tm.kind_mk, Tm.n_mk, Tm.s_mk, Tm.l_mk]
 repeat' (first | simp -implicitDefEqProofs only [go_sem, *, qF, kD, gY, nI, hU, Int.reduceToNat, Nat.reduceAdd, List.getD_cons_zero, List.getD_cons_succ, bQ] | with_reducible refine aU (fun _ => ?_) (fun _ => ?_) | with_reducible refine aV (fun _ => ?_) (fun _ => ?_) | with_reducible refine aG (fun _ => ?_) (fun _ => ?_) | with_reducible refine aD ?_ ?_ | (refine aC hC (q _ _) ?_) | (refine aC hC (id ia) ?_) | (refine aC hC (id ib) ?_) | ((with_reducible refine And.intro ?bnd ?_); (case bnd => decide)) | fail)
 all_goals simp_all [go_sem, tst2, cmps, exprs]
theorem h102_3 (n : Int) (s : List UInt8) (a b c : Tm) (r : List Tm) : Pure (PC GL) 102 [enc (.mk 5 n s (a :: b :: c :: r))] (.b (Tm.test (.mk 5 n s (a :: b :: c :: r)))) := by
 refine k102.pure (by simp) (by simp [go_sem]) (by simp [go_sem]) ?_
 have e1 := rY n s (a :: b :: c :: r)
 have q := jM (GL := GL) 5 n s (a :: b :: c :: r)
 simp -implicitDefEqProofs only [go_sem, c102, r102, Tm.kind_mk, Tm.n_mk, Tm.s_mk, Tm.l_mk]
 repeat' (first | simp -implicitDefEqProofs only [go_sem, *, qF, kD, gY, nI, hU, len31, len32, List.length_cons, Nat.reduceAdd, Bool.and_false] | with_reducible refine aU (fun _ => ?_) (fun _ => ?_) | with_reducible refine aV (fun _ => ?_) (fun _ => ?_) | with_reducible refine aG (fun _ => ?_) (fun _ => ?_) | with_reducible refine aD ?_ ?_ | (refine aC hC (q _ _) ?_) | ((with_reducible refine And.intro ?bnd ?_); (case bnd => decide)) | fail)
 all_goals simp_all [go_sem]
theorem h102 (t : Tm) : Pure (PC GL) 102 [enc t] (.b t.test) := by
 obtain ⟨k, n, s, l⟩ := t
 by_cases hk : k = 5
 ·subst hk
  rcases l with _ | ⟨a, _ | ⟨b, _ | ⟨c, r⟩⟩⟩
  ·exact h102_0 n s
  ·exact h102_1 n s a
  ·exact h102_2 n s a b
  ·exact h102_3 n s a b c r
 ·refine k102.pure (by simp) (by simp [go_sem]) (by simp [go_sem]) ?_
  have e1 := test_ne k n s l hk
  have q := jM (GL := GL) k n s l
  have e2 := fun x m => isFun_ne k n s l x m hk
  simp -implicitDefEqProofs only [go_sem, c102, r102, Tm.kind_mk, Tm.n_mk, Tm.s_mk, Tm.l_mk]
  repeat' (first | simp -implicitDefEqProofs only [go_sem, *, qF, kD, gY] | with_reducible refine aU (fun _ => ?_) (fun _ => ?_) | with_reducible refine aV (fun _ => ?_) (fun _ => ?_) | with_reducible refine aG (fun _ => ?_) (fun _ => ?_) | with_reducible refine aD ?_ ?_ | (refine aC hC (q _ _) ?_) | ((with_reducible refine And.intro ?bnd ?_); (case bnd => decide)) | fail)
  all_goals simp_all [go_sem]
end Go.Rip
