/- What is a term: the count. -/
import Derived.Test.YtndcajdameofjaaGreatDoorRipAL
namespace Go.Rip
open Go Go.Proofs
variable {GL : Glob}
theorem f283 (t : Tm) (hk : t.kind = 1) : PureOn (PC GL) 283 [enc t, .ref 0 0] (.b t.nodeOk) frmH := by
 have := h283 (GL := GL) t
 simpa [Tm.nodeOk, hk] using this
theorem f284 (t : Tm) (hk : t.kind = 2) : PureOn (PC GL) 284 [enc t, .ref 0 0] (.b t.nodeOk) frmH := by
 have := h284 (GL := GL) t
 simpa [Tm.nodeOk, hk] using this
theorem f285 (t : Tm) (hs : t.s.length < 2 ^ 30) (hk : t.kind = 3) : PureOn (PC GL) 285 [enc t, .ref 0 0] (.b t.nodeOk) frmH := by
 have := h285 (GL := GL) t hs
 simpa [Tm.nodeOk, hk] using this
theorem f287 (t : Tm) (hk : t.kind = 4) : PureOn (PC GL) 287 [enc t, .ref 0 0] (.b t.nodeOk) frmH := by
 have := h287 (GL := GL) t
 simpa [Tm.nodeOk, hk] using this
theorem f288 (t : Tm) (hs : t.s.length < 2 ^ 30) (hk : t.kind = 5) : PureOn (PC GL) 288 [enc t, .ref 0 0] (.b t.nodeOk) frmH := by
 have := h288 (GL := GL) t hs
 simpa [Tm.nodeOk, hk] using this
theorem f289 (t : Tm) (hk : t.kind = 6) : PureOn (PC GL) 289 [enc t, .ref 0 0] (.b t.nodeOk) frmH := by
 have := h289 (GL := GL) t
 simpa [Tm.nodeOk, hk] using this
def countR (t : Tm) (left deep : Int) : Int := if t.nodesOk = true /\ (t.deep : Int) <= deep /\ (t.size : Int) <= left then t.size else left + 1
theorem h244 (t : Tm) (hs : t.strs) (ht : t.size < 2 ^ 30) (left deep : Int) (hl : -(2 ^ 40) < left /\ left < 2 ^ 40) (hd : -(2 ^ 40) < deep /\ deep < 2 ^ 40) :
  PureOn (PC GL) 244 [enc t, .i left, .i deep, frmV 0] (.i (countR t left deep)) frmH := by
 induction t using cR generalizing left deep with
 | _ t ih =>
 have h4 := aQ t.l
 have h5 := bE t
 have h6 := fR t
 obtain ⟨hs1, hs2⟩ := (bS t).1 hs
 have bad : ¬ (t.nodesOk = true /\ (t.deep : Int) <= deep /\ (t.size : Int) <= left) -> countR t left deep = left + 1 := fun h => by rw [countR, if_neg h]
 have w1 : IntKind.i64.wrap (left + 1) = left + 1 := aP _ (by omega)
 refine k244.call (by simp) ?_
 simp -implicitDefEqProofs only [go_sem, c244, r244, frmH, frmV]
 by_cases c1 : deep < 1
 ·have hb := bad (by omega)
  have e1 := decide_eq_true c1
  simp -implicitDefEqProofs only [go_sem, e1, w1]
  exact dM (h1 := frmH) (by simp [hb, go_sem]) (by simp [go_sem]) dV
 have e1 := decide_eq_false c1
 by_cases c2 : left < 1
 ·have hb := bad (by omega)
  have e2 := decide_eq_true c2
  simp -implicitDefEqProofs only [go_sem, e1, e2, w1]
  exact dM (h1 := frmH) (by simp [hb, go_sem]) (by simp [go_sem]) dV
 have e2 := decide_eq_false c2
 by_cases c3 : t.kind < 1
 ·have hb := bad (fun h => by
   have := h.1
   rw [bC] at this
   simp only [Tm.nodeOk] at this
   repeat' (split at this; omega)
   simp at this)
  have e3 := decide_eq_true c3
  simp -implicitDefEqProofs only [go_sem, e1, e2, e3, w1]
  exact dM (h1 := frmH) (by simp [hb, go_sem]) (by simp [go_sem]) dV
 have e3 := decide_eq_false c3
 by_cases c4 : t.kind > 6
 ·have hb := bad (fun h => by
   have := h.1
   rw [bC] at this
   simp only [Tm.nodeOk] at this
   repeat' (split at this; omega)
   simp at this)
  have e4 := decide_eq_true c4
  simp -implicitDefEqProofs only [go_sem, e1, e2, e3, e4, w1]
  exact dM (h1 := frmH) (by simp [hb, go_sem]) (by simp [go_sem]) dV
 have e4 := decide_eq_false c4
 have hk : t.kind = 1 ∨ t.kind = 2 ∨ t.kind = 3 ∨ t.kind = 4 ∨ t.kind = 5 ∨ t.kind = 6 := by omega
 simp -implicitDefEqProofs only [go_sem, e1, e2, e3, e4]
 have ha : bds frmH.length [enc t, .ref 0 0] := by simp [bds, bd, frmH, go_sem]
 rcases hk with hk | hk | hk | hk | hk | hk
 focus
  simp -implicitDefEqProofs only [go_sem, hk, cS]
  refine ⟨by decide, ?_⟩
  simp -implicitDefEqProofs only [go_sem, Int.reduceToNat, Nat.reduceMul]
  refine dN hC (eB (h1 := frmH) (by simp [bd]) ha eZ (f283 t hk) _) ?_
 rotate_left
 focus
  simp -implicitDefEqProofs only [go_sem, hk, cS]
  refine ⟨by decide, ?_⟩
  simp -implicitDefEqProofs only [go_sem, Int.reduceToNat, Nat.reduceMul]
  refine dN hC (eB (h1 := frmH) (by simp [bd]) ha eZ (f284 t hk) _) ?_
 rotate_left
 focus
  simp -implicitDefEqProofs only [go_sem, hk, cS]
  refine ⟨by decide, ?_⟩
  simp -implicitDefEqProofs only [go_sem, Int.reduceToNat, Nat.reduceMul]
  refine dN hC (eB (h1 := frmH) (by simp [bd]) ha eZ (f285 t hs1 hk) _) ?_
 rotate_left
 focus
  simp -implicitDefEqProofs only [go_sem, hk, cS]
  refine ⟨by decide, ?_⟩
  simp -implicitDefEqProofs only [go_sem, Int.reduceToNat, Nat.reduceMul]
  refine dN hC (eB (h1 := frmH) (by simp [bd]) ha eZ (f287 t hk) _) ?_
 rotate_left
 focus
  simp -implicitDefEqProofs only [go_sem, hk, cS]
  refine ⟨by decide, ?_⟩
  simp -implicitDefEqProofs only [go_sem, Int.reduceToNat, Nat.reduceMul]
  refine dN hC (eB (h1 := frmH) (by simp [bd]) ha eZ (f288 t hs1 hk) _) ?_
 rotate_left
 focus
  simp -implicitDefEqProofs only [go_sem, hk, cS]
  refine ⟨by decide, ?_⟩
  simp -implicitDefEqProofs only [go_sem, Int.reduceToNat, Nat.reduceMul]
  refine dN hC (eB (h1 := frmH) (by simp [bd]) ha eZ (f289 t hk) _) ?_
 rotate_left
 all_goals
  cases hn : t.nodeOk with
  | false =>
   have hb := bad (fun h => by have := h.1; rw [bC, hn] at this; cases this)
   simp -implicitDefEqProofs only [go_sem, w1, frmH]
   exact dM (h1 := frmH) (by simp [hb, go_sem]) (by simp [go_sem]) dV
  | true =>
   simp -implicitDefEqProofs only [go_sem, frmH]
   refine eN hC (fun j => nodesOks (t.l.take j) = true /\ (deeps (t.l.take j) : Int) <= deep - 1 /\ (1 + sizes (t.l.take j) : Int) <= left) (fun j => [(42, .i j), (9, .i (1 + sizes (t.l.take j) : Nat))]) [41, 40, 7, 4, 1, 2] t.l.length ⟨rfl, by simp [deeps]; omega, by simp [sizes]; omega⟩ ?_ ?_
   ·refine Wk.slots (by simp) ?_ ?_ <;> simp [go_sem, sizes]
   ·rintro j hj ⟨hI1, hI2, hI3⟩
    simp -implicitDefEqProofs only [go_sem]
    refine aK (fun hlt => ?_) (fun hlt => ?_)
    ·have hlt := aM hlt
     have g1 := bK hlt
     have g2 := cD t.l (j + 1)
     have g3 := cN hlt
     have g4 := jU hlt
     have g5 := iW hlt
     have w2 : IntKind.i64.wrap (left - ((1 + sizes (t.l.take j) : Nat) : Int)) = left - ((1 + sizes (t.l.take j) : Nat) : Int) := aP _ (by omega)
     have w3 : IntKind.i64.wrap (deep - 1) = deep - 1 := aP _ (by omega)
     simp -implicitDefEqProofs only [go_sem, hlt, aS, w2, w3]
     refine dN hC (eB (h1 := frmH) (by simp [bd]) (by simp [bds, bd, frmV, frmH, go_sem]) eZ (ih _ (List.getElem_mem hlt) (bJ hs2 _ (List.getElem_mem hlt)) (by omega) (left - ((1 + sizes (t.l.take j) : Nat) : Int)) (deep - 1) (by omega) (by omega)) _) ?_
     by_cases hx : (t.l[j]).nodesOk = true /\ ((t.l[j]).deep : Int) <= deep - 1 /\ ((t.l[j]).size : Int) <= left - ((1 + sizes (t.l.take j) : Nat) : Int)
     ·have e5 : countR t.l[j] (left - ((1 + sizes (t.l.take j) : Nat) : Int)) (deep - 1) = (t.l[j]).size := by rw [countR, if_pos hx]
      obtain ⟨x1, x2, x3⟩ := hx
      have w4 : IntKind.i64.wrap (((1 + sizes (t.l.take j) : Nat) : Int) + (t.l[j]).size) = ((1 + sizes (t.l.take (j + 1)) : Nat) : Int) := by rw [aP _ (by omega)]; omega
      have e6 : decide (((1 + sizes (t.l.take (j + 1)) : Nat) : Int) > left) = false := by simp; omega
      have w5 : IntKind.i64.wrap ((j : Int) + 1) = ((j + 1 : Nat) : Int) := by rw [aP _ (by omega)]; omega
      simp -implicitDefEqProofs only [go_sem, e5, w4, e6, w5, frmH]
      refine ⟨⟨by rw [g5, hI1, x1]; rfl, by omega, by omega⟩, Wk.slots (by simp) ?_ ?_⟩ <;> simp [go_sem]
     ·have e5 : countR t.l[j] (left - ((1 + sizes (t.l.take j) : Nat) : Int)) (deep - 1) = left - ((1 + sizes (t.l.take j) : Nat) : Int) + 1 := by rw [countR, if_neg hx]
      have w4 : IntKind.i64.wrap (((1 + sizes (t.l.take j) : Nat) : Int) + (left - ((1 + sizes (t.l.take j) : Nat) : Int) + 1)) = left + 1 := by rw [aP _ (by omega)]; omega
      have e6 : decide (left + 1 > left) = true := by simp; omega
      have hb := bad (by
       rintro ⟨y1, y2, y3⟩
       rw [bC, hn] at y1
       have := lG (List.getElem_mem hlt)
       exact hx ⟨fU (by simpa using y1) (List.getElem_mem hlt), by omega, by omega⟩)
      simp -implicitDefEqProofs only [go_sem, e5, w4, e6, w1, frmH]
      exact dM (h1 := frmH) (by simp [hb, go_sem]) (by simp [go_sem]) dV
    ·have hge := aL hlt
     rw [aT hge] at hI1 hI2 hI3
     have hb : countR t left deep = t.size := by rw [countR, if_pos ⟨by rw [bC, hn, hI1]; rfl, by omega, by omega⟩]
     simp -implicitDefEqProofs only [go_sem, hlt, aT hge]
     refine dM (h1 := frmH) ?_ (by simp [go_sem]) dV
     simp [hb, go_sem, h5]
     omega
end Go.Rip
