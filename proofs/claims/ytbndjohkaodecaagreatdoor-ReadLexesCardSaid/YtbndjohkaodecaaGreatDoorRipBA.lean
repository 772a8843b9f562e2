/- What is a term: the count. -/
import Derived.Test.YtbndjohkaodecaaGreatDoorRipAZ
import Derived.Test.YtbndjohkaodecaaGreatDoorRipAR
namespace Go.Rip
open Go Go.Proofs
variable {GL : Glob}
theorem f283 (t : Tm) (hk : t.kind = 1) : PureOn (PC GL) 196 [enc t, .ref 0 0] (.b t.nodeOk) frmH := by
 have := h196 (GL := GL) t
 simpa [Tm.nodeOk, hk] using this
theorem f284 (t : Tm) (hk : t.kind = 2) : PureOn (PC GL) 197 [enc t, .ref 0 0] (.b t.nodeOk) frmH := by
 have := h197 (GL := GL) t
 simpa [Tm.nodeOk, hk] using this
theorem f285 (t : Tm) (hs : t.s.length < 2 ^ 30) (hk : t.kind = 3) : PureOn (PC GL) 198 [enc t, .ref 0 0] (.b t.nodeOk) frmH := by
 have := h198 (GL := GL) t hs
 simpa [Tm.nodeOk, hk] using this
theorem f287 (t : Tm) (hk : t.kind = 4) : PureOn (PC GL) 200 [enc t, .ref 0 0] (.b t.nodeOk) frmH := by
 have := h200 (GL := GL) t
 simpa [Tm.nodeOk, hk] using this
theorem f288 (t : Tm) (hs : t.s.length < 2 ^ 30) (hk : t.kind = 5) : PureOn (PC GL) 201 [enc t, .ref 0 0] (.b t.nodeOk) frmH := by
 have := h201 (GL := GL) t hs
 simpa [Tm.nodeOk, hk] using this
theorem f289 (t : Tm) (hk : t.kind = 6) : PureOn (PC GL) 202 [enc t, .ref 0 0] (.b t.nodeOk) frmH := by
 have := h202 (GL := GL) t
 simpa [Tm.nodeOk, hk] using this
def countR (t : Tm) (left deep : Int) : Int := if t.nodesOk = true /\ (t.deep : Int) <= deep /\ (t.size : Int) <= left then t.size else left + 1
theorem h160 (t : Tm) (hs : t.strs) (ht : t.size < 2 ^ 30) (left deep : Int) (hl : -(2 ^ 40) < left /\ left < 2 ^ 40) (hd : -(2 ^ 40) < deep /\ deep < 2 ^ 40) :
  PureOn (PC GL) 160 [enc t, .i left, .i deep, frmV 0] (.i (countR t left deep)) frmH := by
 induction t using wM generalizing left deep with
 | _ t ih =>
 have h4 := eG t.l
 have h5 := cO t
 have h6 := deep_eq t
 obtain ⟨hs1, hs2⟩ := (strs_eq t).1 hs
 have bad : ¬ (t.nodesOk = true /\ (t.deep : Int) <= deep /\ (t.size : Int) <= left) -> countR t left deep = left + 1 := fun h => by rw [countR, if_neg h]
 have w1 : IntKind.i64.wrap (left + 1) = left + 1 := aK _ (by omega)
 refine k160.call (by simp) ?_
 simp -implicitDefEqProofs only [go_sem, c160, r160, frmH, frmV]
 by_cases c1 : deep < 1
 ·have hb := bad (by omega)
  have e1 := decide_eq_true c1
  simp -implicitDefEqProofs only [go_sem, e1, w1]
  exact cL (h1 := frmH) (by simp [hb, go_sem]) (by simp [go_sem]) dP
 have e1 := decide_eq_false c1
 by_cases c2 : left < 1
 ·have hb := bad (by omega)
  have e2 := decide_eq_true c2
  simp -implicitDefEqProofs only [go_sem, e1, e2, w1]
  exact cL (h1 := frmH) (by simp [hb, go_sem]) (by simp [go_sem]) dP
 have e2 := decide_eq_false c2
 by_cases c3 : t.kind < 1
 ·have hb := bad (fun h => by
   have := h.1
   rw [eY] at this
   simp only [Tm.nodeOk] at this
   repeat' (split at this; omega)
   simp at this)
  have e3 := decide_eq_true c3
  simp -implicitDefEqProofs only [go_sem, e1, e2, e3, w1]
  exact cL (h1 := frmH) (by simp [hb, go_sem]) (by simp [go_sem]) dP
 have e3 := decide_eq_false c3
 by_cases c4 : t.kind > 6
 ·have hb := bad (fun h => by
   have := h.1
   rw [eY] at this
   simp only [Tm.nodeOk] at this
   repeat' (split at this; omega)
   simp at this)
  have e4 := decide_eq_true c4
  simp -implicitDefEqProofs only [go_sem, e1, e2, e3, e4, w1]
  exact cL (h1 := frmH) (by simp [hb, go_sem]) (by simp [go_sem]) dP
 have e4 := decide_eq_false c4
 have hk : t.kind = 1 ∨ t.kind = 2 ∨ t.kind = 3 ∨ t.kind = 4 ∨ t.kind = 5 ∨ t.kind = 6 := by omega
 simp -implicitDefEqProofs only [go_sem, e1, e2, e3, e4]
 have ha : bds frmH.length [enc t, .ref 0 0] := by simp [bds, bd, frmH, go_sem]
 rcases hk with hk | hk | hk | hk | hk | hk
 focus
  simp -implicitDefEqProofs only [go_sem, hk, dI]
  refine ⟨by decide, ?_⟩
  simp -implicitDefEqProofs only [go_sem, Int.reduceToNat, Nat.reduceMul]
  refine bB hC (dX (h1 := frmH) (by simp [bd]) ha fF (f283 t hk) _) ?_
 rotate_left
 focus
  simp -implicitDefEqProofs only [go_sem, hk, dI]
  refine ⟨by decide, ?_⟩
  simp -implicitDefEqProofs only [go_sem, Int.reduceToNat, Nat.reduceMul]
  refine bB hC (dX (h1 := frmH) (by simp [bd]) ha fF (f284 t hk) _) ?_
 rotate_left
 focus
  simp -implicitDefEqProofs only [go_sem, hk, dI]
  refine ⟨by decide, ?_⟩
  simp -implicitDefEqProofs only [go_sem, Int.reduceToNat, Nat.reduceMul]
  refine bB hC (dX (h1 := frmH) (by simp [bd]) ha fF (f285 t hs1 hk) _) ?_
 rotate_left
 focus
  simp -implicitDefEqProofs only [go_sem, hk, dI]
  refine ⟨by decide, ?_⟩
  simp -implicitDefEqProofs only [go_sem, Int.reduceToNat, Nat.reduceMul]
  refine bB hC (dX (h1 := frmH) (by simp [bd]) ha fF (f287 t hk) _) ?_
 rotate_left
 focus
  simp -implicitDefEqProofs only [go_sem, hk, dI]
  refine ⟨by decide, ?_⟩
  simp -implicitDefEqProofs only [go_sem, Int.reduceToNat, Nat.reduceMul]
  refine bB hC (dX (h1 := frmH) (by simp [bd]) ha fF (f288 t hs1 hk) _) ?_
 rotate_left
 focus
  simp -implicitDefEqProofs only [go_sem, hk, dI]
  refine ⟨by decide, ?_⟩
  simp -implicitDefEqProofs only [go_sem, Int.reduceToNat, Nat.reduceMul]
  refine bB hC (dX (h1 := frmH) (by simp [bd]) ha fF (f289 t hk) _) ?_
 rotate_left
 all_goals
  cases hn : t.nodeOk with
  | false =>
   have hb := bad (fun h => by have := h.1; rw [eY, hn] at this; cases this)
   simp -implicitDefEqProofs only [go_sem, w1, frmH]
   exact cL (h1 := frmH) (by simp [hb, go_sem]) (by simp [go_sem]) dP
  | true =>
   simp -implicitDefEqProofs only [go_sem, frmH]
   refine eE hC (fun j => nodesOks (t.l.take j) = true /\ (deeps (t.l.take j) : Int) <= deep - 1 /\ (1 + sizes (t.l.take j) : Int) <= left) (fun j => [(42, .i j), (9, .i (1 + sizes (t.l.take j) : Nat))]) [41, 40, 7, 4, 1, 2] t.l.length ⟨rfl, by simp [deeps]; omega, by simp [sizes]; omega⟩ ?_ ?_
   ·refine Wk.slots (by simp) ?_ ?_ <;> simp [go_sem, sizes]
   ·rintro j hj ⟨hI1, hI2, hI3⟩
    simp -implicitDefEqProofs only [go_sem]
    refine bA (fun hlt => ?_) (fun hlt => ?_)
    ·have hlt := eJ hlt
     have g1 := kM hlt
     have g2 := iU t.l (j + 1)
     have g3 := iZ hlt
     have g4 := mT hlt
     have g5 := iP hlt
     have w2 : IntKind.i64.wrap (left - ((1 + sizes (t.l.take j) : Nat) : Int)) = left - ((1 + sizes (t.l.take j) : Nat) : Int) := aK _ (by omega)
     have w3 : IntKind.i64.wrap (deep - 1) = deep - 1 := aK _ (by omega)
     simp -implicitDefEqProofs only [go_sem, hlt, jS, w2, w3]
     refine bB hC (dX (h1 := frmH) (by simp [bd]) (by simp [bds, bd, frmV, frmH, go_sem]) fF (ih _ (List.getElem_mem hlt) (kW hs2 _ (List.getElem_mem hlt)) (by omega) (left - ((1 + sizes (t.l.take j) : Nat) : Int)) (deep - 1) (by omega) (by omega)) _) ?_
     by_cases hx : (t.l[j]).nodesOk = true /\ ((t.l[j]).deep : Int) <= deep - 1 /\ ((t.l[j]).size : Int) <= left - ((1 + sizes (t.l.take j) : Nat) : Int)
     ·have e5 : countR t.l[j] (left - ((1 + sizes (t.l.take j) : Nat) : Int)) (deep - 1) = (t.l[j]).size := by rw [countR, if_pos hx]
      obtain ⟨x1, x2, x3⟩ := hx
      have w4 : IntKind.i64.wrap (((1 + sizes (t.l.take j) : Nat) : Int) + (t.l[j]).size) = ((1 + sizes (t.l.take (j + 1)) : Nat) : Int) := by rw [aK _ (by omega)]; omega
      have e6 : decide (((1 + sizes (t.l.take (j + 1)) : Nat) : Int) > left) = false := by simp; omega
      have w5 : IntKind.i64.wrap ((j : Int) + 1) = ((j + 1 : Nat) : Int) := by rw [aK _ (by omega)]; omega
      simp -implicitDefEqProofs only [go_sem, e5, w4, e6, w5, frmH]
      refine ⟨⟨by rw [g5, hI1, x1]; rfl, by omega, by omega⟩, Wk.slots (by simp) ?_ ?_⟩ <;> simp [go_sem]
     ·have e5 : countR t.l[j] (left - ((1 + sizes (t.l.take j) : Nat) : Int)) (deep - 1) = left - ((1 + sizes (t.l.take j) : Nat) : Int) + 1 := by rw [countR, if_neg hx]
      have w4 : IntKind.i64.wrap (((1 + sizes (t.l.take j) : Nat) : Int) + (left - ((1 + sizes (t.l.take j) : Nat) : Int) + 1)) = left + 1 := by rw [aK _ (by omega)]; omega
      have e6 : decide (left + 1 > left) = true := by simp; omega
      have hb := bad (by
       rintro ⟨y1, y2, y3⟩
       rw [eY, hn] at y1
       have := pH (List.getElem_mem hlt)
       exact hx ⟨kE (by simpa using y1) (List.getElem_mem hlt), by omega, by omega⟩)
      simp -implicitDefEqProofs only [go_sem, e5, w4, e6, w1, frmH]
      exact cL (h1 := frmH) (by simp [hb, go_sem]) (by simp [go_sem]) dP
    ·have hge := eF hlt
     rw [eV hge] at hI1 hI2 hI3
     have hb : countR t left deep = t.size := by rw [countR, if_pos ⟨by rw [eY, hn, hI1]; rfl, by omega, by omega⟩]
     simp -implicitDefEqProofs only [go_sem, hlt, eV hge]
     refine cL (h1 := frmH) ?_ (by simp [go_sem]) dP
     simp [hb, go_sem, h5]
     omega
theorem call_fz {f : FuncId} {args args' : List AV} {v : AV} {h : List AObj} (hp : Pure (PC GL) f args' v) (e : fzs args = args') {R : ARes -> List AObj -> Prop} (hR : R (.val v) h) : PC GL (.fn f) args h R := by
 subst e
 exact ACall.fzArgs (ACall.mono _ _ _ _ _ (fun r h' e => by rw [e.1, e.2]; exact hR) (hp h))
mutual
theorem fzG_enc (φ : Nat -> Nat -> Nat -> AV) : ∀ t, fzG φ (enc t) = enc t
 | .mk k n s l => by simp only [enc, fzG, fzGs, pV φ l]
theorem pV (φ : Nat -> Nat -> Nat -> AV) : ∀ l, fzGs φ (encs l) = encs l
 | [] => rfl
 | t :: r => by simp only [encs, fzGs, fzG_enc φ t, pV φ r]
end
def termsOk (l : List Tm) : Bool := nodesOks l && (decide (deeps l <= 600) && decide (sizes l <= 4000))
theorem h113 (l : List Tm) (ht : sizes l < 2 ^ 30) (hs : strss l) : Pure (PC GL) 113 [.sl 4 (l.map enc)] (.i (if termsOk l then 0 else 3)) := by
 have h4 := eG l
 refine k113.pure (by simp) (by simp [go_sem]) (by simp [go_sem]) ?_
 simp -implicitDefEqProofs only [go_sem, c113, r113]
 refine h159 _ ?_
 simp -implicitDefEqProofs only [go_sem, frmH, frmV]
 refine eE hC (fun j => nodesOks (l.take j) = true /\ deeps (l.take j) <= 600 /\ sizes (l.take j) <= 4000) (fun j => [(11, .i j), (3, .i (4000 - sizes (l.take j)))]) [10, 9, 4, 2] l.length ⟨rfl, by simp [deeps], by simp [sizes]⟩ ?_ ?_
 ·refine Wk.slots (by simp) ?_ ?_ <;> simp [go_sem, sizes]
 ·rintro j hj ⟨hI1, hI2, hI3⟩
  simp -implicitDefEqProofs only [go_sem]
  refine bA (fun hlt => ?_) (fun hlt => ?_)
  ·have hlt := eJ hlt
   have g1 := kM hlt
   have g2 := iU l (j + 1)
   have g3 := iZ hlt
   have g4 := mT hlt
   have g5 := iP hlt
   simp -implicitDefEqProofs only [go_sem, hlt, jS]
   refine bB hC (dX (h1 := frmH) (by simp [bd]) (by simp [bds, bd, frmV, frmH, go_sem]) fF (h160 _ (kW hs _ (List.getElem_mem hlt)) (by omega) (4000 - (sizes (l.take j) : Int)) 600 (by omega) (by omega)) _) ?_
   simp -implicitDefEqProofs only [go_sem]
   by_cases hx : (l[j]).nodesOk = true /\ ((l[j]).deep : Int) <= 600 /\ ((l[j]).size : Int) <= 4000 - (sizes (l.take j) : Int)
   ·have e5 : countR l[j] (4000 - (sizes (l.take j) : Int)) 600 = (l[j]).size := by rw [countR, if_pos hx]
    obtain ⟨x1, x2, x3⟩ := hx
    have e6 : decide (((l[j]).size : Int) > 4000 - (sizes (l.take j) : Int)) = false := by simp; omega
    have w4 : IntKind.i64.wrap (4000 - (sizes (l.take j) : Int) - (l[j]).size) = 4000 - (sizes (l.take (j + 1)) : Int) := by rw [aK _ (by omega)]; omega
    have w5 : IntKind.i64.wrap ((j : Int) + 1) = ((j + 1 : Nat) : Int) := by rw [aK _ (by omega)]; omega
    simp -implicitDefEqProofs only [go_sem, e5, e6, w4, w5, frmH]
    refine ⟨⟨by rw [g5, hI1, x1]; rfl, by omega, by omega⟩, Wk.slots (by simp) ?_ ?_⟩ <;> simp [go_sem]
   ·have e5 : countR l[j] (4000 - (sizes (l.take j) : Int)) 600 = 4000 - (sizes (l.take j) : Int) + 1 := by rw [countR, if_neg hx]
    have e6 : decide (4000 - (sizes (l.take j) : Int) + 1 > 4000 - (sizes (l.take j) : Int)) = true := by simp; omega
    have hb : termsOk l = false := by
     rw [Bool.eq_false_iff]; intro h
     simp only [termsOk, Bool.and_eq_true, decide_eq_true_eq] at h
     have := pH (List.getElem_mem hlt)
     exact hx ⟨kE h.1 (List.getElem_mem hlt), by omega, by omega⟩
    simp -implicitDefEqProofs only [go_sem, e5, e6, frmH]
    refine aO ?_ ?_ <;> simp [go_sem, hb]
  ·have hge := eF hlt
   rw [eV hge] at hI1 hI2 hI3
   have hb : termsOk l = true := by simp [termsOk, hI1, hI2, hI3]
   simp -implicitDefEqProofs only [go_sem, hlt]
   refine aO ?_ ?_ <;> simp [go_sem, hb]
theorem h76 (t : Tm) (ht : t.size < 2 ^ 30) (hs : t.strs) : Pure (PC GL) 76 [enc t] (.i (if t.ok then 0 else 3)) := by
 have e : termsOk [t] = t.ok := by
  rw [Bool.eq_iff_iff]
  rw [termsOk, Tm.ok]
  simp only [Bool.and_eq_true, decide_eq_true_eq]
  simp only [nodesOks, deeps, sizes, Bool.and_true]
  constructor
  ·rintro ⟨a, b, c⟩; exact ⟨by omega, by omega, a⟩
  ·rintro ⟨a, b, c⟩; exact ⟨c, by omega, by omega⟩
 refine k76.pure (by simp) (by simp [go_sem]) (by simp [go_sem]) ?_
 simp -implicitDefEqProofs only [c76, r76, go_sem]
 simp -implicitDefEqProofs only [go_sem, dY]
 refine call_fz (h113 [t] (by simpa [sizes] using ht) (by simpa [strss] using hs)) ?_ ?_
 ·simp [fzs, fzGs, fzG, fzG_enc]
 simp -implicitDefEqProofs only [go_sem, e]
 refine aO ?_ ?_ <;> simp [go_sem]
end Go.Rip
namespace Go.Rip
open Go
def SL (l : List Lx) : Prop := ∀ x ∈ l, x.s.length < 2 ^ 30
theorem SL.tail {l : List Lx} (h : SL l) : SL l.tail := fun x hx => h x (List.mem_of_mem_tail hx)
theorem gL {c : UInt8} {t u : Tm × Int} {r r' : List Lx} {ns ns' : List Str} (h : some (want c t r ns) = some (.ok u r' ns')) : u = t /\ r' = r.tail /\ r.tail.length + 1 = r.length := by
 unfold want at h
 split at h
 ·rename_i hc
  cases h
  refine ⟨rfl, rfl, ?_⟩
  cases r with
  | nil => cases hc
  | cons x r => simp
 ·cases h
theorem mN {k n : Int} {s : Str} {l : List Tm} (hs : s.length < 2 ^ 30) (hl : strss l) : (Tm.mk k n s l).strs := ⟨hs, hl⟩
theorem iY : ∀ (ts : List Tm) (t : Tm), (listT ts t).size = sizes ts + ts.length + t.size
 | [], t => by simp [listT, sizes]
 | x :: r, t => by
  have := iY r t
  unfold listT at this ⊢
  simp only [List.foldr_cons, cellT, Tm.size, sizes, List.length_cons, this]
  omega
theorem jF : ∀ (ts : List Tm) (t : Tm), strss ts -> t.strs -> (listT ts t).strs
 | [], _, _, h => h
 | x :: r, t, hs, h => ⟨by decide, hs.1, jF r t hs.2 h, trivial⟩
structure Sz (f : Nat) : Prop where
 term : ∀ lim l ns t r' ns', SL l -> termF f lim l ns = some (.ok t r' ns') -> t.1.size + 2 * r'.length + 1 <= 2 * l.length /\ t.1.strs /\ SL r'
 loop : ∀ lim t p l ns u r' ns', SL l -> t.strs -> loopF f lim t p l ns = some (.ok u r' ns') -> u.1.size + 2 * r'.length <= t.size + 2 * l.length /\ u.1.strs /\ SL r'
 sev : ∀ l ns ts r' ns', SL l -> severalF f l ns = some (.ok ts r' ns') -> sizes ts + ts.length + 2 * r'.length <= 2 * l.length /\ strss ts /\ SL r'
 fst : ∀ lim l ns t r' ns', SL l -> firstF f lim l ns = some (.ok t r' ns') -> t.1.size + 2 * r'.length + 1 <= 2 * l.length /\ t.1.strs /\ SL r'
 brk : ∀ x l ns t r' ns', SL l -> bracketF f x l ns = some (.ok t r' ns') -> t.1.size + 2 * r'.length + 1 <= 2 * (l.length + 1) /\ t.1.strs /\ SL r'
 nam : ∀ lim x l ns t r' ns', x.s.length < 2 ^ 30 -> SL l -> namedF f lim x l ns = some (.ok t r' ns') -> t.1.size + 2 * r'.length + 1 <= 2 * (l.length + 1) /\ t.1.strs /\ SL r'
theorem iS {k n : Int} {s : Str} (h : s.length < 2 ^ 30) : (Tm.mk k n s []).strs := ⟨h, trivial⟩
theorem sz : ∀ f, Sz f
 | 0 => ⟨fun _ _ _ _ _ _ _ h => (by rw [termF] at h; cases h), fun _ _ _ _ _ _ _ _ _ _ h => (by rw [loopF] at h; cases h), fun _ _ _ _ _ _ h => (by rw [severalF] at h; cases h), fun _ _ _ _ _ _ _ h => (by rw [firstF] at h; cases h), fun _ _ _ _ _ _ _ h => (by rw [bracketF] at h; cases h), fun _ _ _ _ _ _ _ _ _ h => (by rw [namedF] at h; cases h)⟩
 | f + 1 => by
  have ih := sz f
  have s1 : ∀ {k n : Int} {s : Str}, (Tm.mk k n s []).size = 1 := rfl
  refine ⟨?_, ?_, ?_, ?_, ?_, ?_⟩
  ·intro lim l ns t r' ns' hl h
   rw [termF] at h
   cases h1 : firstF f lim l ns with
   | none => rw [h1] at h; cases h
   | some v =>
    rw [h1] at h
    cases v with
    | bad _ => cases h
    | ok x r1 ns1 =>
     obtain ⟨a, b, c⟩ := ih.fst _ _ _ _ _ _ hl h1
     obtain ⟨a', b', c'⟩ := ih.loop _ _ _ _ _ _ _ _ c b h
     exact ⟨by omega, b', c'⟩
  ·intro lim t p l ns u r' ns' hl ht h
   rw [loopF] at h
   cases hi : infAt l with
   | none => rw [hi] at h; cases h; exact ⟨Nat.le_refl _, ht, hl⟩
   | some v =>
    obtain ⟨s, op⟩ := v
    have hlt := nR hi
    have hs : s.length < 2 ^ 30 := by
     cases l with
     | nil => cases hi
     | cons x r =>
      rw [infAt] at hi
      split at hi
      ·cases ho : infixO x.s with
       | none => rw [ho] at hi; cases hi
       | some o => rw [ho] at hi; cases hi; exact hl x (by simp)
      ·cases hi
    rw [hi] at h
    simp only at h
    split at h
    ·cases h; exact ⟨Nat.le_refl _, ht, hl⟩
    ·cases h1 : termF f op.right l.tail ns with
     | none => rw [h1] at h; cases h
     | some v =>
      rw [h1] at h
      cases v with
      | bad _ => cases h
      | ok x r1 ns1 =>
       obtain ⟨a, b, c⟩ := ih.term _ _ _ _ _ _ hl.tail h1
       obtain ⟨a', b', c'⟩ := ih.loop _ _ _ _ _ _ _ _ c (mN hs (show strss [t, x.1] from ⟨ht, b, trivial⟩)) h
       simp only [Tm.size, sizes] at a'
       exact ⟨by omega, b', c'⟩
  ·intro l ns ts r' ns' hl h
   rw [severalF] at h
   cases h1 : termF f 999 l ns with
   | none => rw [h1] at h; cases h
   | some v =>
    rw [h1] at h
    cases v with
    | bad _ => cases h
    | ok x r1 ns1 =>
     obtain ⟨a, b, c⟩ := ih.term _ _ _ _ _ _ hl h1
     simp only at h
     split at h
     ·rename_i hc
      have hlt := rN hc
      cases h2 : severalF f r1.tail ns1 with
      | none => rw [h2] at h; cases h
      | some w =>
       rw [h2] at h
       cases w with
       | bad _ => cases h
       | ok us r2 ns2 =>
        obtain ⟨a', b', c'⟩ := ih.sev _ _ _ _ _ c.tail h2
        cases h
        simp only [sizes, List.length_cons]
        exact ⟨by omega, ⟨b, b'⟩, c'⟩
     ·cases h
      simp only [sizes, List.length_cons, List.length_nil]
      exact ⟨by omega, ⟨b, trivial⟩, c⟩
  ·intro lim l ns t r' ns' hl h
   cases l with
   | nil => rw [firstF] at h; cases h
   | cons x l =>
    have hx : x.s.length < 2 ^ 30 := hl x (by simp)
    have hr : SL l := hl.tail
    rw [firstF] at h
    split at h
    ·cases h; simp only [s1, List.length_cons]; exact ⟨by omega, iS (by decide), hr⟩
    split at h
    ·cases h; simp only [s1, List.length_cons]; exact ⟨by omega, iS hx, hr⟩
    split at h
    ·simp only [Option.some.injEq] at h
     unfold varP at h
     split at h
     ·cases h; simp only [s1, List.length_cons]; exact ⟨by omega, iS (by decide), hr⟩
     ·cases h; simp only [s1, List.length_cons]; exact ⟨by omega, iS (by decide), hr⟩
    split at h
    ·exact ih.brk _ _ _ _ _ _ hr h
    split at h
    ·exact ih.nam _ _ _ _ _ _ _ hx hr h
    ·cases h
  ·intro x l ns t r' ns' hl h
   rw [bracketF] at h
   split at h
   ·cases h1 : termF f 1200 l ns with
    | none => rw [h1] at h; cases h
    | some v =>
     rw [h1] at h
     cases v with
     | bad _ => cases h
     | ok y r1 ns1 =>
      obtain ⟨a, b, c⟩ := ih.term _ _ _ _ _ _ hl h1
      obtain ⟨rfl, rfl, e⟩ := gL h
      exact ⟨by simp only; omega, b, c.tail⟩
   split at h
   ·split at h
    ·cases h; have := dQ l; simp only [s1]; exact ⟨by omega, iS (by decide), hl.tail⟩
    ·cases h1 : severalF f l ns with
     | none => rw [h1] at h; cases h
     | some v =>
      rw [h1] at h
      cases v with
      | bad _ => cases h
      | ok y r1 ns1 =>
       obtain ⟨a, b, c⟩ := ih.sev _ _ _ _ _ hl h1
       obtain ⟨rfl, rfl, e⟩ := gL h
       exact ⟨by simp only [Tm.size]; omega, mN (by decide) b, c.tail⟩
   split at h
   ·split at h
    ·cases h; have := dQ l; simp only [nilT, s1]; exact ⟨by omega, iS (by decide), hl.tail⟩
    ·cases h1 : severalF f l ns with
     | none => rw [h1] at h; cases h
     | some v =>
      rw [h1] at h
      cases v with
      | bad _ => cases h
      | ok y r1 ns1 =>
       obtain ⟨a, b, c⟩ := ih.sev _ _ _ _ _ hl h1
       simp only at h
       split at h
       ·rename_i hc
        have hlt := rN hc
        cases h2 : termF f 999 r1.tail ns1 with
        | none => rw [h2] at h; cases h
        | some w =>
         rw [h2] at h
         cases w with
         | bad _ => cases h
         | ok z r2 ns2 =>
          obtain ⟨a', b', c'⟩ := ih.term _ _ _ _ _ _ c.tail h2
          obtain ⟨rfl, rfl, e⟩ := gL h
          exact ⟨by simp only [iY]; omega, jF _ _ b b', c'.tail⟩
       ·obtain ⟨rfl, rfl, e⟩ := gL h
        exact ⟨by simp only [iY, nilT, s1]; omega, jF _ _ b (iS (by decide)), c.tail⟩
   ·cases h
  ·intro lim x l ns t r' ns' hx hl h
   rw [namedF] at h
   split at h
   ·cases h1 : severalF f l.tail ns with
    | none => rw [h1] at h; cases h
    | some v =>
     rw [h1] at h
     cases v with
     | bad _ => cases h
     | ok y r1 ns1 =>
      obtain ⟨a, b, c⟩ := ih.sev _ _ _ _ _ hl.tail h1
      obtain ⟨rfl, rfl, e⟩ := gL h
      have := dQ l
      exact ⟨by simp only [Tm.size]; omega, mN hx b, c.tail⟩
   split at h
   ·cases h; simp only [s1]; exact ⟨by omega, iS hx, hl⟩
   split at h
   ·cases h; have := dQ l; simp only [s1]; exact ⟨by omega, iS (by decide), hl.tail⟩
   cases hp : prefixO x.s with
   | none =>
    rw [hp] at h
    simp only at h
    split at h
    ·cases h
    ·cases h; simp only [s1]; exact ⟨by omega, iS hx, hl⟩
   | some op =>
    rw [hp] at h
    simp only at h
    split at h
    ·cases h
    cases h1 : termF f op.right l ns with
    | none => rw [h1] at h; cases h
    | some v =>
     rw [h1] at h
     cases v with
     | bad _ => cases h
     | ok y r1 ns1 =>
      obtain ⟨a, b, c⟩ := ih.term _ _ _ _ _ _ hl h1
      cases h
      simp only [Tm.size, sizes]
      exact ⟨by omega, mN hx ⟨b, trivial⟩, c⟩
theorem stp_lex {l : Str} {d n : Int} {t : Str} {k : Nat} (h : stp l = .lex d n t k) : (0 <= n /\ n <= 2147483647) /\ t.length <= 255 := by
 cases l with
 | nil => cases h
 | cons c r =>
  rw [stp] at h
  split at h
  ·cases h
  split at h
  ·cases h
  split at h
  ·split at h <;> cases h
  split at h
  ·unfold stpNum at h
   split at h
   ·cases h
   ·rename_i hn
    cases h
    simp at hn
    exact ⟨by omega, by simp⟩
  split at h
  ·unfold stpWord at h
   split at h
   ·cases h
   ·rename_i hn
    cases h
    exact ⟨by omega, by simp; omega⟩
  split at h
  ·unfold stpWord at h
   split at h
   ·cases h
   ·rename_i hn
    cases h
    exact ⟨by omega, by simp; omega⟩
  split at h
  ·unfold stpSym at h
   split at h
   ·cases h
   ·rename_i hn
    cases h
    exact ⟨by omega, by simp; omega⟩
  split at h
  ·unfold stpQuoted at h
   split at h
   ·split at h
    ·cases h
    ·rename_i hn
     cases h
     exact ⟨by omega, by omega⟩
   ·cases h
  split at h
  ·unfold stpStr at h
   split at h
   ·split at h
    ·cases h
    ·rename_i hn
     cases h
     exact ⟨by omega, by omega⟩
   ·cases h
  split at h
  ·cases h
   exact ⟨by omega, by simp⟩
  ·cases h
theorem oM : ∀ (m : Nat) (l : Str) (a : Nat) (ls : List Lx), l.length <= m -> lexL l a = .ok ls -> (∀ x ∈ ls, (0 <= x.n /\ x.n <= 2147483647) /\ x.s.length <= 255) /\ ls.length <= l.length
 | 0, l, a, ls, hm, h => by
  have : l = [] := List.eq_nil_of_length_eq_zero (by omega)
  subst this
  rw [kD] at h
  cases h
  exact ⟨by simp, by simp⟩
 | m + 1, l, a, ls, hm, h => by
  by_cases hl : l = []
  ·subst hl
   rw [kD] at h
   cases h
   exact ⟨by simp, by simp⟩
  ·have hs := dS hl
   rw [eM hl] at h
   cases hst : stp l with
   | bad => rw [hst] at h; cases h
   | skip k =>
    rw [hst] at h hs
    simp only [Stp.len] at hs
    have := oM m _ _ _ (by simp; omega) h
    exact ⟨this.1, by have := this.2; simp at this; omega⟩
   | lex d n t k =>
    rw [hst] at h hs
    simp only [Stp.len] at hs
    simp only at h
    cases hr : lexL (l.drop k) (a + k) with
    | error e => rw [hr] at h; cases h
    | ok r =>
     rw [hr] at h
     cases h
     have := oM m _ _ _ (by simp; omega) hr
     refine ⟨fun x hx => ?_, by have := this.2; simp at this ⊢; omega⟩
     rcases List.mem_cons.1 hx with rfl | hx
     ·exact stp_lex hst
     ·exact this.1 x hx
end Go.Rip
namespace Go.Rip
open Go Go.Proofs
set_option maxRecDepth 100000
variable {GL : Glob}
attribute [local irreducible] Pure
theorem lQ {GL : Glob} {m : Nat} {x y : AV} {h : List AObj} {R : ARes -> List AObj -> Prop} (hm : m <= h.length) (hf : R (.val y) h) (hw : Wd x y) : ∃ y h', Wk GL m [(0, x)] h [(0, y)] h' /\ R (.val y) h' := ⟨y, h, Wk.pickW hm ⟨hw, trivial⟩, hf⟩
theorem Wd.w {x y : AV} (hx : x.cells = [x]) (hy : y.cells = [y]) (h : wkr x y) : Wd x y := Wd.one hx hy fun _ _ _ _ _ k => Rep.wk _ _ _ h k
theorem tF {k n : Int} {s : Str} {l : List Tm} {v : AV} (h : Wd v (.sl 4 (l.map enc))) : Wd (.agg [.v (.int .i64 k), .v (.int .i64 n), .str s, v]) (enc (.mk k n s l)) := by
 rw [wN]
 exact Wd.agg ⟨Wd.rfl _, Wd.rfl _, Wd.rfl _, h, trivial⟩
theorem fH {k n : Int} {s : Str} : Wd (.agg [.v (.int .i64 k), .v (.int .i64 n), .str s, .v (.slice none 0 0)]) (enc (.mk k n s [])) := tF Wd.nil
theorem cR {a b c : AV} (h : Wd a b) : Wd (.tup [a, c]) (.tup [b, c]) := Wd.tup ⟨h, Wd.rfl _, trivial⟩
theorem RdOut.ok {α : Type} {o : α -> AV} {ls : List Lx} {e k q : Nat} {h h' : List AObj} {t : α} {rest : List Lx} {ns' : List Str} (hk : Keep (RdK k) h h') (hd : ls.drop q = rest) (hq : q <= ls.length) (hn : ns'.length <= q) (hR : RdrAt ls q e ns' k h') : RdOut o ls e k h (.ok t rest ns') (.val (o t)) h' := ⟨hk, rfl, q, hd, hq, hn, hR⟩
theorem RdOut.bad {α : Type} {o : α -> AV} {ls : List Lx} {e k : Nat} {h h' : List AObj} {rest : List Lx} (hk : Keep (RdK k) h h') : RdOut o ls e k h (.bad rest : PR α) (.panic (wrongV 21 (muchAt rest e))) h' := ⟨hk, rfl⟩
theorem RdOut.after {α β : Type} {o : α -> AV} {o' : β -> AV} {ls : List Lx} {e k : Nat} {h h1 h' : List AObj} {rest : List Lx} {x : ARes} (hk : Keep (RdK k) h h1) (hr : RdOut o ls e k h1 (.bad rest : PR α) x h') : RdOut o' ls e k h (.bad rest : PR β) x h' := ⟨hk.trans hr.1, hr.2⟩
theorem Keep.turnK {K : Nat -> AObj -> Prop} {h h' : List AObj} (a : Keep K h h') {b : Nat} (o : AObj) (hb : h.length <= b) : Keep K h (h'.set b o) :=
 ⟨by have := a.1; simpa using this, fun i x hi hn => by have := aL hi; rw [aE (by omega)]; exact a.2 i x hi hn⟩
theorem Keep.more {K : Nat -> AObj -> Prop} {h h' : List AObj} (a : Keep K h h') (l : List AObj) : Keep K h (h' ++ l) := a.trans (Keep.app _ _ _)
theorem RdrAt.other {ls : List Lx} {p e : Nat} {ns : List Str} {k b : Nat} {h : List AObj} {x : AObj} (hs : RdrAt ls p e ns k h) (hb : h[b]? = some x) (hk : b ≠ k) (h9 : x ≠ .spare 9 1) (hm : ∀ ks vs, x ≠ AObj.map ks vs) (o : AObj) : RdrAt ls p e ns k (h.set b o) := by
 obtain ⟨nv, nm, im, pm, hk', h1, ⟨m, hm1, hm2⟩, ⟨m3, h3, h3'⟩, ⟨m4, h4, h4'⟩, h5, h6⟩ := hs
 exact ⟨nv, nm, im, pm, by rw [aE hk]; exact hk', h1.imp id fun ⟨c, e, hc⟩ => ⟨c, e, by rw [aE (aU hb hc h9)]; exact hc⟩,
  ⟨m, by rw [aE (aU hb hm1 (hm _ _))]; exact hm1, hm2⟩, ⟨m3, by rw [aE (aU hb h3 (hm _ _))]; exact h3, h3'⟩, ⟨m4, by rw [aE (aU hb h4 (hm _ _))]; exact h4, h4'⟩, h5, h6⟩
theorem RdrAt.lt {ls : List Lx} {p e : Nat} {ns : List Str} {k : Nat} {h : List AObj} (hs : RdrAt ls p e ns k h) : k < h.length := by
 obtain ⟨nv, nm, im, pm, hk, _⟩ := hs
 exact aL hk
theorem Keep.rd {k b : Nat} {h h' : List AObj} {x : AObj} (a : Keep (RdK k) h h') (hb : h[b]? = some x) (hk : b ≠ k) (h9 : x ≠ .spare 9 1) (hm : ∀ ks vs, x ≠ AObj.map ks vs) : h'[b]? = some x :=
 a.2 b x hb fun c => c.elim hk fun c => c.elim h9 fun ⟨ks, vs, c⟩ => hm ks vs c
def CellT (c : Nat) (t : Tm) (h : List AObj) : Prop := ∃ v, h[c]? = some (.cells 31 [.v (.int .i64 t.kind), .v (.int .i64 t.n), .str t.s, v]) /\ Wd v (.sl 4 (t.l.map enc))
theorem CellT.rd {c k : Nat} {t : Tm} {h h' : List AObj} (hc : CellT c t h) (a : Keep (RdK k) h h') (hk : c ≠ k) : CellT c t h' := by
 obtain ⟨v, h1, h2⟩ := hc
 exact ⟨v, a.rd h1 hk (by simp) (by simp), h2⟩
theorem pT {ls rest : List Lx} {q : Nat} {c : UInt8} (h : ls.drop q = rest) (hs : isSg c rest = true) : q < ls.length := by
 rcases Nat.lt_or_ge q ls.length with g | g
 ·exact g
 ·rw [List.drop_of_length_le g] at h; subst h; cases hs
theorem eH {ls rest : List Lx} {q : Nat} (h : ls.drop q = rest) : ls.drop (q + 1) = rest.tail := by rw [<- h, List.tail_drop]
def endB : Option UInt8 -> Str
 | none => []
 | some c => [c]
def endO {α : Type} : Option UInt8 -> PR α -> PR α
 | none, r => r
 | some c, .ok x rest ns => if isSg c rest then .ok x rest.tail ns else .bad rest
 | some _, .bad rest => .bad rest
def List190E (GL : Glob) (f : Nat) : Prop := ∀ (en : Option UInt8) (ls : List Lx) (p e : Nat) (ns : List Str) (k : Nat) (h : List AObj) (r : PR (List Tm)), LsOk ls -> p <= ls.length -> ns.length <= p -> RdrAt ls p e ns k h -> severalF f (ls.drop p) ns = some r ->
 AC Tryz.prog GL (.fn 190) [.ref k 0, .str (endB en)] h (RdOut (fun ts => .sl 4 (ts.map enc)) ls e k h (endO en r))
theorem cQ {α : Type} {GL : Glob} {m : Nat} {o : α -> AV} {ls : List Lx} {e k q : Nat} {h h' : List AObj} {x : AV} {t : α} {rest : List Lx} {ns' : List Str} (hm : m <= h'.length) (hw : Wd x (o t)) (hk : Keep (RdK k) h h') (hd : ls.drop q = rest) (hq : q <= ls.length) (hn : ns'.length <= q) (hR : RdrAt ls q e ns' k h') :
  ∃ y h'', Wk GL m [(0, x)] h' [(0, y)] h'' /\ RdOut o ls e k h (.ok t rest ns') (.val y) h'' := ⟨o t, h', Wk.pickW hm ⟨hw, trivial⟩, hk, rfl, q, hd, hq, hn, hR⟩
def Fst106 (GL : Glob) (f : Nat) : Prop := ∀ (lim : Int) (ls : List Lx) (p e : Nat) (ns : List Str) (k : Nat) (h : List AObj) (r : PR (Tm × Int)), LsOk ls -> p <= ls.length -> ns.length <= p -> RdrAt ls p e ns k h -> firstF f lim (ls.drop p) ns = some r ->
 AC Tryz.prog GL (.fn 106) [.ref k 0, .i lim] h (RdOut (fun t => .tup [enc t.1, .i t.2]) ls e k h r)
def Brk148 (GL : Glob) (f : Nat) : Prop := ∀ (ls : List Lx) (p e : Nat) (ns : List Str) (k : Nat) (h : List AObj) (r : PR (Tm × Int)) (hp : p < ls.length), LsOk ls -> ns.length <= p -> RdrAt ls p e ns k h -> bracketF f ls[p] (ls.drop (p + 1)) ns = some r ->
 AC Tryz.prog GL (.fn 148) [.ref k 0, .str ls[p].s] h (RdOut (fun t => enc t.1) ls e k h r)
def Nam149 (GL : Glob) (f : Nat) : Prop := ∀ (lim : Int) (ls : List Lx) (p e : Nat) (ns : List Str) (k : Nat) (h : List AObj) (r : PR (Tm × Int)) (hp : p < ls.length), LsOk ls -> ns.length <= p -> RdrAt ls p e ns k h -> namedF f lim ls[p] (ls.drop (p + 1)) ns = some r ->
 AC Tryz.prog GL (.fn 149) [.ref k 0, encLx ls[p], .i lim] h (RdOut (fun t => .tup [enc t.1, .i t.2]) ls e k h r)
theorem brk_prio {f : Nat} {x : Lx} {r : List Lx} {ns : List Str} {t : Tm × Int} {r' : List Lx} {ns' : List Str} (h : bracketF f x r ns = some (.ok t r' ns')) : t.2 = 0 := by
 have hw : ∀ (c : UInt8) (u : Tm) (r1 : List Lx) (n1 : List Str), some (want c (u, 0) r1 n1) = some (PR.ok t r' ns') -> t.2 = 0 := fun c u r1 n1 h => by
  unfold want at h
  split at h
  ·cases h; rfl
  ·cases h
 cases f with
 | zero => rw [bracketF] at h; cases h
 | succ f =>
  rw [bracketF] at h
  split at h
  ·cases h1 : termF f 1200 r ns with
   | none => rw [h1] at h; cases h
   | some v =>
    rw [h1] at h
    cases v with
    | bad _ => cases h
    | ok a b c => exact hw _ _ _ _ h
  split at h
  ·split at h
   ·cases h; rfl
   ·cases h1 : severalF f r ns with
    | none => rw [h1] at h; cases h
    | some v =>
     rw [h1] at h
     cases v with
     | bad _ => cases h
     | ok a b c => exact hw _ _ _ _ h
  split at h
  ·split at h
   ·cases h; rfl
   ·cases h1 : severalF f r ns with
    | none => rw [h1] at h; cases h
    | some v =>
     rw [h1] at h
     cases v with
     | bad _ => cases h
     | ok a b c =>
      simp only at h
      split at h
      ·cases h2 : termF f 999 b.tail c with
       | none => rw [h2] at h; cases h
       | some w =>
        rw [h2] at h
        cases w with
        | bad _ => cases h
        | ok _ _ _ => exact hw _ _ _ _ h
      ·exact hw _ _ _ _ h
  ·cases h
theorem varP_len {s : Str} {r r' : List Lx} {ns ns' : List Str} {t : Tm × Int} (h : varP s r ns = .ok t r' ns') : ns'.length <= ns.length + 1 := by
 unfold varP at h
 split at h
 ·cases h; omega
 ·cases h; simp
def restF (g : Nat) (l : List Lx) (ns : List Str) : Option (PR (List Tm)) := if isSg 44 l then severalF g l.tail ns else some (.ok [] l ns)
def glue (a : List Tm) : PR (List Tm) -> PR (List Tm)
 | .ok ts r ns => .ok (a ++ ts) r ns
 | .bad r => .bad r
theorem glue_glue (a b : List Tm) (r : PR (List Tm)) : glue a (glue b r) = glue (a ++ b) r := by cases r <;> simp [glue]
theorem gB {g : Nat} {l : List Lx} {ns : List Str} {rr : PR (List Tm)} (h : severalF (g + 1) l ns = some rr) : ∃ v, termF g 999 l ns = some v /\ match v with
  | .bad x => rr = .bad x
  | .ok t r1 ns1 => ∃ r2, restF g r1 ns1 = some r2 /\ rr = glue [t.1] r2 := by
 rw [severalF] at h
 cases hv : termF g 999 l ns with
 | none => rw [hv] at h; cases h
 | some v =>
  rw [hv] at h
  refine ⟨v, rfl, ?_⟩
  cases v with
  | bad x => cases h; rfl
  | ok t r1 ns1 =>
   simp only at h ⊢
   unfold restF
   rcases hc : isSg 44 r1 with _ | _
   ·rw [hc, if_neg (by simp)] at h
    cases h
    exact ⟨_, rfl, rfl⟩
   ·rw [hc, if_pos rfl] at h
    rw [if_pos rfl]
    cases h2 : severalF g r1.tail ns1 with
    | none => rw [h2] at h; cases h
    | some w =>
     rw [h2] at h
     refine ⟨w, rfl, ?_⟩
     cases w with
     | bad x => cases h; rfl
     | ok ts r' ns' => cases h; rfl
theorem h190 {f : Nat} (H : ∀ g, g < f -> Term64 GL g) : List190E GL f := by
 intro en ls p e ns k h r hl hp hns hs hr
 have hl0 := hl.1
 obtain ⟨f', rfl⟩ : ∃ f', f = f' + 1 := by
  cases f with
  | zero => rw [severalF] at hr; cases hr
  | succ f => exact ⟨_, rfl⟩
 obtain ⟨v, hv, hm⟩ := gB hr
 refine k190.call (by simp) ?_
 simp -implicitDefEqProofs only [go_sem, c190, r190]
 refine aJ hC (H f' (by omega) 999 ls p e ns k h v hl hp hns hs hv) fun x h1 ho => ?_
 cases v with
 | bad rest =>
  obtain ⟨o1, rfl⟩ := ho
  subst hm
  simp -implicitDefEqProofs only [go_sem]
  exact aP o1.1 (by cases en <;> exact RdOut.bad o1)
 | ok t r1 ns1 =>
  obtain ⟨o1, rfl, q, o2, o3, o4, o5⟩ := ho
  obtain ⟨rr, hrr, rfl⟩ := hm
  have hq1 : p < q := by
   have := (ln f').term _ _ _ _ hv
   have t1 : r1.length < (ls.drop p).length := this
   rw [<- o2] at t1
   simp at t1
   omega
  simp -implicitDefEqProofs only [go_sem]
  refine cK hC (fun _ (s : List Tm × Nat) => [(0, .ref k 0), (1, .str (endB en)), (5, .own s.2 4 (s.1.map enc))])
   (fun j s h' => h.length <= s.2 /\ h'[s.2]? = some (.spare 31 4) /\ Keep (RdK k) h h' /\ ∃ q ns' g r2, j < q /\ q <= ls.length /\ s.1.length <= q /\ ns'.length <= q /\ RdrAt ls q e ns' k h' /\ g <= f' /\ restF g (ls.drop q) ns' = some r2 /\ glue [t.1] rr = glue s.1 r2) ls.length
   ⟨([t.1], h1.length), _, Wk.pick (by simp; exact Nat.le_trans o1.1 (by simp)) (by simp [go_sem]), o1.1, by rw [aZ (by simp)]; simp, o1.more _, q, ns1, f', rr, by omega, o3, by simp; omega, o4, o5.app _, Nat.le_refl _, by rw [o2]; exact hrr, rfl⟩ fun j s h2 hj ⟨s1, s2, s3, q2, ns2, g, r2, s4, s5, s6, s7, s8, s9, s10, s11⟩ => ?_
  obtain ⟨acc, b⟩ := s
  simp only at s1 s2 s3 s6 s11
  have hbk : b ≠ k := by
   have := hs.lt
   omega
  have hrc := s8.rc
  simp -implicitDefEqProofs only [go_sem]
  refine bB hC (h189 44 (by omega) hrc) ?_
  rcases hc : isSg 44 (ls.drop q2) with _ | _
  ·unfold restF at s10
   rw [hc, if_neg (by simp)] at s10
   cases s10
   rw [s11]
   have hw : Wd (.own b 4 (acc.map enc)) (.sl 4 (acc.map enc)) := Wd.fz (Wds.rfl _)
   cases en with
   | none =>
    have zc : (([] : Str) == []) = true := rfl
    simp -implicitDefEqProofs only [go_sem, endB, zc]
    simp only [glue, List.append_nil]
    exact cQ s3.1 hw s3 rfl s5 s7 s8
   | some c =>
    have zc : (([c] : Str) == []) = false := rfl
    simp -implicitDefEqProofs only [go_sem, endB, zc]
    refine aJ hC (h188 c (by omega) s8) fun x h3 ⟨k3, hb⟩ => ?_
    simp only [glue, List.append_nil, endO]
    rcases hc2 : isSg c (ls.drop q2) with _ | _
    ·rw [hc2, if_neg (by simp)] at hb
     subst hb
     simp -implicitDefEqProofs only [go_sem]
     exact aP (s3.trans k3).1 (RdOut.bad (s3.trans k3))
    ·rw [hc2, if_pos rfl] at hb
     obtain ⟨rfl, s8'⟩ := hb
     have := pT rfl hc2
     simp -implicitDefEqProofs only [go_sem]
     exact cQ (s3.trans k3).1 hw (s3.trans k3) (eH rfl) (by omega) (by omega) s8'
  ·have hq := pT rfl hc
   unfold restF at s10
   rw [hc, if_pos rfl] at s10
   obtain ⟨g', rfl⟩ : ∃ g', g = g' + 1 := by
    cases g with
    | zero => rw [severalF] at s10; cases s10
    | succ g => exact ⟨_, rfl⟩
   obtain ⟨v3, hv3, hm3⟩ := gB s10
   obtain ⟨nv, nm, im, pm, hR⟩ := s8
   have hk := hR.1
   have hk_g := fun l => aF (l := l) hk
   have hk_s := fun o l => aG (l := l) hk o
   have hk_e := fun o l => aD (o := o) (l := l) hk
   have hk_h := fun o => aH (o := o) hk
   have w1 : IntKind.i64.wrap ((q2 : Int) + 1) = ((q2 + 1 : Nat) : Int) := by rw [aK _ (by omega)]; simp
   have hs1 : RdrAt ls (q2 + 1) e ns2 k (h2.set k (.cells 85 [.sl 5 (ls.map encLx), .i (q2 + 1 : Nat), .i e, nv, .mp nm, .mp im, .mp pm])) := ⟨nv, nm, im, pm, hR.to⟩
   have hk1 := hR.keep (q := q2 + 1)
   simp -implicitDefEqProofs only [go_sem, w1, hk]
   refine aJ hC (H g' (by omega) 999 ls (q2 + 1) e ns2 k _ v3 hl (by omega) (by omega) hs1 (by rw [eH rfl]; exact hv3)) fun x h3 ho => ?_
   cases v3 with
   | bad rest =>
    obtain ⟨p1, rfl⟩ := ho
    have p0 := (s3.trans hk1).trans p1
    simp only at hm3
    subst hm3
    rw [s11]
    simp -implicitDefEqProofs only [go_sem]
    exact aP p0.1 (by cases en <;> exact RdOut.bad p0)
   | ok t3 r3 ns3 =>
    obtain ⟨p1, rfl, q3, p2, p3, p4, p5⟩ := ho
    have p0 := (s3.trans hk1).trans p1
    obtain ⟨rr3, hrr3, rfl⟩ := hm3
    have hb3 : h3[b]? = some (.spare 31 4) := (hk1.trans p1).rd s2 hbk (by simp) (by simp)
    have hq3 : q2 + 1 < q3 := by
     have := (ln g').term _ _ _ _ hv3
     have t1 : r3.length < (ls.drop q2).tail.length := this
     rw [<- p2, <- eH rfl] at t1
     simp at t1
     omega
    have l3 := p0.1
    have hb3_g := fun l => aF (l := l) hb3
    have hb3_s := fun o l => aG (l := l) hb3 o
    have hb3_e := fun o l => aD (o := o) (l := l) hb3
    have hb3_h := fun o => aH (o := o) hb3
    simp -implicitDefEqProofs only [go_sem, List.append_assoc, hb3_g, hb3_s, List.length_map, List.length_singleton, dY]
    refine ⟨by omega, by omega, (acc ++ [t3.1], h3.length + 1), _, Wk.pick (by simp; omega) (by simp [go_sem]), by simp; omega, by rw [aZ (by simp)]; simp, (p0.turnK _ s1).more _, q3, ns3, g', rr3, by omega, p3, by simp; omega, p4, (p5.other hb3 hbk (by simp) (by simp) _).app _, by omega, by rw [p2]; exact hrr3, ?_⟩
    rw [s11, glue_glue]
theorem sS (l : List Tm) (t : Tm) {i : Nat} (hi : i < l.length) : listT (l.drop i) t = cellT (l.getD i default) (listT (l.drop (i + 1)) t) := by
 rw [List.drop_eq_getElem_cons hi, List.getD_eq_getElem?_getD, List.getElem?_eq_getElem hi]
 rfl
theorem qY {c : UInt8} {t : Tm × Int} {ls : List Lx} {q : Nat} {ns : List Str} (h : isSg c (ls.drop q) = true) : want c t (ls.drop q) ns = .ok t (ls.drop (q + 1)) ns := by
 unfold want
 rw [if_pos h, eH rfl]
theorem nL {c : UInt8} {t : Tm × Int} {r : List Lx} {ns : List Str} (h : isSg c r = false) : want c t r ns = .bad r := by
 unfold want
 rw [if_neg (by rw [h]; simp)]
theorem w188 {ls : List Lx} {p e k : Nat} {ns : List Str} {h : List AObj} (c : UInt8) (hl : ls.length < 2 ^ 40) (hs : RdrAt ls p e ns k h) (_hp : p <= ls.length) {R : ARes -> List AObj -> Prop}
  (hy : ∀ h', isSg c (ls.drop p) = true -> p < ls.length -> Keep (RdK k) h h' -> RdrAt ls (p + 1) e ns k h' -> R (.val (.tup [])) h')
  (hn : ∀ h', isSg c (ls.drop p) = false -> Keep (RdK k) h h' -> R (.panic (wrongV 21 (muchAt (ls.drop p) e))) h') : AC Tryz.prog GL (.fn 188) [.ref k 0, .str [c]] h R := by
 refine aJ hC (h188 c hl hs) fun x h' ⟨hk, hb⟩ => ?_
 rcases hc : isSg c (ls.drop p) with _ | _
 ·rw [hc, if_neg (by simp)] at hb
  subst hb
  exact hn h' hc hk
 ·rw [hc, if_pos rfl] at hb
  obtain ⟨rfl, h2⟩ := hb
  exact hy h' hc (pT rfl hc) hk h2
theorem h189g {ls : List Lx} {p e k : Nat} {ns : List Str} {h : List AObj} (c : UInt8) (hl : ls.length < 2 ^ 40) (hs : RdrAt ls p e ns k h) :
  AC Tryz.prog GL (.fn 189) [.ref k 0, .str [c]] h fun x h' => x = .val (.b (isSg c (ls.drop p))) /\ Keep (RdK k) h h' /\ RdrAt ls p e ns k h' := bB hC (h189 c hl hs.rc) ⟨rfl, Keep.refl _ _, hs⟩
theorem sev_len : ∀ (f : Nat) (l : List Lx) (ns : List Str) (ts : List Tm) (r : List Lx) (ns' : List Str), severalF f l ns = some (.ok ts r ns') -> ts.length <= l.length
 | 0, _, _, _, _, _, h => by rw [severalF] at h; cases h
 | f + 1, l, ns, ts, r, ns', h => by
  obtain ⟨v, hv, hm⟩ := gB h
  have hs := (ln f).term _ _ _ _ hv
  cases v with
  | bad x => cases hm
  | ok t r1 ns1 =>
   have t1 : r1.length < l.length := hs
   obtain ⟨r2, h2, e⟩ := hm
   unfold restF at h2
   rcases hc : isSg 44 r1 with _ | _
   ·rw [hc, if_neg (by simp)] at h2
    cases h2
    cases e
    simp; omega
   ·rw [hc, if_pos rfl] at h2
    cases r2 with
    | bad x => cases e
    | ok ts2 r2 ns2 =>
     have := sev_len f _ _ _ _ _ h2
     cases e
     simp at this ⊢; omega
theorem h148 {f : Nat} (ht : Term64 GL f) (hli : List190E GL f) : Brk148 GL (f + 1) := by
 intro ls p e ns k h r hpl hl hns hs hr
 have hl0 := hl.1
 have hs0 := hs
 have hrc := hs.rc
 have hd := bW hpl
 obtain ⟨nv, nm, im, pm, hR⟩ := hs
 have hk := hR.1
 have hkl := aL hk
 refine k148.call (by simp) ?_
 rw [bracketF] at hr
 have nb : ∀ a b : Str, (a != b) = !(a == b) := fun _ _ => rfl
 have zc : ∀ s : Str, s = [40] ∨ s = [91] ∨ s = [123] ∨ ((s == [40]) = false /\ (s == [91]) = false /\ (s == [123]) = false) := fun s => by
  by_cases a : s = [40]
  ·exact .inl a
  by_cases b : s = [91]
  ·exact .inr (.inl b)
  by_cases c : s = [123]
  ·exact .inr (.inr (.inl c))
  exact .inr (.inr (.inr ⟨by simpa using a, by simpa using b, by simpa using c⟩))
 have w1 : IntKind.i64.wrap ((p : Int) + 1) = ((p + 1 : Nat) : Int) := by rw [aK _ (by omega)]; simp
 have hk' : ∀ l, (h ++ l)[k]? = some (.cells 85 [.sl 5 (ls.map encLx), .i p, .i e, nv, .mp nm, .mp im, .mp pm]) := fun l => aM hk
 have hR1 : ∀ l, Rdr ls p e ns nv nm im pm k (h ++ l) := fun l => by
  obtain ⟨_, h1, ⟨m, hm, hm2⟩, ⟨m3, h3, h3'⟩, ⟨m4, h4, h4'⟩, h5, h6⟩ := hR
  exact ⟨aM hk, h1.imp id fun ⟨b, e, hb⟩ => ⟨b, e, aM hb⟩, ⟨m, aM hm, hm2⟩, ⟨m3, aM h3, h3'⟩, ⟨m4, aM h4, h4'⟩, h5, h6⟩
 have hs1 : ∀ l, RdrAt ls (p + 1) e ns k (h.set k (.cells 85 [.sl 5 (ls.map encLx), .i (p + 1 : Nat), .i e, nv, .mp nm, .mp im, .mp pm]) ++ l) := fun l => RdrAt.app ⟨nv, nm, im, pm, hR.to⟩ l
 have hk1 : ∀ l, Keep (RdK k) h (h.set k (.cells 85 [.sl 5 (ls.map encLx), .i (p + 1 : Nat), .i e, nv, .mp nm, .mp im, .mp pm]) ++ l) := fun l => (hR.keep (q := p + 1)).more l
 have hk_g := fun l => aF (l := l) hk
 have hk_s := fun o l => aG (l := l) hk o
 have hk_e := fun o l => aD (o := o) (l := l) hk
 have hk_h := fun o => aH (o := o) hk
 have nk4 : h.length ≠ k := by omega
 have nk5 : h.length + 1 ≠ k := by omega
 have n54 : h.length + 1 ≠ h.length := by omega
 rcases zc ls[p].s with hz | hz | hz | ⟨z1, z2, z3⟩
 rotate_left 3
 ·rw [if_neg (by rw [z1]; simp), if_neg (by rw [z3]; simp), if_neg (by rw [z2]; simp)] at hr
  cases hr
  simp -implicitDefEqProofs only [go_sem, c148, r148, z1, z2, z3]
  refine aJ hC (h65 (RdrAt.app hs0 _).rc) fun x h' ⟨x1, x2⟩ => ?_
  subst x1 x2
  simp -implicitDefEqProofs only [go_sem]
  exact aP (by simp) (by rw [hd]; exact RdOut.bad (Keep.app _ _ _))
 ·rw [hz] at hr ⊢
  rw [if_pos (by rfl)] at hr
  cases h1 : termF f 1200 (ls.drop (p + 1)) ns with
  | none => rw [h1] at hr; cases hr
  | some v =>
   rw [h1] at hr
   have q1 : (([40] : Str) == [40]) = true := rfl
   simp -implicitDefEqProofs only [go_sem, c148, r148, hk_g, hk_s, w1, q1]
   refine aJ hC (ht 1200 ls (p + 1) e ns k _ v hl (by omega) (by omega) (hs1 _) h1) fun x h2 ho => ?_
   cases v with
   | bad rest =>
    obtain ⟨o1, rfl⟩ := ho
    cases hr
    simp -implicitDefEqProofs only [go_sem]
    exact aP ((hk1 _).trans o1).1 (RdOut.bad ((hk1 _).trans o1))
   | ok t rest ns' =>
    obtain ⟨o1, rfl, q, o2, o3, o4, o5⟩ := ho
    subst o2
    simp only [Option.some.injEq] at hr
    subst hr
    have o0 := (hk1 _).trans o1
    have l0 := o0.1
    have hc4 : h2[h.length]? = some (.cells 31 [.v (.int .i64 0), .v (.int .i64 0), .str [], .v (.slice none 0 0)]) := o1.rd (by rw [aZ (by simp)]; simp) nk4 (by simp) (by simp)
    simp -implicitDefEqProofs only [go_sem]
    refine w188 41 (by omega) (o5.app _) o3 (fun h3 hc hq k3 s3 => ?_) fun h3 hc k3 => ?_
    ·have l3 := k3.1
     simp only [List.length_append, List.length_singleton] at l3
     have hc4b : h3[h.length]? = some (.cells 31 [.v (.int .i64 0), .v (.int .i64 0), .str [], .v (.slice none 0 0)]) := k3.rd (aM hc4) nk4 (by simp) (by simp)
     have hc5 : h3[h2.length]? = some (.cells 31 [.v (.int .i64 t.1.kind), .v (.int .i64 t.1.n), .str t.1.s, .sl 4 (t.1.l.map enc)]) := k3.rd (by rw [dG]; rfl) (by omega) (by simp) (by simp)
     have hc4b_g := fun l => aF (l := l) hc4b
     have hc4b_s := fun o l => aG (l := l) hc4b o
     have hc4b_e := fun o l => aD (o := o) (l := l) hc4b
     have hc4b_h := fun o => aH (o := o) hc4b
     have hc5_g := fun l => aF (l := l) hc5
     have hc5_s := fun o l => aG (l := l) hc5 o
     have hc5_e := fun o l => aD (o := o) (l := l) hc5
     have hc5_h := fun o => aH (o := o) hc5
     rw [qY hc]
     simp -implicitDefEqProofs only [go_sem, hc4b, hc4b_h, hc5]
     exact cQ (by simp; omega) (by rw [cT]; exact Wd.rfl _) ((o0.trans k3.left).turnK _ (Nat.le_refl _)) rfl (by omega) (by omega) (s3.other hc4b nk4 (by simp) (by simp) _)
    ·rw [nL hc]
     simp -implicitDefEqProofs only [go_sem]
     exact aP (o0.trans k3.left).1 (RdOut.bad (o0.trans k3.left))
 ·rw [hz] at hr ⊢
  rw [if_neg (by decide), if_neg (by decide), if_pos (by rfl)] at hr
  have q1 : (([91] : Str) == [40]) = false := rfl
  have q2 : (([91] : Str) == [91]) = true := rfl
  have q3 : (([91] : Str) == [123]) = false := rfl
  simp -implicitDefEqProofs only [go_sem, c148, r148, aQ, aS, List.append_assoc, hk_g, hk_s, w1, q1, q2, q3]
  refine aJ hC (h189g 93 (by omega) (hs1 _)) fun x h2 ⟨x1, k2, s2⟩ => ?_
  subst x1
  have o0 := (hk1 _).trans k2
  have l0 := k2.1
  simp only [List.length_append, List.length_set, List.length_cons, List.length_nil] at l0
  have hc4 : h2[h.length]? = some (.cells 31 [.v (.int .i64 0), .v (.int .i64 0), .str [], .v (.slice none 0 0)]) := k2.rd (by rw [aZ (by simp)]; simp) nk4 (by simp) (by simp)
  have hc6 : h2[h.length + 1]? = some (.cells 31 [.v (.int .i64 3), .v (.int .i64 0), .str [91, 93], .v (.slice none 0 0)]) := k2.rd (by rw [aZ (by simp)]; simp) nk5 (by simp) (by simp)
  rcases hc : isSg 93 (ls.drop (p + 1)) with _ | _
  ·rw [hc, if_neg (by simp)] at hr
   cases h1 : severalF f (ls.drop (p + 1)) ns with
   | none => rw [h1] at hr; cases hr
   | some v =>
    rw [h1] at hr
    simp -implicitDefEqProofs only [go_sem]
    refine aJ hC (hli none ls (p + 1) e ns k _ v hl (by omega) (by omega) s2 h1) fun x h3 ho => ?_
    cases v with
    | bad rest =>
     obtain ⟨o1, rfl⟩ := ho
     cases hr
     simp -implicitDefEqProofs only [go_sem]
     exact aP (o0.trans o1).1 (RdOut.bad (o0.trans o1))
    | ok ts rest ns' =>
     simp only at hr
     have htl := sev_len _ _ _ _ _ _ h1
     simp only [List.length_drop] at htl
     rw [endO] at ho
     obtain ⟨o1, rfl, q, o2, o3, o4, o5⟩ := ho
     subst o2
     have o03 := o0.trans o1
     have hc4b : h3[h.length]? = some (.cells 31 [.v (.int .i64 0), .v (.int .i64 0), .str [], .v (.slice none 0 0)]) := o1.rd hc4 nk4 (by simp) (by simp)
     have hc6b := o1.rd hc6 nk5 (by simp) (by simp)
     simp -implicitDefEqProofs only [go_sem]
     refine aJ hC (h189g 124 (by omega) o5) fun x h4 ⟨x1, k4, s4⟩ => ?_
     subst x1
     have o04 := o03.trans k4
     have hc4c := k4.rd hc4b nk4 (by simp) (by simp)
     have hc6c := k4.rd hc6b nk5 (by simp) (by simp)
     rcases hb : isSg 124 (ls.drop q) with _ | _
     ·rw [hb, if_neg (by simp)] at hr
      simp only [Option.some.injEq] at hr
      subst hr
      have hT : CellT (h.length + 1) nilT h4 := ⟨_, hc6c, Wd.nil⟩
      simp -implicitDefEqProofs only [go_sem]
      refine w188 93 (by omega) s4 o3 (fun h5 hcc hq5 k5 s5 => ?_) fun h5 hcc k5 => ?_
      rotate_left
      ·rw [nL hcc]
       simp -implicitDefEqProofs only [go_sem]
       exact aP (o04.trans k5).1 (RdOut.bad (o04.trans k5))
      rw [qY hcc]
      have k05 := o04.trans k5
      have l5 := k05.1
      have l4 := aL hc4c
      have c4 := k5.rd hc4c nk4 (by simp) (by simp)
      obtain ⟨v0, c7, hw0⟩ := CellT.rd hT k5 nk5
      have wl : IntKind.i64.wrap ((ts.length : Int) - 1) = (ts.length : Int) - 1 := aK _ (by omega)
      have l7 := aL c7
      simp -implicitDefEqProofs only [go_sem, List.length_map, List.length_set, wl]
      refine cK hC (fun j (_ : AV) => [(4, .ref h.length 0), (7, .ref (h.length + 1) 0), (8, .sl 4 (ts.map enc)), (9, .i ((ts.length : Int) - 1 - j))])
       (fun j v h' => j <= ts.length /\ h'[h.length]? = some (.cells 31 [.v (.int .i64 0), .v (.int .i64 0), .str [], .v (.slice none 0 0)]) /\ h'[h.length + 1]? = some (.cells 31 [.v (.int .i64 (listT (ts.drop (ts.length - j)) nilT).kind), .v (.int .i64 (listT (ts.drop (ts.length - j)) nilT).n), .str (listT (ts.drop (ts.length - j)) nilT).s, v]) /\ Wd v (.sl 4 ((listT (ts.drop (ts.length - j)) nilT).l.map enc)) /\ Keep (RdK k) h h' /\ RdrAt ls (q + 1) e ns' k h') ts.length
       ⟨v0, _, Wk.pick (by omega) (by simp [go_sem]), by omega, c4, by rw [Nat.sub_zero, List.drop_of_length_le (Nat.le_refl _)]; exact c7, by rw [Nat.sub_zero, List.drop_of_length_le (Nat.le_refl _)]; exact hw0, k05, s5⟩ fun j v h6 hj ⟨p1, p2, p3, p4, p5, p6⟩ => ?_
      have l6 := aL p3
      by_cases hlt : j < ts.length
      ·have d1 : decide (((ts.length - 1 - j : Nat) : Int) >= 0) = true := decide_eq_true (by omega)
       have ei : (ts.length : Int) - 1 - (j : Int) = ((ts.length - 1 - j : Nat) : Int) := by omega
       have hi : ts.length - 1 - j < ts.length := by omega
       have eg : (ts.map enc).getD (ts.length - 1 - j) .any = enc (ts.getD (ts.length - 1 - j) default) := by simp [List.getD, hi]
       have wi : IntKind.i64.wrap (((ts.length - 1 - j : Nat) : Int) - 1) = (ts.length : Int) - 1 - ((j + 1 : Nat) : Int) := by rw [aK _ (by omega)]; omega
       have eT : listT (ts.drop (ts.length - (j + 1))) nilT = cellT (ts.getD (ts.length - 1 - j) default) (listT (ts.drop (ts.length - j)) nilT) := by
        have := sS ts nilT hi
        rw [show ts.length - 1 - j + 1 = ts.length - j by omega] at this
        rw [show ts.length - (j + 1) = ts.length - 1 - j by omega]
        exact this
       generalize listT (ts.drop (ts.length - j)) nilT = T at p3 p4 eT
       have p3_g := fun l => aF (l := l) p3
       have p3_s := fun o l => aG (l := l) p3 o
       have p3_e := fun o l => aD (o := o) (l := l) p3
       have p3_h := fun o => aH (o := o) p3
       simp -implicitDefEqProofs only [go_sem, ei, d1, List.length_map, Int.toNat_natCast, hi, eg, p3, p3_g, p3_s, wi]
       refine ⟨by omega, .own h6.length 4 [enc (ts.getD (ts.length - 1 - j) default), .agg [.v (.int .i64 T.kind), .v (.int .i64 T.n), .str T.s, v]], _, Wk.pick (by simp; omega) (by simp [go_sem]), by omega, ?_, ?_, ?_, (p5.turnK _ (by omega)).more _, (p6.other p3 nk5 (by simp) (by simp) _).app _⟩
       ·exact aM (by rw [aE n54]; exact p2)
       ·rw [eT]
        exact aM (aH p3)
       ·rw [eT]
        exact Wd.fz ⟨Wd.rfl _, by rw [cT T]; exact Wd.agg ⟨Wd.rfl _, Wd.rfl _, Wd.rfl _, p4, trivial⟩, trivial⟩
      ·have d1 : decide ((ts.length : Int) - 1 - (j : Int) >= 0) = false := decide_eq_false (by omega)
       have ej : ts.length - j = 0 := by omega
       rw [ej, List.drop_zero] at p3 p4
       have p3_g := fun l => aF (l := l) p3
       have p3_s := fun o l => aG (l := l) p3 o
       have p3_e := fun o l => aD (o := o) (l := l) p3
       have p3_h := fun o => aH (o := o) p3
       have p2_g := fun l => aF (l := l) p2
       have p2_s := fun o l => aG (l := l) p2 o
       have p2_e := fun o l => aD (o := o) (l := l) p2
       have p2_h := fun o => aH (o := o) p2
       simp -implicitDefEqProofs only [go_sem, d1, p3, p2, p2_h]
       exact cQ (by simp; omega) (by rw [cT]; exact Wd.agg ⟨Wd.rfl _, Wd.rfl _, Wd.rfl _, p4, trivial⟩) (p5.turnK _ (Nat.le_refl _)) rfl (by omega) (by omega) (p6.other p2 nk4 (by simp) (by simp) _)
     ·have hqb := pT rfl hb
      rw [hb, if_pos rfl, <- eH (q := q) rfl] at hr
      obtain ⟨nv4, nm4, im4, pm4, hR4⟩ := s4
      have hk4 := hR4.1
      have w4 : IntKind.i64.wrap ((q : Int) + 1) = ((q + 1 : Nat) : Int) := by rw [aK _ (by omega)]; simp
      have hk4_g := fun l => aF (l := l) hk4
      have hk4_s := fun o l => aG (l := l) hk4 o
      have hk4_e := fun o l => aD (o := o) (l := l) hk4
      have hk4_h := fun o => aH (o := o) hk4
      simp -implicitDefEqProofs only [go_sem, hk4, w4]
      cases h2t : termF f 999 (ls.drop (q + 1)) ns' with
      | none => rw [h2t] at hr; cases hr
      | some w =>
       rw [h2t] at hr
       have k4q := o04.trans (hR4.keep (q := q + 1))
       refine aJ hC (ht 999 ls (q + 1) e ns' k _ w hl (by omega) (by omega) ⟨nv4, nm4, im4, pm4, hR4.to⟩ h2t) fun x h7 ho => ?_
       cases w with
       | bad rest =>
        obtain ⟨o7, rfl⟩ := ho
        cases hr
        simp -implicitDefEqProofs only [go_sem]
        exact aP (k4q.trans o7).1 (RdOut.bad (k4q.trans o7))
       | ok t rest ns7 =>
        simp only [Option.some.injEq] at hr
        subst hr
        obtain ⟨o7, rfl, q7, g2, g3, g4, g5⟩ := ho
        subst g2
        have k07 := k4q.trans o7
        have hc4d : h7[h.length]? = some (.cells 31 [.v (.int .i64 0), .v (.int .i64 0), .str [], .v (.slice none 0 0)]) := o7.rd (by rw [aE nk4.symm]; exact hc4c) nk4 (by simp) (by simp)
        have hc6d := o7.rd (by rw [aE nk5.symm]; exact hc6c) nk5 (by simp) (by simp)
        have hT : CellT (h.length + 1) t.1 (h7.set (h.length + 1) (.cells 31 [.v (.int .i64 t.1.kind), .v (.int .i64 t.1.n), .str t.1.s, .sl 4 (t.1.l.map enc)])) := ⟨_, aH hc6d, Wd.rfl _⟩
        have hc4e : (h7.set (h.length + 1) (.cells 31 [.v (.int .i64 t.1.kind), .v (.int .i64 t.1.n), .str t.1.s, .sl 4 (t.1.l.map enc)]))[h.length]? = some (.cells 31 [.v (.int .i64 0), .v (.int .i64 0), .str [], .v (.slice none 0 0)]) := by rw [aE n54]; exact hc4d
        have k08 := k07.turnK (.cells 31 [.v (.int .i64 t.1.kind), .v (.int .i64 t.1.n), .str t.1.s, .sl 4 (t.1.l.map enc)]) (b := h.length + 1) (by omega)
        have s7 := g5.other hc6d nk5 (by simp) (by simp) (.cells 31 [.v (.int .i64 t.1.kind), .v (.int .i64 t.1.n), .str t.1.s, .sl 4 (t.1.l.map enc)])
        have hc6d_g := fun l => aF (l := l) hc6d
        have hc6d_s := fun o l => aG (l := l) hc6d o
        have hc6d_e := fun o l => aD (o := o) (l := l) hc6d
        have hc6d_h := fun o => aH (o := o) hc6d
        simp -implicitDefEqProofs only [go_sem, List.length_set, hc6d]
        refine w188 93 (by omega) s7 g3 (fun h5 hcc hq5 k5 s5 => ?_) fun h5 hcc k5 => ?_
        rotate_left
        ·rw [nL hcc]
         simp -implicitDefEqProofs only [go_sem]
         exact aP (k08.trans k5).1 (RdOut.bad (k08.trans k5))
        rw [qY hcc]
        have k05 := k08.trans k5
        have l5 := k05.1
        have l4 := aL hc4e
        have c4 := k5.rd hc4e nk4 (by simp) (by simp)
        obtain ⟨v0, c7, hw0⟩ := CellT.rd hT k5 nk5
        have wl : IntKind.i64.wrap ((ts.length : Int) - 1) = (ts.length : Int) - 1 := aK _ (by omega)
        have l7 := aL c7
        simp -implicitDefEqProofs only [go_sem, List.length_map, wl]
        refine cK hC (fun j (_ : AV) => [(4, .ref h.length 0), (7, .ref (h.length + 1) 0), (8, .sl 4 (ts.map enc)), (9, .i ((ts.length : Int) - 1 - j))])
         (fun j v h' => j <= ts.length /\ h'[h.length]? = some (.cells 31 [.v (.int .i64 0), .v (.int .i64 0), .str [], .v (.slice none 0 0)]) /\ h'[h.length + 1]? = some (.cells 31 [.v (.int .i64 (listT (ts.drop (ts.length - j)) t.1).kind), .v (.int .i64 (listT (ts.drop (ts.length - j)) t.1).n), .str (listT (ts.drop (ts.length - j)) t.1).s, v]) /\ Wd v (.sl 4 ((listT (ts.drop (ts.length - j)) t.1).l.map enc)) /\ Keep (RdK k) h h' /\ RdrAt ls (q7 + 1) e ns7 k h') ts.length
         ⟨v0, _, Wk.pick (by omega) (by simp [go_sem]), by omega, c4, by rw [Nat.sub_zero, List.drop_of_length_le (Nat.le_refl _)]; exact c7, by rw [Nat.sub_zero, List.drop_of_length_le (Nat.le_refl _)]; exact hw0, k05, s5⟩ fun j v h6 hj ⟨p1, p2, p3, p4, p5, p6⟩ => ?_
        have l6 := aL p3
        by_cases hlt : j < ts.length
        ·have d1 : decide (((ts.length - 1 - j : Nat) : Int) >= 0) = true := decide_eq_true (by omega)
         have ei : (ts.length : Int) - 1 - (j : Int) = ((ts.length - 1 - j : Nat) : Int) := by omega
         have hi : ts.length - 1 - j < ts.length := by omega
         have eg : (ts.map enc).getD (ts.length - 1 - j) .any = enc (ts.getD (ts.length - 1 - j) default) := by simp [List.getD, hi]
         have wi : IntKind.i64.wrap (((ts.length - 1 - j : Nat) : Int) - 1) = (ts.length : Int) - 1 - ((j + 1 : Nat) : Int) := by rw [aK _ (by omega)]; omega
         have eT : listT (ts.drop (ts.length - (j + 1))) t.1 = cellT (ts.getD (ts.length - 1 - j) default) (listT (ts.drop (ts.length - j)) t.1) := by
          have := sS ts t.1 hi
          rw [show ts.length - 1 - j + 1 = ts.length - j by omega] at this
          rw [show ts.length - (j + 1) = ts.length - 1 - j by omega]
          exact this
         generalize listT (ts.drop (ts.length - j)) t.1 = T at p3 p4 eT
         have p3_g := fun l => aF (l := l) p3
         have p3_s := fun o l => aG (l := l) p3 o
         have p3_e := fun o l => aD (o := o) (l := l) p3
         have p3_h := fun o => aH (o := o) p3
         simp -implicitDefEqProofs only [go_sem, ei, d1, List.length_map, Int.toNat_natCast, hi, eg, p3, p3_g, p3_s, wi]
         refine ⟨by omega, .own h6.length 4 [enc (ts.getD (ts.length - 1 - j) default), .agg [.v (.int .i64 T.kind), .v (.int .i64 T.n), .str T.s, v]], _, Wk.pick (by simp; omega) (by simp [go_sem]), by omega, ?_, ?_, ?_, (p5.turnK _ (by omega)).more _, (p6.other p3 nk5 (by simp) (by simp) _).app _⟩
         ·exact aM (by rw [aE n54]; exact p2)
         ·rw [eT]
          exact aM (aH p3)
         ·rw [eT]
          exact Wd.fz ⟨Wd.rfl _, by rw [cT T]; exact Wd.agg ⟨Wd.rfl _, Wd.rfl _, Wd.rfl _, p4, trivial⟩, trivial⟩
        ·have d1 : decide ((ts.length : Int) - 1 - (j : Int) >= 0) = false := decide_eq_false (by omega)
         have ej : ts.length - j = 0 := by omega
         rw [ej, List.drop_zero] at p3 p4
         have p3_g := fun l => aF (l := l) p3
         have p3_s := fun o l => aG (l := l) p3 o
         have p3_e := fun o l => aD (o := o) (l := l) p3
         have p3_h := fun o => aH (o := o) p3
         have p2_g := fun l => aF (l := l) p2
         have p2_s := fun o l => aG (l := l) p2 o
         have p2_e := fun o l => aD (o := o) (l := l) p2
         have p2_h := fun o => aH (o := o) p2
         simp -implicitDefEqProofs only [go_sem, d1, p3, p2, p2_h]
         exact cQ (by simp; omega) (by rw [cT]; exact Wd.agg ⟨Wd.rfl _, Wd.rfl _, Wd.rfl _, p4, trivial⟩) (p5.turnK _ (Nat.le_refl _)) rfl (by omega) (by omega) (p6.other p2 nk4 (by simp) (by simp) _)
  ·rw [hc, if_pos rfl] at hr
   cases hr
   have hq := pT rfl hc
   obtain ⟨nv2, nm2, im2, pm2, hR2⟩ := s2
   have hk2 := hR2.1
   have w2 : IntKind.i64.wrap (((p + 1 : Nat) : Int) + 1) = ((p + 1 + 1 : Nat) : Int) := by rw [aK _ (by omega)]; simp
   have hk2_g := fun l => aF (l := l) hk2
   have hk2_s := fun o l => aG (l := l) hk2 o
   have hk2_e := fun o l => aD (o := o) (l := l) hk2
   have hk2_h := fun o => aH (o := o) hk2
   have g4 : ∀ X, (h2.set k X)[h.length]? = some (.cells 31 [.v (.int .i64 0), .v (.int .i64 0), .str [], .v (.slice none 0 0)]) := fun X => by rw [aE nk4.symm]; exact hc4
   have g6 : ∀ X, (h2.set k X)[h.length + 1]? = some (.cells 31 [.v (.int .i64 3), .v (.int .i64 0), .str [91, 93], .v (.slice none 0 0)]) := fun X => by rw [aE nk5.symm]; exact hc6
   have g4' : ∀ X Y, ((h2.set k X).set h.length Y)[h.length]? = some Y := fun X Y => aH (g4 X)
   simp -implicitDefEqProofs only [go_sem, List.length_set, hk2, w2, g4, g6, g4']
   exact cQ (by simp; omega) fH ((o0.trans (hR2.keep (q := p + 1 + 1))).turnK _ (Nat.le_refl _)) (eH rfl) (by omega) (by omega) (RdrAt.other ⟨nv2, nm2, im2, pm2, hR2.to⟩ (g4 _) nk4 (by simp) (by simp) _)
 ·rw [hz] at hr ⊢
  rw [if_neg (by decide), if_pos (by rfl)] at hr
  have q1 : (([123] : Str) == [40]) = false := rfl
  have q2 : (([123] : Str) == [91]) = false := rfl
  have q3 : (([123] : Str) == [123]) = true := rfl
  simp -implicitDefEqProofs only [go_sem, c148, r148, aQ, aS, List.append_assoc, hk_g, hk_s, w1, q1, q2, q3]
  refine aJ hC (h189g 125 (by omega) (hs1 _)) fun x h2 ⟨x1, k2, s2⟩ => ?_
  subst x1
  have o0 := (hk1 _).trans k2
  have l0 := k2.1
  simp only [List.length_append, List.length_set, List.length_cons, List.length_nil] at l0
  have hc4 : h2[h.length]? = some (.cells 31 [.v (.int .i64 0), .v (.int .i64 0), .str [], .v (.slice none 0 0)]) := k2.rd (by rw [aZ (by simp)]; simp) nk4 (by simp) (by simp)
  have hc6 : h2[h.length + 1]? = some (.cells 31 [.v (.int .i64 6), .v (.int .i64 0), .str [], .v (.slice none 0 0)]) := k2.rd (by rw [aZ (by simp)]; simp) nk5 (by simp) (by simp)
  rcases hc : isSg 125 (ls.drop (p + 1)) with _ | _
  ·rw [hc, if_neg (by simp)] at hr
   cases h1 : severalF f (ls.drop (p + 1)) ns with
   | none => rw [h1] at hr; cases hr
   | some v =>
    rw [h1] at hr
    simp -implicitDefEqProofs only [go_sem]
    refine aJ hC (hli (some 125) ls (p + 1) e ns k _ v hl (by omega) (by omega) s2 h1) fun x h3 ho => ?_
    cases v with
    | bad rest =>
     obtain ⟨o1, rfl⟩ := ho
     cases hr
     simp -implicitDefEqProofs only [go_sem]
     exact aP (o0.trans o1).1 (RdOut.bad (o0.trans o1))
    | ok ts rest ns' =>
     simp only [Option.some.injEq] at hr
     subst hr
     rw [endO] at ho
     unfold want
     rcases hc2 : isSg 125 rest with _ | _
     ·rw [hc2, if_neg (by simp)] at ho
      rw [if_neg (by simp)]
      obtain ⟨o1, rfl⟩ := ho
      simp -implicitDefEqProofs only [go_sem]
      exact aP (o0.trans o1).1 (RdOut.bad (o0.trans o1))
     ·rw [hc2, if_pos rfl] at ho
      rw [if_pos rfl]
      obtain ⟨o1, rfl, q, o2, o3, o4, o5⟩ := ho
      have l1 := o1.1
      have hc4b : h3[h.length]? = some (.cells 31 [.v (.int .i64 0), .v (.int .i64 0), .str [], .v (.slice none 0 0)]) := o1.rd hc4 nk4 (by simp) (by simp)
      have hc6b := o1.rd hc6 nk5 (by simp) (by simp)
      have hc4b_g := fun l => aF (l := l) hc4b
      have hc4b_s := fun o l => aG (l := l) hc4b o
      have hc4b_e := fun o l => aD (o := o) (l := l) hc4b
      have hc4b_h := fun o => aH (o := o) hc4b
      have hc6b_g := fun l => aF (l := l) hc6b
      have hc6b_s := fun o l => aG (l := l) hc6b o
      have hc6b_e := fun o l => aD (o := o) (l := l) hc6b
      have hc6b_h := fun o => aH (o := o) hc6b
      have hc4s : ∀ X, (h3.set (h.length + 1) X)[h.length]? = some (.cells 31 [.v (.int .i64 0), .v (.int .i64 0), .str [], .v (.slice none 0 0)]) := fun X => by rw [aE n54]; exact hc4b
      have hc4t : ∀ X Y, ((h3.set (h.length + 1) X).set h.length Y)[h.length]? = some Y := fun X Y => aH (hc4s X)
      simp -implicitDefEqProofs only [go_sem, List.length_set, hc6b, hc6b_h, hc4s, hc4t]
      exact cQ (by simp; omega) (tF (Wd.rfl _)) (((o0.trans o1).turnK _ (by omega)).turnK _ (Nat.le_refl _)) o2 o3 o4 ((o5.other hc6b nk5 (by simp) (by simp) _).other (hc4s _) nk4 (by simp) (by simp) _)
  ·rw [hc, if_pos rfl] at hr
   cases hr
   have hq := pT rfl hc
   obtain ⟨nv2, nm2, im2, pm2, hR2⟩ := s2
   have hk2 := hR2.1
   have w2 : IntKind.i64.wrap (((p + 1 : Nat) : Int) + 1) = ((p + 1 + 1 : Nat) : Int) := by rw [aK _ (by omega)]; simp
   have hk2_g := fun l => aF (l := l) hk2
   have hk2_s := fun o l => aG (l := l) hk2 o
   have hk2_e := fun o l => aD (o := o) (l := l) hk2
   have hk2_h := fun o => aH (o := o) hk2
   have g4 : ∀ X, (h2.set k X)[h.length]? = some (.cells 31 [.v (.int .i64 0), .v (.int .i64 0), .str [], .v (.slice none 0 0)]) := fun X => by rw [aE nk4.symm]; exact hc4
   have g6 : ∀ X, (h2.set k X)[h.length + 1]? = some (.cells 31 [.v (.int .i64 6), .v (.int .i64 0), .str [], .v (.slice none 0 0)]) := fun X => by rw [aE nk5.symm]; exact hc6
   have g4' : ∀ X Y, ((h2.set k X).set h.length Y)[h.length]? = some Y := fun X Y => aH (g4 X)
   simp -implicitDefEqProofs only [go_sem, List.length_set, hk2, w2, g4, g6, g4']
   exact cQ (by simp; omega) fH ((o0.trans (hR2.keep (q := p + 1 + 1))).turnK _ (Nat.le_refl _)) (eH rfl) (by omega) (by omega) (RdrAt.other ⟨nv2, nm2, im2, pm2, hR2.to⟩ (g4 _) nk4 (by simp) (by simp) _)
theorem Rdr.app {ls : List Lx} {p e : Nat} {ns : List Str} {nv : AV} {nm im pm k : Nat} {h : List AObj} (hR : Rdr ls p e ns nv nm im pm k h) (l : List AObj) : Rdr ls p e ns nv nm im pm k (h ++ l) := by
 obtain ⟨hk, h1, ⟨m, hm, hm2⟩, ⟨m3, h3, h3'⟩, ⟨m4, h4, h4'⟩, h5, h6⟩ := hR
 exact ⟨aM hk, h1.imp id fun ⟨b, e, hb⟩ => ⟨b, e, aM hb⟩, ⟨m, aM hm, hm2⟩, ⟨m3, aM h3, h3'⟩, ⟨m4, aM h4, h4'⟩, h5, h6⟩
theorem vX {x : Lx} {ls : List Lx} {q : Nat} (h : nextInt x (ls.drop q) = true) : ∃ hq : q < ls.length, numAt (ls.drop q) = ls[q].n := by
 rcases Nat.lt_or_ge q ls.length with g | g
 ·exact ⟨g, by rw [bW g]; rfl⟩
 ·rw [List.drop_of_length_le g] at h; cases h
theorem nextSg_lt {x : Lx} {ls : List Lx} {q : Nat} (h : nextSg x (ls.drop q) = true) : q < ls.length := by
 rcases Nat.lt_or_ge q ls.length with g | g
 ·exact g
 ·rw [List.drop_of_length_le g] at h; cases h
theorem h149 {f : Nat} (ht : Term64 GL f) (hli : List190E GL f) : Nam149 GL (f + 1) := by
 intro lim ls p e ns k h r hpl hl hns hs hr
 have hl0 := hl.1
 have hs0 := hs
 have hd := bW hpl
 obtain ⟨nv, nm, im, pm, hR⟩ := hs
 have hk := hR.1
 have hkl := aL hk
 refine k149.call (by simp) ?_
 rw [namedF] at hr
 have w1 : IntKind.i64.wrap ((p : Int) + 1) = ((p + 1 : Nat) : Int) := by rw [aK _ (by omega)]; simp
 have w2 : IntKind.i64.wrap ((p : Int) + 2) = ((p + 2 : Nat) : Int) := by rw [aK _ (by omega)]; simp
 have hs1 : ∀ q l, RdrAt ls q e ns k (h.set k (.cells 85 [.sl 5 (ls.map encLx), .i q, .i e, nv, .mp nm, .mp im, .mp pm]) ++ l) := fun q l => RdrAt.app ⟨nv, nm, im, pm, hR.to⟩ l
 have hk1 : ∀ q l, Keep (RdK k) h (h.set k (.cells 85 [.sl 5 (ls.map encLx), .i (q : Nat), .i e, nv, .mp nm, .mp im, .mp pm]) ++ l) := fun q l => (hR.keep (q := q)).more l
 have eL : encLx ls[p] = .agg [.i ls[p].kind, .i ls[p].n, .str ls[p].s, .i ls[p].a, .i ls[p].e] := rfl
 have hk_g := fun l => aF (l := l) hk
 have hk_s := fun o l => aG (l := l) hk o
 have hk_e := fun o l => aD (o := o) (l := l) hk
 have hk_h := fun o => aH (o := o) hk
 have hk2 : k ≠ h.length := by omega
 have hk3 : k ≠ h.length + 1 := by omega
 have hk4 : k ≠ h.length + 1 + 1 := by omega
 obtain ⟨_, _, _, ⟨m3, hm3, hT3⟩, ⟨m4, hm4, hT4⟩, _, _⟩ := id hR
 have hm3_g := fun l => aF (l := l) hm3
 have hm3_s := fun o l => aG (l := l) hm3 o
 have hm3_e := fun o l => aD (o := o) (l := l) hm3
 have hm3_h := fun o => aH (o := o) hm3
 have hm4_g := fun l => aF (l := l) hm4
 have hm4_s := fun o l => aG (l := l) hm4 o
 have hm4_e := fun o l => aD (o := o) (l := l) hm4
 have hm4_h := fun o => aH (o := o) hm4
 rcases hA : nextSg ls[p] (ls.drop (p + 1)) with _ | _
 rotate_left
 ·have hq := nextSg_lt hA
  rw [hA, if_pos rfl, <- eH (q := p + 1) rfl] at hr
  cases h1 : severalF f (ls.drop (p + 1 + 1)) ns with
  | none => rw [h1] at hr; cases hr
  | some v =>
   rw [h1] at hr
   simp -implicitDefEqProofs only [go_sem, c149, r149, eL, List.append_assoc]
   refine bB hC (tE (by omega) hpl (RdrAt.app hs0 _).rc) ?_
   rw [hA]
   simp -implicitDefEqProofs only [go_sem, dB, hk_g, hk_s, w2]
   refine aJ hC (hli (some 41) ls (p + 2) e ns k _ v hl (by omega) (by omega) (hs1 (p + 2) _) h1) fun x h2 ho => ?_
   cases v with
   | bad rest =>
    obtain ⟨o1, rfl⟩ := ho
    cases hr
    simp -implicitDefEqProofs only [go_sem]
    exact aP ((hk1 _ _).trans o1).1 (RdOut.bad ((hk1 _ _).trans o1))
   | ok ts rest ns' =>
    simp only [Option.some.injEq] at hr
    subst hr
    rw [want]
    rw [endO] at ho
    rcases hc : isSg 41 rest with _ | _
    ·rw [hc, if_neg (by simp)] at ho
     rw [if_neg (by simp)]
     obtain ⟨o1, rfl⟩ := ho
     simp -implicitDefEqProofs only [go_sem]
     exact aP ((hk1 _ _).trans o1).1 (RdOut.bad ((hk1 _ _).trans o1))
    ·rw [hc, if_pos rfl] at ho
     rw [if_pos rfl]
     obtain ⟨o1, rfl, q, o2, o3, o4, o5⟩ := ho
     have o0 := (hk1 _ _).trans o1
     have hc4 : h2[h.length]? = some (.cells 44 [.i ls[p].kind, .i ls[p].n, .str ls[p].s, .i ls[p].a, .i ls[p].e]) := o1.rd (by rw [aZ (by simp)]; simp) hk2.symm (by simp) (by simp)
     have hc6 : h2[h.length + 1]? = some (.cells 31 [.v (.int .i64 0), .v (.int .i64 0), .str [], .v (.slice none 0 0)]) := o1.rd (by rw [aZ (by simp)]; simp) hk3.symm (by simp) (by simp)
     have hc4_g := fun l => aF (l := l) hc4
     have hc4_s := fun o l => aG (l := l) hc4 o
     have hc4_e := fun o l => aD (o := o) (l := l) hc4
     have hc4_h := fun o => aH (o := o) hc4
     have hc6_g := fun l => aF (l := l) hc6
     have hc6_s := fun o l => aG (l := l) hc6 o
     have hc6_e := fun o l => aD (o := o) (l := l) hc6
     have hc6_h := fun o => aH (o := o) hc6
     simp -implicitDefEqProofs only [go_sem, hc4, hc6, hc6_h]
     have hl2 := o0.1
     exact cQ (by simp; omega) (cR (tF (Wd.rfl _))) (o0.turnK _ (by omega)) o2 o3 o4 (o5.other hc6 hk3.symm (by simp) (by simp) _)
 rw [hA, if_neg (by simp)] at hr
 rcases hK2 : (ls[p].kind == 2) with _ | _
 rotate_left
 ·rw [hK2, if_pos rfl] at hr
  cases hr
  simp -implicitDefEqProofs only [go_sem, c149, r149, eL, List.append_assoc]
  refine bB hC (tE (by omega) hpl (RdrAt.app hs0 _).rc) ?_
  rw [hA]
  simp -implicitDefEqProofs only [go_sem, dB, bP, fG, hk_g, hk_s, w1, hK2]
  exact cQ (by simp) (cR fH) (hk1 _ _) rfl (by omega) (by omega) (hs1 _ _)
 rw [hK2, if_neg (by simp)] at hr
 rcases hM : (ls[p].s == [45]) with _ | _
 ·rw [hM, Bool.false_and, if_neg (by simp)] at hr
  simp -implicitDefEqProofs only [go_sem, c149, r149, eL, List.append_assoc]
  refine bB hC (tE (by omega) hpl (RdrAt.app hs0 _).rc) ?_
  rw [hA]
  simp -implicitDefEqProofs only [go_sem, aQ, aS, List.append_assoc, dB, bP, fG, hk_g, hk_s, w1, hK2, hM]
  rcases cN ls[p].s m4 with ⟨a, b⟩ | ⟨i, o, a, b, c⟩
  ·have hP : prefixO ls[p].s = none := by rw [<- hT4]; exact b
   rw [hP] at hr
   simp only at hr
   rcases cN ls[p].s m3 with ⟨a3, b3⟩ | ⟨i3, o3, a3, b3, c3⟩
   ·have hI : infixO ls[p].s = none := by rw [<- hT3]; exact b3
    rw [hI] at hr
    cases hr
    simp -implicitDefEqProofs only [go_sem, aY, a, a3, hm3_g, hm4_g]
    exact cQ (by simp) (cR fH) (hk1 _ _) rfl (by omega) (by omega) (hs1 _ _)
   ·have hI : infixO ls[p].s = some o3 := by rw [<- hT3]; exact b3
    rw [hI] at hr
    cases hr
    simp -implicitDefEqProofs only [go_sem, aY, a, a3, c3, encOp, hm3_g, hm4_g]
    refine aJ hC (h65 (RdrAt.app hs0 _).rc) fun x h' ⟨x1, x2⟩ => ?_
    subst x1 x2
    simp -implicitDefEqProofs only [go_sem]
    exact aP (by simp) (by rw [hd]; exact RdOut.bad (Keep.app _ _ _))
  ·have hP : prefixO ls[p].s = some o := by rw [<- hT4]; exact b
   rw [hP] at hr
   simp only at hr
   by_cases hlim : o.prio > lim
   ·rw [if_pos hlim] at hr
    cases hr
    have d1 : decide (o.prio > lim) = true := decide_eq_true hlim
    simp -implicitDefEqProofs only [go_sem, aY, a, c, encOp, aQ, hm4_g, d1]
    refine aJ hC (h65 (RdrAt.app hs0 _).rc) fun x h' ⟨x1, x2⟩ => ?_
    subst x1 x2
    simp -implicitDefEqProofs only [go_sem]
    exact aP (by simp) (by rw [hd]; exact RdOut.bad (Keep.app _ _ _))
   ·rw [if_neg hlim] at hr
    have d1 : decide (o.prio > lim) = false := decide_eq_false hlim
    cases h1 : termF f o.right (ls.drop (p + 1)) ns with
    | none => rw [h1] at hr; cases hr
    | some v =>
     rw [h1] at hr
     simp -implicitDefEqProofs only [go_sem, aY, a, c, encOp, aQ, dB, bP, hk_g, hk_s, hm4_g, d1, w1]
     refine aJ hC (ht o.right ls (p + 1) e ns k _ v hl (by omega) (by omega) (hs1 _ _) h1) fun x h2 ho => ?_
     cases v with
     | bad rest =>
      obtain ⟨o1, rfl⟩ := ho
      cases hr
      simp -implicitDefEqProofs only [go_sem]
      exact aP ((hk1 _ _).trans o1).1 (RdOut.bad ((hk1 _ _).trans o1))
     | ok t rest ns' =>
      cases hr
      obtain ⟨o1, rfl, q, o2, o3, o4, o5⟩ := ho
      have o0 := (hk1 _ _).trans o1
      have l2 := o1.1
      simp only [List.length_append, List.length_set, List.length_cons, List.length_nil] at l2
      have hc4 : h2[h.length]? = some (.cells 44 [.i ls[p].kind, .i ls[p].n, .str ls[p].s, .i ls[p].a, .i ls[p].e]) := o1.rd (by rw [aZ (by simp)]; simp) hk2.symm (by simp) (by simp)
      have hc6 : h2[h.length + 1]? = some (.cells 31 [.v (.int .i64 0), .v (.int .i64 0), .str [], .v (.slice none 0 0)]) := o1.rd (by rw [aZ (by simp)]; simp) hk3.symm (by simp) (by simp)
      have hc8 : h2[h.length + 2]? = some (.cells 51 [.i o.prio, .i o.left, .i o.right]) := o1.rd (by rw [aZ (by simp)]; simp) hk4.symm (by simp) (by simp)
      have n86 : h.length + 1 ≠ h.length + 2 := by omega
      have hc8s : ∀ X l, (h2.set (h.length + 1) X ++ l)[h.length + 2]? = some (.cells 51 [.i o.prio, .i o.left, .i o.right]) := fun X l => aM (by rw [aE n86]; exact hc8)
      have hc4s : ∀ X l, (h2.set (h.length + 1) X ++ l)[h.length]? = some (.cells 44 [.i ls[p].kind, .i ls[p].n, .str ls[p].s, .i ls[p].a, .i ls[p].e]) := fun X l => aM (by rw [aE (by omega)]; exact hc4)
      have hc4_g := fun l => aF (l := l) hc4
      have hc4_s := fun o l => aG (l := l) hc4 o
      have hc4_e := fun o l => aD (o := o) (l := l) hc4
      have hc4_h := fun o => aH (o := o) hc4
      have hc6_g := fun l => aF (l := l) hc6
      have hc6_s := fun o l => aG (l := l) hc6 o
      have hc6_e := fun o l => aD (o := o) (l := l) hc6
      have hc6_h := fun o => aH (o := o) hc6
      have hc8_g := fun l => aF (l := l) hc8
      have hc8_s := fun o l => aG (l := l) hc8 o
      have hc8_e := fun o l => aD (o := o) (l := l) hc8
      have hc8_h := fun o => aH (o := o) hc8
      simp -implicitDefEqProofs only [go_sem, hc4, hc4_g, hc6_g, hc6_s, hc6_e, hc8, hc8_g, hc8s]
      exact cQ (by simp; omega) (cR (tF (Wd.fz (Wds.rfl _)))) ((o0.turnK _ (by omega)).more _) o2 o3 o4 ((o5.other hc6 hk3.symm (by simp) (by simp) _).app _)
 ·rw [hM, Bool.true_and] at hr
  rcases hN : nextInt ls[p] (ls.drop (p + 1)) with _ | _
  ·rw [hN, if_neg (by simp)] at hr
   simp -implicitDefEqProofs only [go_sem, c149, r149, eL, List.append_assoc]
   refine bB hC (tE (by omega) hpl (RdrAt.app hs0 _).rc) ?_
   rw [hA]
   simp -implicitDefEqProofs only [go_sem, hK2, hM]
   refine bB hC (h191i (by omega) hpl (RdrAt.app hs0 _).rc) ?_
   rw [hN]
   simp -implicitDefEqProofs only [go_sem]
   rcases cN ls[p].s m4 with ⟨a, b⟩ | ⟨i, o, a, b, c⟩
   ·have hP : prefixO ls[p].s = none := by rw [<- hT4]; exact b
    rw [hP] at hr
    simp only at hr
    rcases cN ls[p].s m3 with ⟨a3, b3⟩ | ⟨i3, o3, a3, b3, c3⟩
    ·have hI : infixO ls[p].s = none := by rw [<- hT3]; exact b3
     rw [hI] at hr
     cases hr
     simp -implicitDefEqProofs only [go_sem, aY, a, a3, aQ, aS, List.append_assoc, dB, bP, fG, hk_g, hk_s, hm3_g, hm4_g, w1]
     exact cQ (by simp) (cR fH) (hk1 _ _) rfl (by omega) (by omega) (hs1 _ _)
    ·have hI : infixO ls[p].s = some o3 := by rw [<- hT3]; exact b3
     rw [hI] at hr
     cases hr
     simp -implicitDefEqProofs only [go_sem, aY, a, a3, c3, encOp, aQ, aS, List.append_assoc, hk_g, hm3_g, hm4_g]
     refine aJ hC (h65 (RdrAt.app hs0 _).rc) fun x h' ⟨x1, x2⟩ => ?_
     subst x1 x2
     simp -implicitDefEqProofs only [go_sem]
     exact aP (by simp) (by rw [hd]; exact RdOut.bad (Keep.app _ _ _))
   ·have hP : prefixO ls[p].s = some o := by rw [<- hT4]; exact b
    rw [hP] at hr
    simp only at hr
    by_cases hlim : o.prio > lim
    ·rw [if_pos hlim] at hr
     cases hr
     have d1 : decide (o.prio > lim) = true := decide_eq_true hlim
     simp -implicitDefEqProofs only [go_sem, aY, a, c, encOp, aQ, aS, List.append_assoc, hk_g, hm4_g, d1]
     refine aJ hC (h65 (RdrAt.app hs0 _).rc) fun x h' ⟨x1, x2⟩ => ?_
     subst x1 x2
     simp -implicitDefEqProofs only [go_sem]
     exact aP (by simp) (by rw [hd]; exact RdOut.bad (Keep.app _ _ _))
    ·rw [if_neg hlim] at hr
     have d1 : decide (o.prio > lim) = false := decide_eq_false hlim
     cases h1 : termF f o.right (ls.drop (p + 1)) ns with
     | none => rw [h1] at hr; cases hr
     | some v =>
      rw [h1] at hr
      simp -implicitDefEqProofs only [go_sem, aY, a, c, encOp, aQ, aS, List.append_assoc, dB, bP, hk_g, hk_s, hm4_g, d1, w1]
      refine aJ hC (ht o.right ls (p + 1) e ns k _ v hl (by omega) (by omega) (hs1 _ _) h1) fun x h2 ho => ?_
      cases v with
      | bad rest =>
       obtain ⟨o1, rfl⟩ := ho
       cases hr
       simp -implicitDefEqProofs only [go_sem]
       exact aP ((hk1 _ _).trans o1).1 (RdOut.bad ((hk1 _ _).trans o1))
      | ok t rest ns' =>
       cases hr
       obtain ⟨o1, rfl, q, o2, o3, o4, o5⟩ := ho
       have o0 := (hk1 _ _).trans o1
       have l2 := o1.1
       simp only [List.length_append, List.length_set, List.length_cons, List.length_nil] at l2
       have hc4 : h2[h.length]? = some (.cells 44 [.i ls[p].kind, .i ls[p].n, .str ls[p].s, .i ls[p].a, .i ls[p].e]) := o1.rd (by rw [aZ (by simp)]; simp) hk2.symm (by simp) (by simp)
       have hc6 : h2[h.length + 1]? = some (.cells 31 [.v (.int .i64 0), .v (.int .i64 0), .str [], .v (.slice none 0 0)]) := o1.rd (by rw [aZ (by simp)]; simp) hk3.symm (by simp) (by simp)
       have hc8 : h2[h.length + 2]? = some (.cells 51 [.i o.prio, .i o.left, .i o.right]) := o1.rd (by rw [aZ (by simp)]; simp) hk4.symm (by simp) (by simp)
       have n86 : h.length + 1 ≠ h.length + 2 := by omega
       have hc8s : ∀ X l, (h2.set (h.length + 1) X ++ l)[h.length + 2]? = some (.cells 51 [.i o.prio, .i o.left, .i o.right]) := fun X l => aM (by rw [aE n86]; exact hc8)
       have hc4s : ∀ X l, (h2.set (h.length + 1) X ++ l)[h.length]? = some (.cells 44 [.i ls[p].kind, .i ls[p].n, .str ls[p].s, .i ls[p].a, .i ls[p].e]) := fun X l => aM (by rw [aE (by omega)]; exact hc4)
       have hc4_g := fun l => aF (l := l) hc4
       have hc4_s := fun o l => aG (l := l) hc4 o
       have hc4_e := fun o l => aD (o := o) (l := l) hc4
       have hc4_h := fun o => aH (o := o) hc4
       have hc6_g := fun l => aF (l := l) hc6
       have hc6_s := fun o l => aG (l := l) hc6 o
       have hc6_e := fun o l => aD (o := o) (l := l) hc6
       have hc6_h := fun o => aH (o := o) hc6
       have hc8_g := fun l => aF (l := l) hc8
       have hc8_s := fun o l => aG (l := l) hc8 o
       have hc8_e := fun o l => aD (o := o) (l := l) hc8
       have hc8_h := fun o => aH (o := o) hc8
       simp -implicitDefEqProofs only [go_sem, hc4, hc4_g, hc6_g, hc6_s, hc6_e, hc8, hc8_g, hc8s]
       exact cQ (by simp; omega) (cR (tF (Wd.fz (Wds.rfl _)))) ((o0.turnK _ (by omega)).more _) o2 o3 o4 ((o5.other hc6 hk3.symm (by simp) (by simp) _).app _)
  ·obtain ⟨hq, hnum⟩ := vX hN
   rw [hN, if_pos rfl, hnum] at hr
   cases hr
   have hn := hl.2 _ (List.getElem_mem hq)
   have w3 : IntKind.i64.wrap (((p + 2 : Nat) : Int) - 1) = ((p + 1 : Nat) : Int) := by rw [aK _ (by omega)]; omega
   have w4 : IntKind.i64.wrap (0 - ls[p + 1].n) = -ls[p + 1].n := by rw [aK _ (by omega)]; omega
   have eg : (ls.map encLx).getD (p + 1) .any = encLx ls[p + 1] := by simp [List.getD, hq]
   simp -implicitDefEqProofs only [go_sem, c149, r149, eL, List.append_assoc]
   refine bB hC (tE (by omega) hpl (RdrAt.app hs0 _).rc) ?_
   rw [hA]
   simp -implicitDefEqProofs only [go_sem, hK2, hM]
   refine bB hC (h191i (by omega) hpl (RdrAt.app hs0 _).rc) ?_
   rw [hN]
   simp -implicitDefEqProofs only [go_sem, bP, fG, hk_g, hk_s, hk_e, w2, w3, List.length_map, Int.toNat_natCast, hq, eg, encLx, w4]
   exact cQ (by simp) (cR fH) (hk1 _ _) (eH rfl) (by omega) (by omega) (hs1 _ _)
theorem h106 {f : Nat} (hb : Brk148 GL f) (hn : Nam149 GL f) : Fst106 GL (f + 1) := by
 intro lim ls p e ns k h r hl hp hns hs hr
 have hl0 := hl.1
 have hs0 := hs
 have hrc := hs.rc
 obtain ⟨nv, nm, im, pm, hR⟩ := hs
 have hk := hR.1
 have hkl := aL hk
 refine k106.call (by simp) ?_
 have hk_g := fun l => aF (l := l) hk
 have hk_s := fun o l => aG (l := l) hk o
 have hk_e := fun o l => aD (o := o) (l := l) hk
 have hk_h := fun o => aH (o := o) hk
 by_cases hpl : p < ls.length
 rotate_left
 ·have e1 : ls.drop p = [] := List.drop_of_length_le (by omega)
  rw [e1, firstF] at hr
  cases hr
  have d1 : ((p : Int) == (ls.length : Int)) = true := beq_iff_eq.2 (by omega)
  simp -implicitDefEqProofs only [go_sem, c106, r106, hk_g, List.length_map, d1]
  refine aJ hC (h65 (RdrAt.app hs0 _).rc) fun x h' ⟨x1, x2⟩ => ?_
  subst x1 x2
  simp -implicitDefEqProofs only [go_sem]
  exact aP (by simp) (by rw [e1]; exact RdOut.bad (Keep.app _ _ _))
 have d1 : ((p : Int) == (ls.length : Int)) = false := by simp; omega
 have eg : (ls.map encLx).getD p .any = encLx ls[p] := by simp [List.getD, hpl]
 have w1 : IntKind.i64.wrap ((p : Int) + 1) = ((p + 1 : Nat) : Int) := by rw [aK _ (by omega)]; simp
 have hd := bW hpl
 have hs1 : ∀ l, RdrAt ls (p + 1) e ns k (h.set k (.cells 85 [.sl 5 (ls.map encLx), .i (p + 1 : Nat), .i e, nv, .mp nm, .mp im, .mp pm]) ++ l) := fun l => RdrAt.app ⟨nv, nm, im, pm, hR.to⟩ l
 have hk1 : ∀ l, Keep (RdK k) h (h.set k (.cells 85 [.sl 5 (ls.map encLx), .i (p + 1 : Nat), .i e, nv, .mp nm, .mp im, .mp pm]) ++ l) := fun l => (hR.keep (q := p + 1)).more l
 rw [hd, firstF] at hr
 rcases hK4 : (ls[p].kind == 4) with _ | _
 rotate_left
 ·rw [hK4, if_pos rfl] at hr
  cases hr
  simp -implicitDefEqProofs only [go_sem, c106, r106, aQ, aS, List.append_assoc, dB, bP, sat_set, hk_g, hk_s, List.length_map, d1, Int.toNat_natCast, hpl, eg, encLx, hK4, w1]
  exact cQ (by simp) (cR fH) (hk1 _) rfl (by omega) (by omega) (hs1 _)
 rw [hK4, if_neg (by simp)] at hr
 rcases hK5 : (ls[p].kind == 5) with _ | _
 rotate_left
 ·rw [hK5, if_pos rfl] at hr
  cases hr
  simp -implicitDefEqProofs only [go_sem, c106, r106, aQ, aS, List.append_assoc, dB, bP, sat_set, hk_g, hk_s, List.length_map, d1, Int.toNat_natCast, hpl, eg, encLx, hK4, hK5, w1]
  exact cQ (by simp) (cR fH) (hk1 _) rfl (by omega) (by omega) (hs1 _)
 rw [hK5, if_neg (by simp)] at hr
 rcases hK3 : (ls[p].kind == 3) with _ | _
 rotate_left
 ·rw [hK3, if_pos rfl] at hr
  cases hr
  simp -implicitDefEqProofs only [go_sem, c106, r106, aQ, aS, List.append_assoc, bP, hk_g, hk_s, List.length_map, d1, Int.toNat_natCast, hpl, eg, encLx, hK4, hK5, hK3, w1]
  refine aI hC (h147 ls[p].s (by omega) (hs1 _)) fun x h' ⟨i, ns', hx, hk2, hs2, hv⟩ => ?_
  subst hx
  have hv' := hv (ls.drop (p + 1))
  have hc4 : h'[h.length]? = some (.cells 31 [.v (.int .i64 0), .v (.int .i64 0), .str [], .v (.slice none 0 0)]) := hk2.rd (by rw [aZ (by simp)]; simp) (by omega) (by simp) (by simp)
  have hc4_g := fun l => aF (l := l) hc4
  have hc4_s := fun o l => aG (l := l) hc4 o
  have hc4_e := fun o l => aD (o := o) (l := l) hc4
  have hc4_h := fun o => aH (o := o) hc4
  simp -implicitDefEqProofs only [go_sem, hc4, hc4_h]
  rw [hv']
  exact cQ (by have := hk2.1; simp at this; simp; omega) (Wd.rfl _) (((hk1 _).trans hk2).turnK _ (Nat.le_refl _)) rfl (by omega) (by have := varP_len hv'; omega) (hs2.other hc4 (by omega) (by simp) (by simp) _)
 rw [hK3, if_neg (by simp)] at hr
 rcases hK6 : (ls[p].kind == 6) with _ | _
 rotate_left
 ·rw [hK6, if_pos rfl] at hr
  simp -implicitDefEqProofs only [go_sem, c106, r106, aQ, aS, List.append_assoc, hk_g, List.length_map, d1, Int.toNat_natCast, hpl, eg, encLx, hK4, hK5, hK3, hK6]
  refine aJ hC (hb ls p e ns k _ r hpl hl hns (hs0.app _) hr) fun x h' ho => ?_
  cases r with
  | bad rest =>
   obtain ⟨o1, rfl⟩ := ho
   simp -implicitDefEqProofs only [go_sem]
   exact aP o1.left.1 (RdOut.bad o1.left)
  | ok t rest ns' =>
   obtain ⟨o1, rfl, q, o2, o3, o4, o5⟩ := ho
   have hz := brk_prio hr
   obtain ⟨t1, t2⟩ := t
   simp only at hz
   subst hz
   have hc4 : h'[h.length]? = some (.cells 31 [.v (.int .i64 0), .v (.int .i64 0), .str [], .v (.slice none 0 0)]) := o1.rd (by rw [aZ (by simp)]; simp) (by omega) (by simp) (by simp)
   have l1 := o1.left.1
   have hc4_g := fun l => aF (l := l) hc4
   have hc4_s := fun o l => aG (l := l) hc4 o
   have hc4_e := fun o l => aD (o := o) (l := l) hc4
   have hc4_h := fun o => aH (o := o) hc4
   simp -implicitDefEqProofs only [go_sem, hc4, hc4_h]
   exact cQ (by simp; omega) (cR (by rw [cT]; exact Wd.rfl _)) (o1.left.turnK _ (Nat.le_refl _)) o2 o3 o4 (o5.other hc4 (by omega) (by simp) (by simp) _)
 rw [hK6, if_neg (by simp)] at hr
 have efold : ∀ x : Lx, encLx x = encLx x := fun _ => rfl
 rcases hK1 : (ls[p].kind == 1) with _ | _
 ·rcases hK2 : (ls[p].kind == 2) with _ | _
  ·rw [hK1, hK2, if_neg (by simp)] at hr
   cases hr
   simp -implicitDefEqProofs only [go_sem, c106, r106, aQ, aS, List.append_assoc, hk_g, List.length_map, d1, Int.toNat_natCast, hpl, eg, encLx, hK4, hK5, hK3, hK6, hK1, hK2]
   refine aJ hC (h65 (RdrAt.app hs0 _).rc) fun x h' ⟨x1, x2⟩ => ?_
   subst x1 x2
   simp -implicitDefEqProofs only [go_sem]
   exact aP (by simp) (by rw [hd]; exact RdOut.bad (Keep.app _ _ _))
  ·rw [hK1, hK2, if_pos (by simp)] at hr
   simp -implicitDefEqProofs only [go_sem, c106, r106, aQ, aS, List.append_assoc, hk_g, List.length_map, d1, Int.toNat_natCast, hpl, eg, encLx, hK4, hK5, hK3, hK6, hK1, hK2]
   refine aJ hC (hn lim ls p e ns k _ r hpl hl hns (hs0.app _) hr) fun x h' ho => ?_
   cases r with
   | bad rest =>
    obtain ⟨o1, rfl⟩ := ho
    simp -implicitDefEqProofs only [go_sem]
    exact aP o1.left.1 (RdOut.bad o1.left)
   | ok t rest ns' =>
    obtain ⟨o1, rfl, q, o2, o3, o4, o5⟩ := ho
    have hc4 : h'[h.length]? = some (.cells 31 [.v (.int .i64 0), .v (.int .i64 0), .str [], .v (.slice none 0 0)]) := o1.rd (by rw [aZ (by simp)]; simp) (by omega) (by simp) (by simp)
    have l1 := o1.left.1
    have hc4_g := fun l => aF (l := l) hc4
    have hc4_s := fun o l => aG (l := l) hc4 o
    have hc4_e := fun o l => aD (o := o) (l := l) hc4
    have hc4_h := fun o => aH (o := o) hc4
    simp -implicitDefEqProofs only [go_sem, hc4, hc4_h]
    exact cQ (by simp; omega) (cR (by rw [cT]; exact Wd.rfl _)) (o1.left.turnK _ (Nat.le_refl _)) o2 o3 o4 (o5.other hc4 (by omega) (by simp) (by simp) _)
 ·rw [hK1, if_pos (by simp)] at hr
  simp -implicitDefEqProofs only [go_sem, c106, r106, aQ, aS, List.append_assoc, hk_g, List.length_map, d1, Int.toNat_natCast, hpl, eg, encLx, hK4, hK5, hK3, hK6, hK1]
  refine aJ hC (hn lim ls p e ns k _ r hpl hl hns (hs0.app _) hr) fun x h' ho => ?_
  cases r with
  | bad rest =>
   obtain ⟨o1, rfl⟩ := ho
   simp -implicitDefEqProofs only [go_sem]
   exact aP o1.left.1 (RdOut.bad o1.left)
  | ok t rest ns' =>
   obtain ⟨o1, rfl, q, o2, o3, o4, o5⟩ := ho
   have hc4 : h'[h.length]? = some (.cells 31 [.v (.int .i64 0), .v (.int .i64 0), .str [], .v (.slice none 0 0)]) := o1.rd (by rw [aZ (by simp)]; simp) (by omega) (by simp) (by simp)
   have l1 := o1.left.1
   have hc4_g := fun l => aF (l := l) hc4
   have hc4_s := fun o l => aG (l := l) hc4 o
   have hc4_e := fun o l => aD (o := o) (l := l) hc4
   have hc4_h := fun o => aH (o := o) hc4
   simp -implicitDefEqProofs only [go_sem, hc4, hc4_h]
   exact cQ (by simp; omega) (cR (by rw [cT]; exact Wd.rfl _)) (o1.left.turnK _ (Nat.le_refl _)) o2 o3 o4 (o5.other hc4 (by omega) (by simp) (by simp) _)
theorem h64 {f : Nat} (H : ∀ g, g < f -> Term64 GL g) (hF : ∀ g, g < f -> Fst106 GL g) : Term64 GL f := by
 intro lim ls p e ns k h r hl hp hns hs hr
 have hl0 := hl.1
 obtain ⟨f', rfl⟩ : ∃ f', f = f' + 1 := by
  cases f with
  | zero => rw [termF] at hr; cases hr
  | succ f => exact ⟨_, rfl⟩
 rw [termF] at hr
 have hkl := hs.lt
 refine k64.call (by simp) ?_
 simp -implicitDefEqProofs only [go_sem, c64, r64]
 cases hv : firstF f' lim (ls.drop p) ns with
 | none => rw [hv] at hr; cases hr
 | some v =>
  rw [hv] at hr
  refine aJ hC (hF f' (by omega) lim ls p e ns k _ v hl hp hns (hs.app _) hv) fun x h1 ho => ?_
  cases v with
  | bad rest =>
   obtain ⟨o1, rfl⟩ := ho
   cases hr
   simp -implicitDefEqProofs only [go_sem]
   exact aP o1.left.1 (RdOut.bad o1.left)
  | ok t rest ns' =>
   obtain ⟨o1, rfl, q, o2, o3, o4, o5⟩ := ho
   subst o2
   simp only at hr
   have l1 := o1.1
   simp only [List.length_append, List.length_singleton] at l1
   have hc4 : h1[h.length]? = some (.cells 31 [.v (.int .i64 0), .v (.int .i64 0), .str [], .v (.slice none 0 0)]) := o1.rd (by rw [aZ (by simp)]; simp) (by omega) (by simp) (by simp)
   simp -implicitDefEqProofs only [go_sem]
   refine cK hC (fun _ (s : Tm × Int) => [(0, .ref k 0), (1, .i lim), (4, .ref h.length 0), (5, .ref h1.length 0), (6, .i s.2)])
    (fun j s h' => CellT h1.length s.1 h' /\ h'[h.length]? = some (.cells 31 [.v (.int .i64 0), .v (.int .i64 0), .str [], .v (.slice none 0 0)]) /\ Keep (RdK k) h h' /\ ∃ q ns' g, j <= q /\ q <= ls.length /\ ns'.length <= q /\ RdrAt ls q e ns' k h' /\ g < f' + 1 /\ loopF g lim s.1 s.2 (ls.drop q) ns' = some r) ls.length
    ⟨t, _, Wk.pick (by simp; omega) (by simp [go_sem]), ⟨_, by rw [aZ (by simp)]; simp, Wd.rfl _⟩, aM hc4, o1.left.more _, q, ns', f', by omega, o3, o4, o5.app _, by omega, hr⟩ fun j s h2 hj ⟨⟨v, s1, s1w⟩, s2, s3, q2, ns2, g, s4, s5, s6, s7, s8, s9⟩ => ?_
   obtain ⟨t, pr⟩ := s
   simp only at s1 s1w s9
   clear hr o5 o4 o3 hc4
   have n45 : h.length ≠ h1.length := by omega
   have nk4 : k ≠ h.length := by omega
   have nk5 : k ≠ h1.length := by omega
   have l2 := aL s1
   have hout : ∀ l X, r = .ok (t, pr) (ls.drop q2) ns2 -> RdOut (fun t => enc t.1) ls e k h r (.val (enc t)) (h2.set h.length X ++ l) := fun l X e => by
    subst e
    exact RdOut.ok ((s3.turnK _ (Nat.le_refl _)).more _) rfl s5 s6 ((s7.other s2 nk4.symm (by simp) (by simp) _).app _)
   have hout0 : ∀ X, r = .ok (t, pr) (ls.drop q2) ns2 -> RdOut (fun t => enc t.1) ls e k h r (.val (enc t)) (h2.set h.length X) := fun X e => by
    have := hout [] X e
    rwa [List.append_nil] at this
   have hwv : Wd (.agg [.v (.int .i64 t.kind), .v (.int .i64 t.n), .str t.s, v]) (enc t) := by
    rw [cT]
    exact Wd.agg ⟨Wd.rfl _, Wd.rfl _, Wd.rfl _, s1w, trivial⟩
   obtain ⟨g', rfl⟩ : ∃ g', g = g' + 1 := by
    cases g with
    | zero => rw [loopF] at s9; cases s9
    | succ g => exact ⟨_, rfl⟩
   rw [loopF] at s9
   obtain ⟨nv, nm, im, pm, hR⟩ := id s7
   have hk := hR.1
   have hk2 := aL hk
   have hk_g := fun l => aF (l := l) hk
   have hk_s := fun o l => aG (l := l) hk o
   have hk_e := fun o l => aD (o := o) (l := l) hk
   have hk_h := fun o => aH (o := o) hk
   have s1_g := fun l => aF (l := l) s1
   have s1_s := fun o l => aG (l := l) s1 o
   have s1_e := fun o l => aD (o := o) (l := l) s1
   have s1_h := fun o => aH (o := o) s1
   have s2_g := fun l => aF (l := l) s2
   have s2_s := fun o l => aG (l := l) s2 o
   have s2_e := fun o l => aD (o := o) (l := l) s2
   have s2_h := fun o => aH (o := o) s2
   have s1_4 : ∀ X, (h2.set h.length X)[h1.length]? = h2[h1.length]? := fun X => by rw [aE n45]
   by_cases hq : q2 < ls.length
   rotate_left
   ·have d1 : decide ((q2 : Int) < (ls.length : Int)) = false := decide_eq_false (by omega)
    have he : r = .ok (t, pr) (ls.drop q2) ns2 := by
     rw [List.drop_of_length_le (show ls.length <= q2 by omega)] at s9 ⊢
     cases s9; rfl
    simp -implicitDefEqProofs only [go_sem, hk, List.length_map, d1, s1, s2, s2_h]
    exact lQ (by simp; omega) (hout0 _ he) hwv
   have d1 : decide ((q2 : Int) < (ls.length : Int)) = true := decide_eq_true (by omega)
   have eg : (ls.map encLx).getD q2 .any = encLx ls[q2] := by simp [List.getD, hq]
   have w1 : IntKind.i64.wrap ((q2 : Int) + 1) = ((q2 + 1 : Nat) : Int) := by rw [aK _ (by omega)]; simp
   rw [bW hq, infAt] at s9
   have s2_7 : ∀ l, (h2 ++ l)[h.length]? = some (.cells 31 [.v (.int .i64 0), .v (.int .i64 0), .str [], .v (.slice none 0 0)]) := fun l => aM s2
   obtain ⟨_, _, _, ⟨m3, hm3, hT3⟩, _, _, _⟩ := id hR
   have hm3_g := fun l => aF (l := l) hm3
   have hm3_s := fun o l => aG (l := l) hm3 o
   have hm3_e := fun o l => aD (o := o) (l := l) hm3
   have hm3_h := fun o => aH (o := o) hm3
   have nq : ∀ a b : Int, (a != b) = !(a == b) := fun _ _ => rfl
   have hs1 : ∀ l, RdrAt ls (q2 + 1) e ns2 k (h2.set k (.cells 85 [.sl 5 (ls.map encLx), .i (q2 + 1 : Nat), .i e, nv, .mp nm, .mp im, .mp pm]) ++ l) := fun l => RdrAt.app ⟨nv, nm, im, pm, hR.to⟩ l
   have hk1 : ∀ l, Keep (RdK k) h2 (h2.set k (.cells 85 [.sl 5 (ls.map encLx), .i (q2 + 1 : Nat), .i e, nv, .mp nm, .mp im, .mp pm]) ++ l) := fun l => (hR.keep (q := q2 + 1)).more l
   have n1k : ∀ X l, (h2.set k X ++ l)[h1.length]? = some (.cells 31 [.v (.int .i64 t.kind), .v (.int .i64 t.n), .str t.s, v]) := fun X l => aM (by rw [aE nk5]; exact s1)
   simp -implicitDefEqProofs only [go_sem, List.length_map, d1, Int.toNat_natCast, hq, eg, encLx, hk, hk_g, nq]
   rcases hK1 : (ls[q2].kind == 1) with _ | _
   ·rcases hK6 : (ls[q2].kind == 6) with _ | _
    ·rw [hK1, hK6, if_neg (by simp)] at s9
     have he : r = .ok (t, pr) (ls.drop q2) ns2 := by rw [bW hq]; cases s9; rfl
     simp -implicitDefEqProofs only [go_sem, hK6, s1_g, s2_g, s2_s, s2_e, nq]
     exact lQ (by simp; omega) (hout _ _ he) hwv
    ·rw [hK1, hK6, if_pos (by simp)] at s9
     rcases cN ls[q2].s m3 with ⟨a, b⟩ | ⟨i, o, a, b, c⟩
     ·have hI : infixO ls[q2].s = none := by rw [<- hT3]; exact b
      rw [hI] at s9
      have he : r = .ok (t, pr) (ls.drop q2) ns2 := by rw [bW hq]; cases s9; rfl
      simp -implicitDefEqProofs only [go_sem, hK6, nq, aY, a, aQ, aS, List.append_assoc, hk_g, s1_g, s2_g, s2_s, s2_e, hm3_g]
      exact lQ (by simp; omega) (hout _ _ he) hwv
     ·have hI : infixO ls[q2].s = some o := by rw [<- hT3]; exact b
      rw [hI] at s9
      simp only [Option.map_some] at s9
      by_cases g1 : o.prio > lim
      ·rw [if_pos (.inl g1)] at s9
       have he : r = .ok (t, pr) (ls.drop q2) ns2 := by rw [bW hq]; cases s9; rfl
       have d2 : decide (o.prio > lim) = true := decide_eq_true g1
       simp -implicitDefEqProofs only [go_sem, hK6, nq, aY, a, c, encOp, d2, aQ, aS, List.append_assoc, hk_g, s1_g, s2_g, s2_s, s2_e, hm3_g]
       exact lQ (by simp; omega) (hout _ _ he) hwv
      have d2 : decide (o.prio > lim) = false := decide_eq_false g1
      by_cases g2 : pr > o.left
      ·rw [if_pos (.inr g2)] at s9
       have he : r = .ok (t, pr) (ls.drop q2) ns2 := by rw [bW hq]; cases s9; rfl
       have d3 : decide (pr > o.left) = true := decide_eq_true g2
       simp -implicitDefEqProofs only [go_sem, hK6, nq, aY, a, c, encOp, d2, d3, aQ, aS, List.append_assoc, hk_g, s1_g, s2_g, s2_s, s2_e, hm3_g]
       exact lQ (by simp; omega) (hout _ _ he) hwv
      have d3 : decide (pr > o.left) = false := decide_eq_false g2
      rw [if_neg (by intro x; exact x.elim g1 g2)] at s9
      simp only [List.tail_cons] at s9
      cases h1t : termF g' o.right (ls.drop (q2 + 1)) ns2 with
      | none => rw [h1t] at s9; cases s9
      | some w =>
       rw [h1t] at s9
       simp -implicitDefEqProofs only [go_sem, hK6, nq, aY, a, c, encOp, d2, d3, aQ, aS, List.append_assoc, dB, bP, hk_g, hk_s, hm3_g, w1, n1k]
       refine aJ hC (H g' (by omega) o.right ls (q2 + 1) e ns2 k _ w hl (by omega) (by omega) (hs1 _) h1t) fun x h3 ho => ?_
       have kq := s3.trans (hk1 [.cells 44 [.i ls[q2].kind, .i ls[q2].n, .str ls[q2].s, .i ls[q2].a, .i ls[q2].e], .cells 51 [.i o.prio, .i o.left, .i o.right]])
       cases w with
       | bad rest =>
        obtain ⟨o1, rfl⟩ := ho
        cases s9
        simp -implicitDefEqProofs only [go_sem]
        exact aP (kq.trans o1).1 (RdOut.bad (kq.trans o1))
       | ok u rest ns3 =>
        obtain ⟨o1, rfl, q3, o2, o3, o4, o5⟩ := ho
        subst o2
        simp only at s9
        have k0 := kq.trans o1
        have l3 := o1.1
        simp only [List.length_append, List.length_set, List.length_cons, List.length_nil] at l3
        have hq3 : q2 + 1 < q3 := by
         have := (ln g').term _ _ _ _ h1t
         have t1 : (ls.drop q3).length < (ls.drop (q2 + 1)).length := this
         simp at t1
         omega
        have hc5 : h3[h1.length]? = some (.cells 31 [.v (.int .i64 t.kind), .v (.int .i64 t.n), .str t.s, v]) := o1.rd (aM (by rw [aE nk5]; exact s1)) nk5.symm (by simp) (by simp)
        have hc4 : h3[h.length]? = some (.cells 31 [.v (.int .i64 0), .v (.int .i64 0), .str [], .v (.slice none 0 0)]) := o1.rd (aM (by rw [aE nk4]; exact s2)) nk4.symm (by simp) (by simp)
        have hc7 : h3[h2.length]? = some (.cells 44 [.i ls[q2].kind, .i ls[q2].n, .str ls[q2].s, .i ls[q2].a, .i ls[q2].e]) := o1.rd (by rw [aZ (by simp)]; simp) (by omega) (by simp) (by simp)
        have hc8 : h3[h2.length + 1]? = some (.cells 51 [.i o.prio, .i o.left, .i o.right]) := o1.rd (by rw [aZ (by simp)]; simp) (by omega) (by simp) (by simp)
        have hc8s : ∀ X l, (h3.set h1.length X ++ l)[h2.length + 1]? = some (.cells 51 [.i o.prio, .i o.left, .i o.right]) := fun X l => aM (by rw [aE (by omega)]; exact hc8)
        have hc7s : ∀ X l, (h3.set h1.length X ++ l)[h2.length]? = some (.cells 44 [.i ls[q2].kind, .i ls[q2].n, .str ls[q2].s, .i ls[q2].a, .i ls[q2].e]) := fun X l => aM (by rw [aE (by omega)]; exact hc7)
        have hc5_g := fun l => aF (l := l) hc5
        have hc5_s := fun o l => aG (l := l) hc5 o
        have hc5_e := fun o l => aD (o := o) (l := l) hc5
        have hc5_h := fun o => aH (o := o) hc5
        have hc7_g := fun l => aF (l := l) hc7
        have hc7_s := fun o l => aG (l := l) hc7 o
        have hc7_e := fun o l => aD (o := o) (l := l) hc7
        have hc7_h := fun o => aH (o := o) hc7
        have hc8_g := fun l => aF (l := l) hc8
        have hc8_s := fun o l => aG (l := l) hc8 o
        have hc8_e := fun o l => aD (o := o) (l := l) hc8
        have hc8_h := fun o => aH (o := o) hc8
        simp -implicitDefEqProofs only [go_sem, hc5, hc5_g, hc5_s, hc7, hc7_g, hc8s]
        refine ⟨by omega, (Tm.mk 5 0 ls[q2].s [t, u.1], o.prio), _, Wk.pick (by simp; omega) (by simp [go_sem]), ⟨.own h3.length 4 [.agg [.v (.int .i64 t.kind), .v (.int .i64 t.n), .str t.s, v], enc u.1], aM (aH hc5), Wd.fz ⟨hwv, Wd.rfl _, trivial⟩⟩, aM (by rw [aE n45.symm]; exact hc4), (k0.turnK _ (by omega)).more _, q3, ns3, g', by omega, o3, o4, (o5.other hc5 nk5.symm (by simp) (by simp) _).app _, by omega, s9⟩
   ·rw [hK1, if_pos (by simp)] at s9
    rcases cN ls[q2].s m3 with ⟨a, b⟩ | ⟨i, o, a, b, c⟩
    ·have hI : infixO ls[q2].s = none := by rw [<- hT3]; exact b
     rw [hI] at s9
     have he : r = .ok (t, pr) (ls.drop q2) ns2 := by rw [bW hq]; cases s9; rfl
     simp -implicitDefEqProofs only [go_sem, aY, a, aQ, aS, List.append_assoc, hk_g, s1_g, s2_g, s2_s, s2_e, hm3_g]
     exact lQ (by simp; omega) (hout _ _ he) hwv
    ·have hI : infixO ls[q2].s = some o := by rw [<- hT3]; exact b
     rw [hI] at s9
     simp only [Option.map_some] at s9
     by_cases g1 : o.prio > lim
     ·rw [if_pos (.inl g1)] at s9
      have he : r = .ok (t, pr) (ls.drop q2) ns2 := by rw [bW hq]; cases s9; rfl
      have d2 : decide (o.prio > lim) = true := decide_eq_true g1
      simp -implicitDefEqProofs only [go_sem, aY, a, c, encOp, d2, aQ, aS, List.append_assoc, hk_g, s1_g, s2_g, s2_s, s2_e, hm3_g]
      exact lQ (by simp; omega) (hout _ _ he) hwv
     have d2 : decide (o.prio > lim) = false := decide_eq_false g1
     by_cases g2 : pr > o.left
     ·rw [if_pos (.inr g2)] at s9
      have he : r = .ok (t, pr) (ls.drop q2) ns2 := by rw [bW hq]; cases s9; rfl
      have d3 : decide (pr > o.left) = true := decide_eq_true g2
      simp -implicitDefEqProofs only [go_sem, aY, a, c, encOp, d2, d3, aQ, aS, List.append_assoc, hk_g, s1_g, s2_g, s2_s, s2_e, hm3_g]
      exact lQ (by simp; omega) (hout _ _ he) hwv
     have d3 : decide (pr > o.left) = false := decide_eq_false g2
     rw [if_neg (by intro x; exact x.elim g1 g2)] at s9
     simp only [List.tail_cons] at s9
     cases h1t : termF g' o.right (ls.drop (q2 + 1)) ns2 with
     | none => rw [h1t] at s9; cases s9
     | some w =>
      rw [h1t] at s9
      simp -implicitDefEqProofs only [go_sem, aY, a, c, encOp, d2, d3, aQ, aS, List.append_assoc, dB, bP, hk_g, hk_s, hm3_g, w1, n1k]
      refine aJ hC (H g' (by omega) o.right ls (q2 + 1) e ns2 k _ w hl (by omega) (by omega) (hs1 _) h1t) fun x h3 ho => ?_
      have kq := s3.trans (hk1 [.cells 44 [.i ls[q2].kind, .i ls[q2].n, .str ls[q2].s, .i ls[q2].a, .i ls[q2].e], .cells 51 [.i o.prio, .i o.left, .i o.right]])
      cases w with
      | bad rest =>
       obtain ⟨o1, rfl⟩ := ho
       cases s9
       simp -implicitDefEqProofs only [go_sem]
       exact aP (kq.trans o1).1 (RdOut.bad (kq.trans o1))
      | ok u rest ns3 =>
       obtain ⟨o1, rfl, q3, o2, o3, o4, o5⟩ := ho
       subst o2
       simp only at s9
       have k0 := kq.trans o1
       have l3 := o1.1
       simp only [List.length_append, List.length_set, List.length_cons, List.length_nil] at l3
       have hq3 : q2 + 1 < q3 := by
        have := (ln g').term _ _ _ _ h1t
        have t1 : (ls.drop q3).length < (ls.drop (q2 + 1)).length := this
        simp at t1
        omega
       have hc5 : h3[h1.length]? = some (.cells 31 [.v (.int .i64 t.kind), .v (.int .i64 t.n), .str t.s, v]) := o1.rd (aM (by rw [aE nk5]; exact s1)) nk5.symm (by simp) (by simp)
       have hc4 : h3[h.length]? = some (.cells 31 [.v (.int .i64 0), .v (.int .i64 0), .str [], .v (.slice none 0 0)]) := o1.rd (aM (by rw [aE nk4]; exact s2)) nk4.symm (by simp) (by simp)
       have hc7 : h3[h2.length]? = some (.cells 44 [.i ls[q2].kind, .i ls[q2].n, .str ls[q2].s, .i ls[q2].a, .i ls[q2].e]) := o1.rd (by rw [aZ (by simp)]; simp) (by omega) (by simp) (by simp)
       have hc8 : h3[h2.length + 1]? = some (.cells 51 [.i o.prio, .i o.left, .i o.right]) := o1.rd (by rw [aZ (by simp)]; simp) (by omega) (by simp) (by simp)
       have hc8s : ∀ X l, (h3.set h1.length X ++ l)[h2.length + 1]? = some (.cells 51 [.i o.prio, .i o.left, .i o.right]) := fun X l => aM (by rw [aE (by omega)]; exact hc8)
       have hc7s : ∀ X l, (h3.set h1.length X ++ l)[h2.length]? = some (.cells 44 [.i ls[q2].kind, .i ls[q2].n, .str ls[q2].s, .i ls[q2].a, .i ls[q2].e]) := fun X l => aM (by rw [aE (by omega)]; exact hc7)
       have hc5_g := fun l => aF (l := l) hc5
       have hc5_s := fun o l => aG (l := l) hc5 o
       have hc5_e := fun o l => aD (o := o) (l := l) hc5
       have hc5_h := fun o => aH (o := o) hc5
       have hc7_g := fun l => aF (l := l) hc7
       have hc7_s := fun o l => aG (l := l) hc7 o
       have hc7_e := fun o l => aD (o := o) (l := l) hc7
       have hc7_h := fun o => aH (o := o) hc7
       have hc8_g := fun l => aF (l := l) hc8
       have hc8_s := fun o l => aG (l := l) hc8 o
       have hc8_e := fun o l => aD (o := o) (l := l) hc8
       have hc8_h := fun o => aH (o := o) hc8
       simp -implicitDefEqProofs only [go_sem, hc5, hc5_g, hc5_s, hc7, hc7_g, hc8s]
       refine ⟨by omega, (Tm.mk 5 0 ls[q2].s [t, u.1], o.prio), _, Wk.pick (by simp; omega) (by simp [go_sem]), ⟨.own h3.length 4 [.agg [.v (.int .i64 t.kind), .v (.int .i64 t.n), .str t.s, v], enc u.1], aM (aH hc5), Wd.fz ⟨hwv, Wd.rfl _, trivial⟩⟩, aM (by rw [aE n45.symm]; exact hc4), (k0.turnK _ (by omega)).more _, q3, ns3, g', by omega, o3, o4, (o5.other hc5 nk5.symm (by simp) (by simp) _).app _, by omega, s9⟩
theorem t64 (f : Nat) : Term64 GL f := by
  induction f using Nat.strongRecOn with
  | _ f ih =>
   refine h64 ih fun g hg => ?_
   cases g with
   | zero => intro lim ls p e ns k h r _ _ _ _ hr; rw [firstF] at hr; cases hr
   | succ g =>
    refine h106 ?_ ?_
    ·cases g with
     | zero => intro ls p e ns k h r hp _ _ _ hr; rw [bracketF] at hr; cases hr
     | succ g => exact h148 (ih g (by omega)) (h190 fun g' hg' => ih g' (by omega))
    ·cases g with
     | zero => intro lim ls p e ns k h r hp _ _ _ hr; rw [namedF] at hr; cases hr
     | succ g => exact h149 (ih g (by omega)) (h190 fun g' hg' => ih g' (by omega))
end Go.Rip
