/- Numbers are sorted: what equals the first is set ahead. -/
import Derived.Test.YtndcajdameofjaaGreatDoorRipAW
namespace Go.Rip
open Go
set_option maxRecDepth 100000
variable {GL : Glob}
def PartE (a b : Nat) (pv : Int) (i j : Nat) (l : List Int) : Prop := (∀ x, a < x -> x < i -> l.getD x 0 <= l.getD a 0) /\ (∀ x, j < x -> x < b -> l.getD a 0 < l.getD x 0) /\ a + 1 <= i /\ j < b /\ a <= j /\ i <= j + 1 /\ l.getD a 0 = pv
theorem PartE.up {a b i j : Nat} {pv : Int} {l : List Int} (h : PartE a b pv i j l) (hij : i <= j) (hlt : ¬ l.getD a 0 < l.getD i 0) : PartE a b pv (i + 1) j l := by
 obtain ⟨h1, h2, h3, h4, h5, h6, h7⟩ := h
 refine ⟨fun x hx1 hx2 => ?_, h2, by omega, h4, h5, by omega, h7⟩
 by_cases e : x = i
 ·subst e; omega
 ·exact h1 x hx1 (by omega)
theorem PartE.down {a b i j : Nat} {pv : Int} {l : List Int} (h : PartE a b pv i j l) (hij : i <= j) (hlt : l.getD a 0 < l.getD j 0) : PartE a b pv i (j - 1) l := by
 obtain ⟨h1, h2, h3, h4, h5, h6, h7⟩ := h
 refine ⟨h1, fun x hx1 hx2 => ?_, h3, by omega, by omega, by omega, h7⟩
 by_cases e : x = j
 ·subst e; exact hlt
 ·exact h2 x (by omega) hx2
theorem PartE.swp {a b i j : Nat} {pv : Int} {l : List Int} (h : PartE a b pv i j l) (hij : i <= j) (hi : l.getD a 0 < l.getD i 0) (hj : ¬ l.getD a 0 < l.getD j 0) (hb : b <= l.length) : PartE a b pv (i + 1) (j - 1) (swp l i j) := by
 obtain ⟨h1, h2, h3, h4, h5, h6, h7⟩ := h
 have hne : i ≠ j := by rintro rfl; exact hj hi
 have g := cR (l := l) (i := i) (j := j) (by omega) (by omega)
 have ga : (Go.Rip.swp l i j).getD a 0 = l.getD a 0 := by rw [g, if_neg (by omega), if_neg (by omega)]
 refine ⟨fun x hx1 hx2 => ?_, fun x hx1 hx2 => ?_, by omega, by omega, by omega, by omega, ga.trans h7⟩
 ·rw [ga, g, if_neg (by omega)]
  by_cases e : x = i
  ·rw [if_pos e]; omega
  ·rw [if_neg e]; exact h1 x hx1 (by omega)
 ·rw [ga, g]
  by_cases e : x = j
  ·rw [if_pos e]; exact hi
  ·rw [if_neg e, if_neg (by omega)]; exact h2 x (by omega) hx2
def PartedE (a b : Nat) (pv : Int) (m : Nat) (l : List Int) : Prop := (a < m /\ m <= b) /\ l.getD a 0 = pv /\ (∀ x, a <= x -> x < m -> l.getD x 0 <= l.getD a 0) /\ ∀ x, m <= x -> x < b -> l.getD a 0 < l.getD x 0
theorem PartE.done {a b i j : Nat} {pv : Int} {l : List Int} (h : PartE a b pv i j l) (hij : ¬ i <= j) : PartedE a b pv i l := by
 obtain ⟨h1, h2, h3, h4, h5, h6, h7⟩ := h
 refine ⟨⟨by omega, by omega⟩, h7, fun x hx1 hx2 => ?_, fun x hx1 hx2 => h2 x (by omega) hx2⟩
 by_cases e : x = a
 ·subst e; exact Da _
 ·exact h1 x (by omega) hx2
set_option maxHeartbeats 4000000 in
theorem h299 {fS : SF} {tS : TypeId} {eS : Int -> AV} (cS : SrtOk fS eS) (l0 : List Int) (a b p : Nat) (hab : a + 1 < b) (hb : b <= l0.length) (hl : l0.length < 2 ^ 24) (hp : a <= p /\ p < b) (k : Nat) (h : List AObj) (hk : h[k]? = some (.buf tS 1 (l0.map eS))) :
    Gives (PC GL) fS.n299 [.vec k 1 l0.length, .i a, .i b, .i p] h fun x h' => ∃ (m : Nat) (l' : List Int), x = .i m /\ SegP a b l0 l' /\ PartedE a b (l0.getD p 0) m l' /\ h'[k]? = some (.buf tS 1 (l'.map eS)) /\ Keep (fun i _ => i = k) h h' := by
  have w1 : IntKind.i64.wrap ((a : Int) + 1) = ((a + 1 : Nat) : Int) := by rw [aD _ (by omega)]; omega
  have w2 : IntKind.i64.wrap ((b : Int) - 1) = ((b - 1 : Nat) : Int) := by rw [aD _ (by omega)]; omega
  have ha0 : a < l0.length := by omega
  have hp0 : p < l0.length := by omega
  refine cS.k299.gives (by simp) ?_
  simp -implicitDefEqProofs only [go_sem, c299, r299, hk, bnd ha0, bnd hp0, aQ (eS := eS) ha0, aQ (eS := eS) hp0, aG hk, bL (eS := eS) hp0, w1, w2, Af, As, aJ, Ae, true_and, aT, bH, Bg, bK, cS.one, cS.sol, cS.nag]
  have g1 : SegP a b l0 (swp l0 a p) := SegP.swp (by omega) (by omega) hb
  have g3 := aG (o := .buf tS 1 ((swp l0 a p).map eS)) hk
  have g4 : Keep (fun i _ => i = k) h (h.set k (.buf tS 1 ((swp l0 a p).map eS))) := Keep.set _ hk rfl
  have hpv : (swp l0 a p).getD a 0 = l0.getD p 0 := by
    rw [cR ha0 hp0]
    by_cases e : a = p
    · rw [if_pos e, e]
    · rw [if_neg e, if_pos rfl]
  have g2 : PartE a b (l0.getD p 0) (a + 1) (b - 1) (swp l0 a p) := ⟨fun x _ _ => by omega, fun x _ _ => by omega, Ak _, by omega, by omega, by omega, hpv⟩
  generalize l0.getD p 0 = pv at g2 ⊢
  refine aV hC (fun t (x : List Int × Nat × Nat) => [(9, .i (x.2.1 : Nat)), (10, .i (x.2.2 : Nat)), (0, .vec k 1 l0.length), (1, .i a)]) (fun t x h' => SegP a b l0 x.1 /\ PartE a b pv x.2.1 x.2.2 x.1 /\ h'[k]? = some (.buf tS 1 (x.1.map eS)) /\ Keep (fun i _ => i = k) h h' /\ a + 1 + t <= x.2.1) (b - a) ⟨(swp l0 a p, a + 1, b - 1), _, Wk.pick g4.1 (by simp [go_sem]), g1, g2, g3, g4, Ak _⟩ fun t x h2 ht ⟨g1, g2, g3, g4, g6⟩ => ?_
  obtain ⟨l, i, j⟩ := x
  dsimp only at g1 g2 g3 g6
  have hlen : l0.length = l.length := g1.1.symm
  have hal : a < l.length := by omega
  have ea := aQ (eS := eS) hal
  simp only [hlen]
  simp -implicitDefEqProofs only [go_sem]
  refine aV hC (fun u (_ : Unit) => [(9, .i ((i + u : Nat) : Int)), (10, .i ((j : Nat) : Int)), (0, .vec k 1 l.length), (1, .i a)]) (fun u (_ : Unit) h' => PartE a b pv (i + u) j l /\ h'[k]? = some (.buf tS 1 (l.map eS)) /\ Keep (fun i _ => i = k) h h') (b - a) ⟨(), _, Wk.pick (by simpa using g4.1) (by simp [go_sem]), g2, g3, g4⟩ fun u _ h2 hu ⟨g2, g3, g4⟩ => ?_
  have hbd := g2.2.2
  have wi : IntKind.i64.wrap (((i + u : Nat) : Int) + 1) = ((i + (u + 1) : Nat) : Int) := by rw [aD _ (by omega)]; omega
  simp -implicitDefEqProofs only [go_sem]
  by_cases ci : i + u <= j /\ ¬ l.getD a 0 < l.getD (i + u) 0
  · have d1 : decide (((i + u : Nat) : Int) <= (j : Int)) = true := Ac (by omega)
    have hil : i + u < l.length := by omega
    simp -implicitDefEqProofs only [go_sem, d1, g3, bnd hal, bnd hil, ea, aQ (eS := eS) hil, Af, aJ, Ae, true_and, aT, cS.one]
    refine aC hC (cS.less _ _) ?_
    simp -implicitDefEqProofs only [go_sem, Ai ci.2, Ax, wi]
    exact ⟨by omega, (), h2, Wk.pick g4.1 (by simp [go_sem]), g2.up ci.1 ci.2, g3, g4⟩
  by_cases c2 : i + u <= j
  all_goals (first
    | (have d1 : decide (((i + u : Nat) : Int) <= (j : Int)) = true := Ac (by omega)
       have hil : i + u < l.length := by omega
       have c3 : l.getD a 0 < l.getD (i + u) 0 := Bz fun h => ci ⟨c2, h⟩
       simp -implicitDefEqProofs only [go_sem, d1, g3, bnd hal, bnd hil, ea, aQ (eS := eS) hil, Af, aJ, Ae, true_and, aT, cS.one]
       refine aC hC (cS.less _ _) ?_
       simp -implicitDefEqProofs only [go_sem, Ac c3, Av])
    | (have d1 : decide (((i + u : Nat) : Int) <= (j : Int)) = false := Ai (by omega)
       simp -implicitDefEqProofs only [go_sem, d1]))
  all_goals
    have g7 : a + 1 + t <= i + u := by omega
    clear c2 hu wi hbd
    generalize i + u = i at *
    have hjb0 : j < b := g2.2.2.2.1
    have hai0 : a + 1 <= i := g2.2.2.1
    refine aV hC (fun u (_ : Unit) => [(9, .i ((i : Nat) : Int)), (10, .i ((j - u : Nat) : Int)), (0, .vec k 1 l.length), (1, .i a)]) (fun u (_ : Unit) h' => u <= j /\ PartE a b pv i (j - u) l /\ h'[k]? = some (.buf tS 1 (l.map eS)) /\ Keep (fun i _ => i = k) h h') (b - a) ⟨(), _, Wk.pick (by simpa using g4.1) (by simp [go_sem]), Ap _, g2, g3, g4⟩ fun u _ h2 hu ⟨g5, g2, g3, g4⟩ => ?_
    have hbd := g2.2.2
    have hju : j - (u + 1) = j - u - 1 := by omega
    have wj : 1 <= j - u -> IntKind.i64.wrap (((j - u : Nat) : Int) - 1) = ((j - u - 1 : Nat) : Int) := fun h => by rw [aD _ (by omega)]; omega
    simp -implicitDefEqProofs only [go_sem]
    by_cases cj : i <= j - u /\ l.getD a 0 < l.getD (j - u) 0
    · have d1 : decide ((i : Int) <= ((j - u : Nat) : Int)) = true := Ac (by omega)
      have hjl : j - u < l.length := by omega
      simp -implicitDefEqProofs only [go_sem, d1, g3, bnd hal, bnd hjl, ea, aQ (eS := eS) hjl, Af, aJ, Ae, true_and, aT, cS.one]
      refine aC hC (cS.less _ _) ?_
      simp -implicitDefEqProofs only [go_sem, Ac cj.2, wj (by omega), hju]
      exact ⟨by omega, (), h2, Wk.pick g4.1 (by simp [go_sem]), by omega, g2.down cj.1 cj.2, g3, g4⟩
    have cii : i <= j - u -> l.getD a 0 < l.getD i 0 := fun h => Bz fun hh => ci ⟨by omega, hh⟩
    have cjj : i <= j - u -> ¬ l.getD a 0 < l.getD (j - u) 0 := fun h hh => cj ⟨h, hh⟩
    by_cases c2 : i <= j - u
    all_goals (first
      | (have d1 : decide ((i : Int) <= ((j - u : Nat) : Int)) = true := Ac (by omega)
         have hjl : j - u < l.length := by omega
         have c3 : ¬ l.getD a 0 < l.getD (j - u) 0 := fun h => cj ⟨c2, h⟩
         simp -implicitDefEqProofs only [go_sem, d1, g3, bnd hal, bnd hjl, ea, aQ (eS := eS) hjl, Af, aJ, Ae, true_and, aT, cS.one]
         refine aC hC (cS.less _ _) ?_
         simp -implicitDefEqProofs only [go_sem, Ai c3])
      | (have d1 : decide ((i : Int) <= ((j - u : Nat) : Int)) = false := Ai (by omega)
         simp -implicitDefEqProofs only [go_sem, d1]))
    all_goals
      clear c2 hu wj hbd hju g5 ci cj hjb0
      generalize j - u = j at *
      by_cases hij : i <= j
      · have d1 : decide ((i : Int) > (j : Int)) = false := Ai (by omega)
        have hbd := g2.2.2
        have hil : i < l.length := by omega
        have hjl : j < l.length := by omega
        have wi : IntKind.i64.wrap ((i : Int) + 1) = ((i + 1 : Nat) : Int) := by rw [aD _ (by omega)]; omega
        have wj : IntKind.i64.wrap ((j : Int) - 1) = ((j - 1 : Nat) : Int) := by rw [aD _ (by omega)]; omega
        have p2 := g2.swp hij (cii hij) (cjj hij) (by omega)
        have p1 := g1.trans (SegP.swp (i := i) (j := j) (by omega) (by omega) (by omega))
        have p3 := aG (o := .buf tS 1 ((swp l i j).map eS)) g3
        have p4 := g4.trans (Keep.set (.buf tS 1 ((swp l i j).map eS)) g3 rfl)
        simp -implicitDefEqProofs only [go_sem, d1, g3, bnd hil, bnd hjl, aQ (eS := eS) hil, aQ (eS := eS) hjl, aG g3, bL (eS := eS) hjl, wi, wj, Af, As, aJ, Ae, true_and, aT, bH, Bg, bK, cS.one, cS.sol, cS.nag]
        exact ⟨by omega, (swp l i j, i + 1, j - 1), _, Wk.pick (by simpa using g4.1) (by simp [go_sem]), p1, p2, p3, p4, by dsimp only; omega⟩
      · have d1 : decide ((i : Int) > (j : Int)) = true := Ac (by omega)
        simp -implicitDefEqProofs only [go_sem, d1]
        have hbd := g2.2.2
        exact aH g4.1 ⟨i, l, rfl, g1, g2.done hij, g3, g4⟩
def Low (a b : Nat) (l : List Int) : Prop := a = 0 ∨ ∀ x, a <= x -> x < b -> l.getD (a - 1) 0 <= l.getD x 0
theorem Low.seg {a b : Nat} {l l' : List Int} (h : Low a b l) (hs : SegP a b l l') (hb : b <= l.length) : Low a b l' := by
 rcases h with h | h
 ·exact .inl h
 by_cases e : a = 0
 ·exact .inl e
 refine .inr fun x h1 h2 => ?_
 obtain ⟨y, hy, e2⟩ := hs.mem hb ⟨h1, h2⟩
 rw [e2, hs.same (by omega)]
 exact h y hy.1 hy.2
theorem Srt.grow {a i : Nat} {l : List Int} (h : Srt a i l) (hi : a < i) (hlt : ¬ l.getD i 0 < l.getD (i - 1) 0) : Srt a (i + 1) l := fun p q hp hpq hq => by
 by_cases e : q = i
 ·subst e
  by_cases e2 : p = q - 1
  ·subst e2; omega
  ·have := h p (q - 1) hp (by omega) (by omega); omega
 ·exact h p q hp hpq (by omega)
theorem Srt.seg {a i b c : Nat} {l l' : List Int} (h : Srt a i l) (hs : SegP c b l l') (hc : i <= c) : Srt a i l' := fun p q hp hpq hq => by
 rw [hs.same (by omega), hs.same (by omega)]; exact h p q hp hpq hq
set_option maxHeartbeats 4000000 in
theorem h297 {fS : SF} {tS : TypeId} {eS : Int -> AV} (cS : SrtOk fS eS) (l0 : List Int) (a b : Nat) (hab : a + 12 < b) (hb : b <= l0.length) (hl : l0.length < 2 ^ 24) (hlow : Low a b l0) (k : Nat) (h : List AObj) (hk : h[k]? = some (.buf tS 1 (l0.map eS))) :
    Gives (PC GL) fS.n297 [.vec k 1 l0.length, .i a, .i b] h fun x h' => ∃ (z : Bool) (l' : List Int), x = .b z /\ SegP a b l0 l' /\ (z = true -> Srt a b l') /\ h'[k]? = some (.buf tS 1 (l'.map eS)) /\ Keep (fun i _ => i = k) h h' := by
  have w1 : IntKind.i64.wrap ((a : Int) + 1) = ((a + 1 : Nat) : Int) := by rw [aD _ (by omega)]; omega
  refine cS.k297.gives (by simp) ?_
  simp -implicitDefEqProofs only [go_sem, c297, r297, w1]
  refine aV hC (fun t (x : List Int × Nat) => [(8, .i (t : Nat)), (7, .i (x.2 : Nat)), (0, .vec k 1 l0.length), (1, .i a), (2, .i b)]) (fun t x h' => SegP a b l0 x.1 /\ h'[k]? = some (.buf tS 1 (x.1.map eS)) /\ Keep (fun i _ => i = k) h h' /\ Srt a x.2 x.1 /\ a + 1 <= x.2 /\ x.2 <= b) 5 ⟨(l0, a + 1), h, Wk.pick (Ak _) (by simp [go_sem]), SegP.refl _ _ _, hk, Keep.refl _ _, fun p q _ _ _ => by omega, Ak _, by dsimp only; omega⟩ fun t x h1 ht ⟨g1, g3, g4, g5, g6, g7⟩ => ?_
  obtain ⟨l, i⟩ := x
  dsimp only at g1 g3 g5 g6 g7
  have hlen : l0.length = l.length := g1.1.symm
  have wt : IntKind.i64.wrap ((t : Int) + 1) = ((t + 1 : Nat) : Int) := by rw [aD _ (by omega)]; omega
  simp only [hlen]
  simp -implicitDefEqProofs only [go_sem]
  by_cases ht5 : t < 5
  · have d0 : decide ((t : Int) < 5) = true := Ac (by omega)
    simp -implicitDefEqProofs only [go_sem, d0]
    refine aV hC (fun u (_ : Unit) => [(7, .i ((i + u : Nat) : Int)), (8, .i (t : Nat)), (0, .vec k 1 l.length), (1, .i a), (2, .i b)]) (fun u (_ : Unit) h' => h'[k]? = some (.buf tS 1 (l.map eS)) /\ Keep (fun i _ => i = k) h h' /\ Srt a (i + u) l /\ i + u <= b) (b - i) ⟨(), h1, Wk.pick g4.1 (by simp [go_sem]), g3, g4, g5, g7⟩ fun u _ h2 hu ⟨g3, g4, g5, g7⟩ => ?_
    have wi : IntKind.i64.wrap (((i + u : Nat) : Int) + 1) = ((i + (u + 1) : Nat) : Int) := by rw [aD _ (by omega)]; omega
    have wi1 : IntKind.i64.wrap (((i + u : Nat) : Int) - 1) = ((i + u - 1 : Nat) : Int) := by rw [aD _ (by omega)]; omega
    have hi1l : i + u - 1 < l.length := by omega
    simp -implicitDefEqProofs only [go_sem]
    by_cases c1 : i + u < b /\ ¬ l.getD (i + u) 0 < l.getD (i + u - 1) 0
    · have d1 : decide (((i + u : Nat) : Int) < (b : Int)) = true := Ac (by omega)
      have hil : i + u < l.length := by omega
      simp -implicitDefEqProofs only [go_sem, d1, wi1, g3, bnd hil, bnd hi1l, aQ (eS := eS) hil, aQ (eS := eS) hi1l, Af, aJ, Ae, true_and, aT, cS.one]
      refine aC hC (cS.less _ _) ?_
      simp -implicitDefEqProofs only [go_sem, Ai c1.2, Ax, wi]
      exact ⟨by omega, (), h2, Wk.pick g4.1 (by simp [go_sem]), g3, g4, g5.grow (by omega) c1.2, by omega⟩
    by_cases c2 : i + u < b
    · have d1 : decide (((i + u : Nat) : Int) < (b : Int)) = true := Ac (by omega)
      have hil : i + u < l.length := by omega
      have c3 : l.getD (i + u) 0 < l.getD (i + u - 1) 0 := Bz fun h => c1 ⟨c2, h⟩
      have de : (((i + u : Nat) : Int) == (b : Int)) = false := by simp; omega
      have wba : IntKind.i64.wrap ((b : Int) - (a : Int)) = ((b - a : Nat) : Int) := by rw [aD _ (by omega)]; omega
      simp -implicitDefEqProofs only [go_sem, d1, wi1, g3, bnd hil, bnd hi1l, aQ (eS := eS) hil, aQ (eS := eS) hi1l, Af, aJ, Ae, true_and, aT, cS.one]
      refine aC hC (cS.less _ _) ?_
      simp -implicitDefEqProofs only [go_sem, Ac c3, Av, de, wba]
      by_cases h50 : b - a < 50
      · have d5 : decide (((b - a : Nat) : Int) < 50) = true := Ac (by omega)
        simp -implicitDefEqProofs only [go_sem, d5]
        exact aH g4.1 ⟨false, l, rfl, g1, (fun h => nomatch h), g3, g4⟩
      have d5 : decide (((b - a : Nat) : Int) < 50) = false := Ai (by omega)
      simp -implicitDefEqProofs only [go_sem, d5, wi1, g3, bnd hil, bnd hi1l, aQ (eS := eS) hil, aQ (eS := eS) hi1l, aG g3, bL (eS := eS) hi1l, Af, As, aJ, Ae, true_and, aT, bH, Bg, bK, cS.one, cS.sol, cS.nag]
      have s1 : SegP a b l (swp l (i + u) (i + u - 1)) := SegP.swp (by omega) (by omega) (by omega)
      have lo1 := ((hlow.seg g1 hb).seg s1 (by omega))
      have q1 := g1.trans s1
      have q3 := aG (o := .buf tS 1 ((swp l (i + u) (i + u - 1)).map eS)) g3
      have q4 := g4.trans (Keep.set (.buf tS 1 ((swp l (i + u) (i + u - 1)).map eS)) g3 rfl)
      have q5 : SrtBut a (i + u) (i + u - 1) (swp l (i + u) (i + u - 1)) := fun p q hp hpq hq hne => by
        have g := cR (l := l) (i := i + u) (j := i + u - 1) (by omega) (by omega)
        rw [g, g, if_neg (by omega), if_neg (by omega), if_neg (by omega), if_neg (by omega)]
        exact g5 p q hp hpq (by omega)
      have hea : a + 1 <= i + u := by omega
      clear g1 g3 g4 g5 hi1l c3 hil c1 de d1 wi s1
      generalize i + u = e at *
      generalize hl1 : swp l e (e - 1) = l1 at *
      have hlen1 : l.length = l1.length := by rw [<- hl1, cG]
      generalize h2.set k (.buf tS 1 (l1.map eS)) = h3 at *
      have wea : IntKind.i64.wrap ((e : Int) - (a : Int)) = ((e - a : Nat) : Int) := by rw [aD _ (by omega)]; omega
      have wbe : IntKind.i64.wrap ((b : Int) - (e : Int)) = ((b - e : Nat) : Int) := by rw [aD _ (by omega)]; omega
      have we1 : IntKind.i64.wrap ((e : Int) + 1) = ((e + 1 : Nat) : Int) := by rw [aD _ (by omega)]; omega
      simp only [hlen1]
      rw [wea]
      clear hl1 hlen1 hlen
      have hlen : l0.length = l1.length := q1.1.symm
      by_cases h2a : e - a >= 2
      · have d6 : decide (((e - a : Nat) : Int) >= 2) = true := Ac (by omega)
        simp -implicitDefEqProofs only [go_sem, d6, wi1]
        refine aV hC (fun v (_ : List Int) => [(9, .i ((e - 1 - v : Nat) : Int)), (7, .i (e : Nat)), (8, .i (t : Nat)), (0, .vec k 1 l1.length), (1, .i a), (2, .i b)]) (fun v m h' => SegP a b l0 m /\ Low a b m /\ h'[k]? = some (.buf tS 1 (m.map eS)) /\ Keep (fun i _ => i = k) h h' /\ SrtBut a e (e - 1 - v) m /\ a + v <= e - 1) (e - 1 - a) ⟨l1, h3, Wk.pick q4.1 (by simp [go_sem]), q1, lo1, q3, q4, q5, by omega⟩ fun v m h4 hv ⟨r1, r2, r3, r4, r5, r6⟩ => ?_
        have hlen2 : l1.length = m.length := by rw [<- hlen]; exact r1.1.symm
        simp only [hlen2]
        simp -implicitDefEqProofs only [go_sem]
        obtain ⟨j, hj⟩ : ∃ j, j = e - 1 - v := ⟨_, rfl⟩
        have hju : e - 1 - (v + 1) = j - 1 := by omega
        simp only [<- hj, hju] at r5 ⊢
        have hjl : j < m.length := by have := r1.1; omega
        have hj1l : j - 1 < m.length := by omega
        have hje : j < e := by omega
        have wj : 1 <= j -> IntKind.i64.wrap ((j : Int) - 1) = ((j - 1 : Nat) : Int) := fun h => by rw [aD _ (by omega)]; omega
        have hml : m.length = l0.length := r1.1
        by_cases cj : 1 <= j /\ m.getD j 0 < m.getD (j - 1) 0
        · have haj : a < j := by
            rcases r2 with r2 | r2
            · omega
            · by_cases e2 : j = a
              · have := r2 a (Ak _) (by omega)
                rw [e2] at cj
                omega
              · omega
          have d7 : decide ((j : Int) >= 1) = true := Ac (by omega)
          have wj := wj cj.1
          have s1 : SegP a b m (swp m j (j - 1)) := SegP.swp (by omega) (by omega) (by omega)
          simp -implicitDefEqProofs only [go_sem, d7, wj, r3, bnd hjl, bnd hj1l, aQ (eS := eS) hjl, aQ (eS := eS) hj1l, Af, aJ, Ae, true_and, aT, cS.one]
          refine aC hC (cS.less _ _) ?_
          simp -implicitDefEqProofs only [go_sem, Ac cj.2, Av, wj, r3, bnd hjl, bnd hj1l, aQ (eS := eS) hjl, aQ (eS := eS) hj1l, aG r3, bL (eS := eS) hj1l, Af, As, aJ, Ae, true_and, aT, bH, Bg, bK, cS.one, cS.sol, cS.nag]
          exact ⟨by omega, swp m j (j - 1), _, Wk.pick (by simpa using r4.1) (by simp [go_sem]), r1.trans s1, r2.seg s1 (by omega), aG r3, r4.trans (Keep.set _ r3 rfl), r5.swp haj hje (by omega) cj.2, by omega⟩
        have r7 : Srt a e m := r5.all fun haj hlt => cj ⟨by omega, hlt⟩
        by_cases c4 : 1 <= j
        all_goals (first
          | (have d7 : decide ((j : Int) >= 1) = true := Ac (by omega)
             have c5 : ¬ m.getD j 0 < m.getD (j - 1) 0 := fun h => cj ⟨c4, h⟩
             have wj := wj c4
             simp -implicitDefEqProofs only [go_sem, d7, wj, r3, bnd hjl, bnd hj1l, aQ (eS := eS) hjl, aQ (eS := eS) hj1l, Af, aJ, Ae, true_and, aT, cS.one]
             refine aC hC (cS.less _ _) ?_
             simp -implicitDefEqProofs only [go_sem, Ai c5, Ax])
          | (have d7 : decide ((j : Int) >= 1) = false := Ai (by omega)
             simp -implicitDefEqProofs only [go_sem, d7]))
        all_goals
          clear cj hjl hj1l wj r5 r2 c4 hj hju
          have hme : m.length = l0.length := r1.1
          by_cases h2b : b - e >= 2
          · have d7 : decide (((b - e : Nat) : Int) >= 2) = true := Ac (by omega)
            simp -implicitDefEqProofs only [go_sem, d7, wbe, we1]
            refine aV hC (fun v (_ : List Int) => [(10, .i ((e + 1 + v : Nat) : Int)), (7, .i (e : Nat)), (8, .i (t : Nat)), (0, .vec k 1 m.length), (1, .i a), (2, .i b)]) (fun v m' h' => SegP e b m m' /\ h'[k]? = some (.buf tS 1 (m'.map eS)) /\ Keep (fun i _ => i = k) h h') (b - (e + 1)) ⟨m, h4, Wk.pick r4.1 (by simp [go_sem]), SegP.refl _ _ _, r3, r4⟩ fun v m2 h5 hv ⟨s1, s3, s4⟩ => ?_
            have hlen3 : m.length = m2.length := s1.1.symm
            have wv : IntKind.i64.wrap (((e + 1 + v : Nat) : Int) + 1) = ((e + 1 + (v + 1) : Nat) : Int) := by rw [aD _ (by omega)]; omega
            have wv1 : IntKind.i64.wrap (((e + 1 + v : Nat) : Int) - 1) = ((e + v : Nat) : Int) := by rw [aD _ (by omega)]; omega
            simp only [hlen3]
            simp -implicitDefEqProofs only [go_sem]
            by_cases ck : e + 1 + v < b /\ m2.getD (e + 1 + v) 0 < m2.getD (e + v) 0
            · have d8 : decide (((e + 1 + v : Nat) : Int) < (b : Int)) = true := Ac (by omega)
              have hxl : e + 1 + v < m2.length := by omega
              have hyl : e + v < m2.length := by omega
              simp -implicitDefEqProofs only [go_sem, d8, wv1, s3, bnd hxl, bnd hyl, aQ (eS := eS) hxl, aQ (eS := eS) hyl, Af, aJ, Ae, true_and, aT, cS.one]
              refine aC hC (cS.less _ _) ?_
              simp -implicitDefEqProofs only [go_sem, Ac ck.2, Av, wv1, s3, bnd hxl, bnd hyl, aQ (eS := eS) hxl, aQ (eS := eS) hyl, aG s3, bL (eS := eS) hyl, wv, Af, As, aJ, Ae, true_and, aT, bH, Bg, bK, cS.one, cS.sol, cS.nag]
              exact ⟨by omega, swp m2 (e + 1 + v) (e + v), _, Wk.pick (by simpa using s4.1) (by simp [go_sem]), s1.trans (SegP.swp (by omega) (by omega) (by omega)), aG s3, s4.trans (Keep.set _ s3 rfl)⟩
            by_cases c4 : e + 1 + v < b
            all_goals (first
              | (have d8 : decide (((e + 1 + v : Nat) : Int) < (b : Int)) = true := Ac (by omega)
                 have hxl : e + 1 + v < m2.length := by omega
                 have hyl : e + v < m2.length := by omega
                 have c5 : ¬ m2.getD (e + 1 + v) 0 < m2.getD (e + v) 0 := fun h => ck ⟨c4, h⟩
                 simp -implicitDefEqProofs only [go_sem, d8, wv1, s3, bnd hxl, bnd hyl, aQ (eS := eS) hxl, aQ (eS := eS) hyl, Af, aJ, Ae, true_and, aT, cS.one]
                 refine aC hC (cS.less _ _) ?_
                 simp -implicitDefEqProofs only [go_sem, Ai c5, Ax, wt])
              | (have d8 : decide (((e + 1 + v : Nat) : Int) < (b : Int)) = false := Ai (by omega)
                 simp -implicitDefEqProofs only [go_sem, d8, wt]))
            all_goals
              exact ⟨ht5, (m2, e), h5, Wk.pick s4.1 (by simp [go_sem]), r1.trans (s1.mono (by omega) (Ak _)), s3, s4, r7.seg s1 (Ak _), hea, g7⟩
          · have d7 : decide (((b - e : Nat) : Int) >= 2) = false := Ai (by omega)
            simp -implicitDefEqProofs only [go_sem, d7, wbe, wt]
            exact ⟨ht5, (m, e), h4, Wk.pick r4.1 (by simp [go_sem]), r1, r3, r4, r7, hea, g7⟩
      · have d6 : decide (((e - a : Nat) : Int) >= 2) = false := Ai (by omega)
        simp -implicitDefEqProofs only [go_sem, d6]
        have r7 : Srt a e l1 := fun p q _ _ _ => by omega
        have r1 := q1
        have r3 := q3
        have r4 := q4
        clear q1 q3 q4 q5 lo1
        generalize l1 = m at *
        generalize h3 = h4 at *
        have hme : m.length = l0.length := r1.1
        by_cases h2b : b - e >= 2
        · have d7 : decide (((b - e : Nat) : Int) >= 2) = true := Ac (by omega)
          simp -implicitDefEqProofs only [go_sem, d7, wbe, we1]
          refine aV hC (fun v (_ : List Int) => [(10, .i ((e + 1 + v : Nat) : Int)), (7, .i (e : Nat)), (8, .i (t : Nat)), (0, .vec k 1 m.length), (1, .i a), (2, .i b)]) (fun v m' h' => SegP e b m m' /\ h'[k]? = some (.buf tS 1 (m'.map eS)) /\ Keep (fun i _ => i = k) h h') (b - (e + 1)) ⟨m, h4, Wk.pick r4.1 (by simp [go_sem]), SegP.refl _ _ _, r3, r4⟩ fun v m2 h5 hv ⟨s1, s3, s4⟩ => ?_
          have hlen3 : m.length = m2.length := s1.1.symm
          have wv : IntKind.i64.wrap (((e + 1 + v : Nat) : Int) + 1) = ((e + 1 + (v + 1) : Nat) : Int) := by rw [aD _ (by omega)]; omega
          have wv1 : IntKind.i64.wrap (((e + 1 + v : Nat) : Int) - 1) = ((e + v : Nat) : Int) := by rw [aD _ (by omega)]; omega
          simp only [hlen3]
          simp -implicitDefEqProofs only [go_sem]
          by_cases ck : e + 1 + v < b /\ m2.getD (e + 1 + v) 0 < m2.getD (e + v) 0
          · have d8 : decide (((e + 1 + v : Nat) : Int) < (b : Int)) = true := Ac (by omega)
            have hxl : e + 1 + v < m2.length := by omega
            have hyl : e + v < m2.length := by omega
            simp -implicitDefEqProofs only [go_sem, d8, wv1, s3, bnd hxl, bnd hyl, aQ (eS := eS) hxl, aQ (eS := eS) hyl, Af, aJ, Ae, true_and, aT, cS.one]
            refine aC hC (cS.less _ _) ?_
            simp -implicitDefEqProofs only [go_sem, Ac ck.2, Av, wv1, s3, bnd hxl, bnd hyl, aQ (eS := eS) hxl, aQ (eS := eS) hyl, aG s3, bL (eS := eS) hyl, wv, Af, As, aJ, Ae, true_and, aT, bH, Bg, bK, cS.one, cS.sol, cS.nag]
            exact ⟨by omega, swp m2 (e + 1 + v) (e + v), _, Wk.pick (by simpa using s4.1) (by simp [go_sem]), s1.trans (SegP.swp (by omega) (by omega) (by omega)), aG s3, s4.trans (Keep.set _ s3 rfl)⟩
          by_cases c4 : e + 1 + v < b
          all_goals (first
            | (have d8 : decide (((e + 1 + v : Nat) : Int) < (b : Int)) = true := Ac (by omega)
               have hxl : e + 1 + v < m2.length := by omega
               have hyl : e + v < m2.length := by omega
               have c5 : ¬ m2.getD (e + 1 + v) 0 < m2.getD (e + v) 0 := fun h => ck ⟨c4, h⟩
               simp -implicitDefEqProofs only [go_sem, d8, wv1, s3, bnd hxl, bnd hyl, aQ (eS := eS) hxl, aQ (eS := eS) hyl, Af, aJ, Ae, true_and, aT, cS.one]
               refine aC hC (cS.less _ _) ?_
               simp -implicitDefEqProofs only [go_sem, Ai c5, Ax, wt])
            | (have d8 : decide (((e + 1 + v : Nat) : Int) < (b : Int)) = false := Ai (by omega)
               simp -implicitDefEqProofs only [go_sem, d8, wt]))
          all_goals
            exact ⟨ht5, (m2, e), h5, Wk.pick s4.1 (by simp [go_sem]), r1.trans (s1.mono (by omega) (Ak _)), s3, s4, r7.seg s1 (Ak _), hea, g7⟩
        · have d7 : decide (((b - e : Nat) : Int) >= 2) = false := Ai (by omega)
          simp -implicitDefEqProofs only [go_sem, d7, wbe, wt]
          exact ⟨ht5, (m, e), h4, Wk.pick r4.1 (by simp [go_sem]), r1, r3, r4, r7, hea, g7⟩
    · have d1 : decide (((i + u : Nat) : Int) < (b : Int)) = false := Ai (by omega)
      have de : (((i + u : Nat) : Int) == (b : Int)) = true := by simp; omega
      simp -implicitDefEqProofs only [go_sem, d1, de]
      exact aH g4.1 ⟨true, l, rfl, g1, fun _ p q hp hpq hq => g5 p q hp hpq (by omega), g3, g4⟩
  · have d0 : decide ((t : Int) < 5) = false := Ai (by omega)
    simp -implicitDefEqProofs only [go_sem, d0]
    exact aH g4.1 ⟨false, l, rfl, g1, (fun h => nomatch h), g3, g4⟩
end Go.Rip
namespace Go.Rip
open Go
set_option maxRecDepth 100000
def Sep (a b a1 b1 : Nat) (l : List Int) : Prop := ∀ p q, a <= p -> p < q -> q < b -> ¬ (a1 <= p /\ q < b1) -> l.getD p 0 <= l.getD q 0
theorem Sep.start (a b : Nat) (l : List Int) : Sep a b a b l := fun _p _q h1 _h2 h3 h4 => absurd ⟨h1, h3⟩ h4
theorem Sep.seg {a b a1 b1 : Nat} {l l' : List Int} (h : Sep a b a1 b1 l) (hs : SegP a1 b1 l l') (h1 : a <= a1) (h2 : b1 <= b) (hb : b <= l.length) : Sep a b a1 b1 l' := by
 intro p q hp hpq hq hn
 by_cases ep : a1 <= p /\ p < b1
 ·obtain ⟨x, hx, e⟩ := hs.mem (by omega) ep
  rw [e, hs.same (x := q) (by omega)]
  exact h x q (by omega) (by omega) hq (by omega)
 ·rw [hs.same (x := p) (by omega)]
  by_cases eq : a1 <= q /\ q < b1
  ·obtain ⟨x, hx, e⟩ := hs.mem (by omega) eq
   rw [e]
   exact h p x hp (by omega) (by omega) (by omega)
  ·rw [hs.same (x := q) (by omega)]
   exact h p q hp hpq hq hn
theorem Sep.done {a b a1 b1 : Nat} {l : List Int} (h : Sep a b a1 b1 l) (hs : Srt a1 b1 l) : Srt a b l := fun p q hp hpq hq => by
 by_cases e : a1 <= p /\ q < b1
 ·exact hs p q e.1 hpq e.2
 ·exact h p q hp hpq hq e
theorem Sep.right {a b a1 b1 m : Nat} {l l' : List Int} (h : Sep a b a1 b1 l) (hp : Parted a1 b1 m l) (hs : SegP a1 m l l') (hs' : Srt a1 m l') (h1 : a <= a1) (h2 : b1 <= b) (hb : b <= l.length) : Sep a b (m + 1) b1 l' /\ Low (m + 1) b1 l' := by
 obtain ⟨⟨m1, m2⟩, p1, p2⟩ := hp
 have em : l'.getD m 0 = l.getD m 0 := hs.same (by omega)
 have hh := h.seg (hs.mono (Ak _) (by omega)) h1 h2 hb
 have lt : ∀ x, a1 <= x -> x < m -> l'.getD x 0 <= l.getD m 0 := fun x hx1 hx2 => by
  obtain ⟨y, hy, e⟩ := hs.mem (by omega) ⟨hx1, hx2⟩
  rw [e]; exact p1 y hy.1 hy.2
 have ge : ∀ x, m <= x -> x < b1 -> l.getD m 0 <= l'.getD x 0 := fun x hx1 hx2 => by
  rw [hs.same (by omega)]; exact p2 x hx1 hx2
 refine ⟨fun p q hp hpq hq hn => ?_, .inr fun x hx1 hx2 => by rw [show m + 1 - 1 = m by omega, em]; exact ge x (by omega) hx2⟩
 by_cases e : a1 <= p /\ q < b1
 ·by_cases e1 : q < m
  ·exact hs' p q e.1 hpq e1
  ·have hq2 := ge q (by omega) e.2
   by_cases e2 : p < m
   ·have := lt p e.1 e2; omega
   ·have : p = m := by omega
    subst this
    rw [em]; exact hq2
 ·exact hh p q hp hpq hq e
theorem Sep.left {a b a1 b1 m : Nat} {l l' : List Int} (h : Sep a b a1 b1 l) (hp : Parted a1 b1 m l) (hs : SegP (m + 1) b1 l l') (hs' : Srt (m + 1) b1 l') (h1 : a <= a1) (h2 : b1 <= b) (hb : b <= l.length) : Sep a b a1 m l' := by
 obtain ⟨⟨m1, m2⟩, p1, p2⟩ := hp
 have em : l'.getD m 0 = l.getD m 0 := hs.same (by omega)
 have hh := h.seg (hs.mono (by omega) (Ak _)) h1 h2 hb
 have lt : ∀ x, a1 <= x -> x < m -> l'.getD x 0 <= l.getD m 0 := fun x hx1 hx2 => by
  rw [hs.same (by omega)]; exact p1 x hx1 hx2
 have ge : ∀ x, m < x -> x < b1 -> l.getD m 0 <= l'.getD x 0 := fun x hx1 hx2 => by
  obtain ⟨y, hy, e⟩ := hs.mem (by omega) ⟨hx1, hx2⟩
  rw [e]; exact p2 y (by omega) hy.2
 intro p q hp hpq hq hn
 by_cases e : a1 <= p /\ q < b1
 ·by_cases e1 : m < p
  ·exact hs' p q (by omega) hpq e.2
  ·have hle : l'.getD p 0 <= l.getD m 0 := by
    by_cases e2 : p = m
    ·subst e2; rw [em]; exact Da _
    ·exact lt p e.1 (by omega)
   have hge : l.getD m 0 <= l'.getD q 0 := by
    by_cases e2 : q = m
    ·subst e2; rw [em]; exact Da _
    ·exact ge q (by omega) e.2
   omega
 ·exact hh p q hp hpq hq e
theorem Low.sub {a b b' : Nat} {l : List Int} (h : Low a b l) (hb : b' <= b) : Low a b' l := by
 rcases h with h | h
 ·exact .inl h
 ·exact .inr fun x h1 h2 => h x h1 (by omega)
theorem Sep.equal {a b a1 b1 m : Nat} {pv : Int} {l : List Int} (h : Sep a b a1 b1 l) (hp : PartedE a1 b1 pv m l) (hlow : Low a1 b1 l) (h0 : a1 ≠ 0) (hpv : pv <= l.getD (a1 - 1) 0) : Sep a b m b1 l /\ Low m b1 l := by
 obtain ⟨⟨m1, m2⟩, e1, p1, p2⟩ := hp
 have hl : ∀ x, a1 <= x -> x < b1 -> l.getD (a1 - 1) 0 <= l.getD x 0 := (hlow.resolve_left h0)
 have eq : ∀ x, a1 <= x -> x < m -> l.getD x 0 = pv := fun x hx1 hx2 => by
  have := p1 x hx1 hx2
  have := hl x hx1 (by omega)
  omega
 refine ⟨fun p q hp hpq hq hn => ?_, .inr fun x hx1 hx2 => ?_⟩
 ·by_cases e : a1 <= p /\ q < b1
  ·have ep := eq p e.1 (by omega)
   rw [ep]
   by_cases e2 : q < m
   ·rw [eq q (by omega) e2]; exact Da _
   ·have := p2 q (by omega) e.2; omega
  ·exact h p q hp hpq hq e
 ·rw [eq (m - 1) (by omega) (by omega)]
  have := p2 x hx1 hx2
  omega
end Go.Rip
