/- Numbers are sorted: partition. -/
import Derived.Test.YtndcajdameofjaaGreatDoorRipAV
namespace Go.Rip
open Go
set_option maxRecDepth 100000
variable {GL : Glob}
def Part (a b i j : Nat) (l : List Int) : Prop := (∀ x, a < x -> x < i -> l.getD x 0 < l.getD a 0) /\ (∀ x, j < x -> x < b -> l.getD a 0 <= l.getD x 0) /\ a + 1 <= i /\ j < b /\ a <= j /\ i <= j + 1
theorem Part.up {a b i j : Nat} {l : List Int} (h : Part a b i j l) (hij : i <= j) (hlt : l.getD i 0 < l.getD a 0) : Part a b (i + 1) j l := by
 obtain ⟨h1, h2, h3, h4, h5, h6⟩ := h
 refine ⟨fun x hx1 hx2 => ?_, h2, by omega, h4, h5, by omega⟩
 by_cases e : x = i
 ·subst e; exact hlt
 ·exact h1 x hx1 (by omega)
theorem Part.down {a b i j : Nat} {l : List Int} (h : Part a b i j l) (hij : i <= j) (hlt : ¬ l.getD j 0 < l.getD a 0) : Part a b i (j - 1) l := by
 obtain ⟨h1, h2, h3, h4, h5, h6⟩ := h
 refine ⟨h1, fun x hx1 hx2 => ?_, h3, by omega, by omega, by omega⟩
 by_cases e : x = j
 ·subst e; omega
 ·exact h2 x (by omega) hx2
theorem Part.swp {a b i j : Nat} {l : List Int} (h : Part a b i j l) (hij : i <= j) (hi : ¬ l.getD i 0 < l.getD a 0) (hj : l.getD j 0 < l.getD a 0) (hb : b <= l.length) : Part a b (i + 1) (j - 1) (swp l i j) := by
 obtain ⟨h1, h2, h3, h4, h5, h6⟩ := h
 have hne : i ≠ j := by rintro rfl; exact hi hj
 have g := cR (l := l) (i := i) (j := j) (by omega) (by omega)
 have ga : (Go.Rip.swp l i j).getD a 0 = l.getD a 0 := by rw [g, if_neg (by omega), if_neg (by omega)]
 refine ⟨fun x hx1 hx2 => ?_, fun x hx1 hx2 => ?_, by omega, by omega, by omega, by omega⟩
 ·rw [ga, g, if_neg (by omega)]
  by_cases e : x = i
  ·rw [if_pos e]; exact hj
  ·rw [if_neg e]; exact h1 x hx1 (by omega)
 ·rw [ga, g]
  by_cases e : x = j
  ·rw [if_pos e]; omega
  ·rw [if_neg e, if_neg (by omega)]; exact h2 x (by omega) hx2
def Parted (a b m : Nat) (l : List Int) : Prop := (a <= m /\ m < b) /\ (∀ x, a <= x -> x < m -> l.getD x 0 <= l.getD m 0) /\ ∀ x, m <= x -> x < b -> l.getD m 0 <= l.getD x 0
theorem Part.done {a b i j : Nat} {l : List Int} (h : Part a b i j l) (hij : ¬ i <= j) (hb : b <= l.length) : Parted a b j (Go.Rip.swp l j a) := by
 obtain ⟨h1, h2, h3, h4, h5, h6⟩ := h
 have g := cR (l := l) (i := j) (j := a) (by omega) (by omega)
 have gj : (Go.Rip.swp l j a).getD j 0 = l.getD a 0 := by
  rw [g]
  by_cases e : j = a
  ·rw [if_pos e, e]
  ·rw [if_neg e, if_pos rfl]
 refine ⟨⟨h5, h4⟩, fun x hx1 hx2 => ?_, fun x hx1 hx2 => ?_⟩
 ·rw [gj, g]
  by_cases e : x = a
  ·rw [if_pos e]
   have := h1 j (by omega) (by omega)
   omega
  ·rw [if_neg e, if_neg (by omega)]
   have := h1 x (by omega) (by omega)
   omega
 ·rw [gj]
  by_cases e : x = j
  ·subst e; rw [gj]; exact Da _
  ·rw [g, if_neg (by omega), if_neg e]
   exact h2 x (by omega) hx2
set_option maxHeartbeats 4000000 in
theorem h300 {fS : SF} {tS : TypeId} {eS : Int -> AV} (cS : SrtOk fS eS) (l0 : List Int) (a b p : Nat) (hab : a + 1 < b) (hb : b <= l0.length) (hl : l0.length < 2 ^ 24) (hp : a <= p /\ p < b) (k : Nat) (h : List AObj) (hk : h[k]? = some (.buf tS 1 (l0.map eS))) :
    Gives (PC GL) fS.n300 [.vec k 1 l0.length, .i a, .i b, .i p] h fun x h' => ∃ (m : Nat) (z : Bool) (l' : List Int), x = .tup [.i m, .b z] /\ SegP a b l0 l' /\ Parted a b m l' /\ h'[k]? = some (.buf tS 1 (l'.map eS)) /\ Keep (fun i _ => i = k) h h' := by
  have w1 : IntKind.i64.wrap ((a : Int) + 1) = ((a + 1 : Nat) : Int) := by rw [aD _ (by omega)]; omega
  have w2 : IntKind.i64.wrap ((b : Int) - 1) = ((b - 1 : Nat) : Int) := by rw [aD _ (by omega)]; omega
  have ha0 : a < l0.length := by omega
  have hp0 : p < l0.length := by omega
  refine cS.k300.gives (by simp) ?_
  simp only [go_sem, c300, r300, hk, bnd ha0, bnd hp0, aQ (eS := eS) ha0, aQ (eS := eS) hp0, aG hk, bL (eS := eS) hp0, w1, w2, Af, As, aJ, Ae, true_and, aT, bH, Bg, bK, cS.one, cS.sol, cS.nag]
  have g1 : SegP a b l0 (swp l0 a p) := SegP.swp (by omega) (by omega) hb
  have g3 := aG (o := .buf tS 1 ((swp l0 a p).map eS)) hk
  have g4 : Keep (fun i _ => i = k) h (h.set k (.buf tS 1 ((swp l0 a p).map eS))) := Keep.set _ hk rfl
  have hlen : l0.length = (swp l0 a p).length := g1.1.symm
  have g2 : Part a b (a + 1) (b - 1) (swp l0 a p) := ⟨fun x _ _ => by omega, fun x _ _ => by omega, Ak _, by omega, by omega, by omega⟩
  simp only [hlen]
  generalize swp l0 a p = l at g1 g3 g4 hlen g2 ⊢
  generalize h.set k (.buf tS 1 (l.map eS)) = h1 at g3 g4 ⊢
  have hal : a < l.length := by omega
  have ea := aQ (eS := eS) hal
  generalize hi : a + 1 = i at g2 ⊢
  generalize hj : b - 1 = j at g2 ⊢
  refine aV hC (fun u (_ : Unit) => [(10, .i ((i + u : Nat) : Int)), (11, .i ((j : Nat) : Int)), (0, .vec k 1 l.length), (1, .i a)]) (fun u (_ : Unit) h' => Part a b (i + u) j l /\ h'[k]? = some (.buf tS 1 (l.map eS)) /\ Keep (fun i _ => i = k) h h') (b - a) ⟨(), _, Wk.pick (by simpa using g4.1) (by simp [go_sem]), g2, g3, g4⟩ fun u _ h2 hu ⟨g2, g3, g4⟩ => ?_
  have hbd := g2.2.2
  have wi : IntKind.i64.wrap (((i + u : Nat) : Int) + 1) = ((i + (u + 1) : Nat) : Int) := by rw [aD _ (by omega)]; omega
  simp only [go_sem]
  by_cases ci : i + u <= j /\ l.getD (i + u) 0 < l.getD a 0
  · have d1 : decide (((i + u : Nat) : Int) <= (j : Int)) = true := Ac (by omega)
    have hil : i + u < l.length := by omega
    simp only [go_sem, d1, g3, bnd hal, bnd hil, ea, aQ (eS := eS) hil, Af, aJ, Ae, true_and, aT, cS.one]
    refine aC hC (cS.less _ _) ?_
    simp only [go_sem, Ac ci.2, wi]
    exact ⟨by omega, (), h2, Wk.pick g4.1 (by simp [go_sem]), g2.up ci.1 ci.2, g3, g4⟩
  by_cases c2 : i + u <= j
  all_goals (first
    | (have d1 : decide (((i + u : Nat) : Int) <= (j : Int)) = true := Ac (by omega)
       have hil : i + u < l.length := by omega
       have c3 : ¬ l.getD (i + u) 0 < l.getD a 0 := fun h => ci ⟨c2, h⟩
       simp only [go_sem, d1, g3, bnd hal, bnd hil, ea, aQ (eS := eS) hil, Af, aJ, Ae, true_and, aT, cS.one]
       refine aC hC (cS.less _ _) ?_
       simp only [go_sem, Ai c3])
    | (have d1 : decide (((i + u : Nat) : Int) <= (j : Int)) = false := Ai (by omega)
       simp only [go_sem, d1]))
  all_goals
    first
      | have g7 : a + 1 + t <= i + u := by omega
      | skip
    clear c2 hu wi hbd
    generalize i + u = i at *
    have hjb0 : j < b := g2.2.2.2.1
    have hai0 : a + 1 <= i := g2.2.2.1
    refine aV hC (fun u (_ : Unit) => [(10, .i ((i : Nat) : Int)), (11, .i ((j - u : Nat) : Int)), (0, .vec k 1 l.length), (1, .i a)]) (fun u (_ : Unit) h' => u <= j /\ Part a b i (j - u) l /\ h'[k]? = some (.buf tS 1 (l.map eS)) /\ Keep (fun i _ => i = k) h h') (b - a) ⟨(), _, Wk.pick (by simpa using g4.1) (by simp [go_sem]), Ap _, g2, g3, g4⟩ fun u _ h2 hu ⟨g5, g2, g3, g4⟩ => ?_
    have hbd := g2.2.2
    have hju : j - (u + 1) = j - u - 1 := by omega
    have wj : 1 <= j - u -> IntKind.i64.wrap (((j - u : Nat) : Int) - 1) = ((j - u - 1 : Nat) : Int) := fun h => by rw [aD _ (by omega)]; omega
    simp only [go_sem]
    by_cases cj : i <= j - u /\ ¬ l.getD (j - u) 0 < l.getD a 0
    · have d1 : decide ((i : Int) <= ((j - u : Nat) : Int)) = true := Ac (by omega)
      have hjl : j - u < l.length := by omega
      simp only [go_sem, d1, g3, bnd hal, bnd hjl, ea, aQ (eS := eS) hjl, Af, aJ, Ae, true_and, aT, cS.one]
      refine aC hC (cS.less _ _) ?_
      simp only [go_sem, Ai cj.2, Ax, wj (by omega), hju]
      exact ⟨by omega, (), h2, Wk.pick g4.1 (by simp [go_sem]), by omega, g2.down cj.1 cj.2, g3, g4⟩
    have cii : i <= j - u -> ¬ l.getD i 0 < l.getD a 0 := fun h hh => ci ⟨by omega, hh⟩
    have cjj : i <= j - u -> l.getD (j - u) 0 < l.getD a 0 := fun h => Bz fun hh => cj ⟨h, hh⟩
    by_cases c2 : i <= j - u
    all_goals (first
      | (have d1 : decide ((i : Int) <= ((j - u : Nat) : Int)) = true := Ac (by omega)
         have hjl : j - u < l.length := by omega
         have c3 : l.getD (j - u) 0 < l.getD a 0 := Bz fun h => cj ⟨c2, h⟩
         simp only [go_sem, d1, g3, bnd hal, bnd hjl, ea, aQ (eS := eS) hjl, Af, aJ, Ae, true_and, aT, cS.one]
         refine aC hC (cS.less _ _) ?_
         simp only [go_sem, Ac c3, Av])
      | (have d1 : decide ((i : Int) <= ((j - u : Nat) : Int)) = false := Ai (by omega)
         simp only [go_sem, d1]))
    all_goals
      clear c2 hu wj hbd hju g5 ci cj hjb0
      generalize j - u = j at *
      by_cases hij : i <= j
      · have d1 : decide ((i : Int) > (j : Int)) = false := Ai (by omega)
        have hbd := g2.2.2
        have hil : i < l.length := by omega
        have hjl : j < l.length := by omega
        have wi : IntKind.i64.wrap ((i : Int) + 1) = ((i + 1 : Nat) : Int) := by rw [aD _ (by omega)]; omega
        have wj : IntKind.i64.wrap ((j : Int) - 1) = ((j - 1 : Nat) : Int) := by rw [aD _ (by omega)]; omega
        have p2 := g2.swp hij (cii hij) (cjj hij) (by omega)
        have p1 := g1.trans (SegP.swp (i := i) (j := j) (by omega) (by omega) (by omega))
        have p3 := aG (o := .buf tS 1 ((swp l i j).map eS)) g3
        have p4 := g4.trans (Keep.set (.buf tS 1 ((swp l i j).map eS)) g3 rfl)
        simp only [go_sem, d1, g3, bnd hil, bnd hjl, aQ (eS := eS) hil, aQ (eS := eS) hjl, aG g3, bL (eS := eS) hjl, wi, wj, Af, As, aJ, Ae, true_and, aT, bH, Bg, bK, cS.one, cS.sol, cS.nag]
        refine aV hC (fun t (x : List Int × Nat × Nat) => [(10, .i (x.2.1 : Nat)), (11, .i (x.2.2 : Nat)), (0, .vec k 1 l0.length), (1, .i a)]) (fun t x h' => SegP a b l0 x.1 /\ Part a b x.2.1 x.2.2 x.1 /\ h'[k]? = some (.buf tS 1 (x.1.map eS)) /\ Keep (fun i _ => i = k) h h' /\ a + 1 + t <= x.2.1) (b - a) ⟨(swp l i j, i + 1, j - 1), _, Wk.pick (by simpa using g4.1) (by simp [go_sem, hlen]), p1, p2, p3, p4, by dsimp only; omega⟩ fun t x h2 ht ⟨g1, g2, g3, g4, g6⟩ => ?_
        clear p1 p2 p3 p4 cii cjj hal ea hlen wi wj hil hjl hbd d1
        obtain ⟨l, i, j⟩ := x
        dsimp only at g1 g2 g3 g6
        have hlen : l0.length = l.length := g1.1.symm
        have hal : a < l.length := by omega
        have ea := aQ (eS := eS) hal
        simp only [hlen]
        simp only [go_sem]
        refine aV hC (fun u (_ : Unit) => [(10, .i ((i + u : Nat) : Int)), (11, .i ((j : Nat) : Int)), (0, .vec k 1 l.length), (1, .i a)]) (fun u (_ : Unit) h' => Part a b (i + u) j l /\ h'[k]? = some (.buf tS 1 (l.map eS)) /\ Keep (fun i _ => i = k) h h') (b - a) ⟨(), _, Wk.pick (by simpa using g4.1) (by simp [go_sem]), g2, g3, g4⟩ fun u _ h2 hu ⟨g2, g3, g4⟩ => ?_
        have hbd := g2.2.2
        have wi : IntKind.i64.wrap (((i + u : Nat) : Int) + 1) = ((i + (u + 1) : Nat) : Int) := by rw [aD _ (by omega)]; omega
        simp only [go_sem]
        by_cases ci : i + u <= j /\ l.getD (i + u) 0 < l.getD a 0
        · have d1 : decide (((i + u : Nat) : Int) <= (j : Int)) = true := Ac (by omega)
          have hil : i + u < l.length := by omega
          simp only [go_sem, d1, g3, bnd hal, bnd hil, ea, aQ (eS := eS) hil, Af, aJ, Ae, true_and, aT, cS.one]
          refine aC hC (cS.less _ _) ?_
          simp only [go_sem, Ac ci.2, wi]
          exact ⟨by omega, (), h2, Wk.pick g4.1 (by simp [go_sem]), g2.up ci.1 ci.2, g3, g4⟩
        by_cases c2 : i + u <= j
        all_goals (first
          | (have d1 : decide (((i + u : Nat) : Int) <= (j : Int)) = true := Ac (by omega)
             have hil : i + u < l.length := by omega
             have c3 : ¬ l.getD (i + u) 0 < l.getD a 0 := fun h => ci ⟨c2, h⟩
             simp only [go_sem, d1, g3, bnd hal, bnd hil, ea, aQ (eS := eS) hil, Af, aJ, Ae, true_and, aT, cS.one]
             refine aC hC (cS.less _ _) ?_
             simp only [go_sem, Ai c3])
          | (have d1 : decide (((i + u : Nat) : Int) <= (j : Int)) = false := Ai (by omega)
             simp only [go_sem, d1]))
        all_goals
          first
            | have g7 : a + 1 + t <= i + u := by omega
            | skip
          clear c2 hu wi hbd
          generalize i + u = i at *
          have hjb0 : j < b := g2.2.2.2.1
          have hai0 : a + 1 <= i := g2.2.2.1
          refine aV hC (fun u (_ : Unit) => [(10, .i ((i : Nat) : Int)), (11, .i ((j - u : Nat) : Int)), (0, .vec k 1 l.length), (1, .i a)]) (fun u (_ : Unit) h' => u <= j /\ Part a b i (j - u) l /\ h'[k]? = some (.buf tS 1 (l.map eS)) /\ Keep (fun i _ => i = k) h h') (b - a) ⟨(), _, Wk.pick (by simpa using g4.1) (by simp [go_sem]), Ap _, g2, g3, g4⟩ fun u _ h2 hu ⟨g5, g2, g3, g4⟩ => ?_
          have hbd := g2.2.2
          have hju : j - (u + 1) = j - u - 1 := by omega
          have wj : 1 <= j - u -> IntKind.i64.wrap (((j - u : Nat) : Int) - 1) = ((j - u - 1 : Nat) : Int) := fun h => by rw [aD _ (by omega)]; omega
          simp only [go_sem]
          by_cases cj : i <= j - u /\ ¬ l.getD (j - u) 0 < l.getD a 0
          · have d1 : decide ((i : Int) <= ((j - u : Nat) : Int)) = true := Ac (by omega)
            have hjl : j - u < l.length := by omega
            simp only [go_sem, d1, g3, bnd hal, bnd hjl, ea, aQ (eS := eS) hjl, Af, aJ, Ae, true_and, aT, cS.one]
            refine aC hC (cS.less _ _) ?_
            simp only [go_sem, Ai cj.2, Ax, wj (by omega), hju]
            exact ⟨by omega, (), h2, Wk.pick g4.1 (by simp [go_sem]), by omega, g2.down cj.1 cj.2, g3, g4⟩
          have cii : i <= j - u -> ¬ l.getD i 0 < l.getD a 0 := fun h hh => ci ⟨by omega, hh⟩
          have cjj : i <= j - u -> l.getD (j - u) 0 < l.getD a 0 := fun h => Bz fun hh => cj ⟨h, hh⟩
          by_cases c2 : i <= j - u
          all_goals (first
            | (have d1 : decide ((i : Int) <= ((j - u : Nat) : Int)) = true := Ac (by omega)
               have hjl : j - u < l.length := by omega
               have c3 : l.getD (j - u) 0 < l.getD a 0 := Bz fun h => cj ⟨c2, h⟩
               simp only [go_sem, d1, g3, bnd hal, bnd hjl, ea, aQ (eS := eS) hjl, Af, aJ, Ae, true_and, aT, cS.one]
               refine aC hC (cS.less _ _) ?_
               simp only [go_sem, Ac c3, Av])
            | (have d1 : decide ((i : Int) <= ((j - u : Nat) : Int)) = false := Ai (by omega)
               simp only [go_sem, d1]))
          all_goals
            clear c2 hu wj hbd hju g5 ci cj hjb0
            generalize j - u = j at *
            by_cases hij : i <= j
            · have d1 : decide ((i : Int) > (j : Int)) = false := Ai (by omega)
              have hbd := g2.2.2
              have hil : i < l.length := by omega
              have hjl : j < l.length := by omega
              have wi : IntKind.i64.wrap ((i : Int) + 1) = ((i + 1 : Nat) : Int) := by rw [aD _ (by omega)]; omega
              have wj : IntKind.i64.wrap ((j : Int) - 1) = ((j - 1 : Nat) : Int) := by rw [aD _ (by omega)]; omega
              have p2 := g2.swp hij (cii hij) (cjj hij) (by omega)
              have p1 := g1.trans (SegP.swp (i := i) (j := j) (by omega) (by omega) (by omega))
              have p3 := aG (o := .buf tS 1 ((swp l i j).map eS)) g3
              have p4 := g4.trans (Keep.set (.buf tS 1 ((swp l i j).map eS)) g3 rfl)
              simp only [go_sem, d1, g3, bnd hil, bnd hjl, aQ (eS := eS) hil, aQ (eS := eS) hjl, aG g3, bL (eS := eS) hjl, wi, wj, Af, As, aJ, Ae, true_and, aT, bH, Bg, bK, cS.one, cS.sol, cS.nag]
              exact ⟨by omega, (swp l i j, i + 1, j - 1), _, Wk.pick (by simpa using g4.1) (by simp [go_sem]), p1, p2, p3, p4, by dsimp only; omega⟩
            · have d1 : decide ((i : Int) > (j : Int)) = true := Ac (by omega)
              have hjl : j < l.length := by have := g2.2.2.2.1; omega
              simp only [go_sem, d1, g3, bnd hal, bnd hjl, ea, aQ (eS := eS) hjl, aG g3, bL (eS := eS) hal, Af, As, aJ, Ae, true_and, aT, bH, Bg, bK, cS.one, cS.sol, cS.nag]
              refine aH (by simpa using g4.1) ⟨j, _, swp l j a, rfl, g1.trans (SegP.swp (by have := g2.2.2; omega) (by omega) (by omega)), g2.done hij (by omega), aG g3, g4.trans (Keep.set _ g3 rfl)⟩
      · have d1 : decide ((i : Int) > (j : Int)) = true := Ac (by omega)
        have hjl : j < l.length := by have := g2.2.2.2.1; omega
        simp only [go_sem, d1, g3, bnd hal, bnd hjl, ea, aQ (eS := eS) hjl, aG g3, bL (eS := eS) hal, Af, As, aJ, Ae, true_and, aT, bH, Bg, bK, cS.one, cS.sol, cS.nag]
        refine aH (by simpa using g4.1) ⟨j, _, swp l j a, rfl, g1.trans (SegP.swp (by have := g2.2.2; omega) (by omega) (by omega)), g2.done hij (by omega), aG g3, g4.trans (Keep.set _ g3 rfl)⟩
end Go.Rip
