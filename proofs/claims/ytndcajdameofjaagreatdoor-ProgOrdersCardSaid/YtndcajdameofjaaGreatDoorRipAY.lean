/- Numbers are sorted: pdqsort. -/
import Derived.Test.YtndcajdameofjaaGreatDoorRipAX
namespace Go.Rip
open Go
set_option maxRecDepth 100000
variable {GL : Glob}
set_option maxHeartbeats 4000000 in
theorem h258 {fS : SF} {tS : TypeId} {eS : Int -> AV} (cS : SrtOk fS eS) (n : Nat) : ∀ (l0 : List Int) (a b : Nat) (lim : Int), b - a = n -> a <= b -> b <= l0.length -> l0.length < 2 ^ 24 -> Low a b l0 -> ∀ (k : Nat) (h : List AObj), h[k]? = some (.buf tS 1 (l0.map eS)) ->
  Gives (PC GL) fS.n258 [.vec k 1 l0.length, .i a, .i b, .i lim] h fun _ h' => ∃ l', SegP a b l0 l' /\ Srt a b l' /\ h'[k]? = some (.buf tS 1 (l'.map eS)) /\ Keep (fun i _ => i = k) h h' := by
 induction n using Nat.strongRecOn with
 | _ n ih =>
 intro l0 a b lim hn hab hb hl hlow k h hk
 refine cS.k258.gives (by simp) ?_
 simp -implicitDefEqProofs only [go_sem, c258, r258]
 refine aV hC (fun t (x : List Int × Nat × Nat × Int × Bool × Bool) => [(1, .i (x.2.1 : Nat)), (2, .i (x.2.2.1 : Nat)), (3, .i x.2.2.2.1), (8, .b x.2.2.2.2.1), (9, .b x.2.2.2.2.2), (0, .vec k 1 l0.length)]) (fun t x h' => SegP a b l0 x.1 /\ Sep a b x.2.1 x.2.2.1 x.1 /\ h'[k]? = some (.buf tS 1 (x.1.map eS)) /\ Keep (fun i _ => i = k) h h' /\ Low x.2.1 x.2.2.1 x.1 /\ (a <= x.2.1 /\ x.2.1 <= x.2.2.1 /\ x.2.2.1 <= b) /\ x.2.2.1 - x.2.1 + t <= n) n ⟨(l0, a, b, lim, true, true), h, Wk.pick (Ak _) (by simp [go_sem]), SegP.refl _ _ _, Sep.start _ _ _, hk, Keep.refl _ _, hlow, ⟨Ak _, hab, Ak _⟩, by dsimp only; omega⟩ fun t x h1 ht ⟨g1, g2, g3, g4, g5, g6, g7⟩ => ?_
 obtain ⟨l, a1, b1, lm, wb, wp⟩ := x
 dsimp only at g1 g2 g3 g5 g6 g7
 obtain ⟨ha1, hab1, hb1⟩ := g6
 have hlen : l0.length = l.length := g1.1.symm
 obtain ⟨L, hL⟩ : ∃ L : Nat, L = b1 - a1 := ⟨_, rfl⟩
 have wL : IntKind.i64.wrap ((b1 : Int) - (a1 : Int)) = (L : Int) := by rw [aD _ (by omega)]; omega
 simp only [hlen]
 simp -implicitDefEqProofs only [go_sem, wL]
 by_cases h12 : L <= 12
 ·have d0 : decide ((L : Int) <= 12) = true := Ac (by omega)
  simp -implicitDefEqProofs only [go_sem, d0]
  refine aI hC (h292 cS l a1 b1 (by omega) (by omega) k h1 g3 (by omega)) fun x h2 ⟨l2, s1, s2, b3, k1⟩ => ?_
  simp -implicitDefEqProofs only [go_sem]
  exact aH (g4.trans k1).1 ⟨l2, g1.trans (s1.mono ha1 hb1), (g2.seg s1 ha1 hb1 (by omega)).done s2, b3, g4.trans k1⟩
 have d0 : decide ((L : Int) <= 12) = false := Ai (by omega)
 by_cases hlm : lm = 0
 ·have d1 : (lm == 0) = true := by simpa using hlm
  simp -implicitDefEqProofs only [go_sem, d0, d1]
  refine aI hC (h293 cS l a1 b1 (by omega) (by omega) (by omega) k h1 g3) fun x h2 ⟨l2, s1, s2, b3, k1⟩ => ?_
  simp -implicitDefEqProofs only [go_sem]
  exact aH (g4.trans k1).1 ⟨l2, g1.trans (s1.mono ha1 hb1), (g2.seg s1 ha1 hb1 (by omega)).done s2, b3, g4.trans k1⟩
 have d1 : (lm == 0) = false := by simpa using hlm
 simp -implicitDefEqProofs only [go_sem, d0, d1]
 rcases (Ep wb).symm with hwb | hwb
 focus
  simp -implicitDefEqProofs only [go_sem, hwb, Ax]
  refine aI hC (h294 cS l a1 b1 (by omega) (by omega) (by omega) k h1 g3) fun x h2 ⟨l2, s1, b3, k1⟩ => ?_
  have g1' := g1.trans (s1.mono ha1 hb1)
  have g2' := g2.seg s1 ha1 hb1 (by omega)
  have g5' := g5.seg s1 (by omega)
  have g4' := g4.trans k1
  have hlen' := hlen.trans s1.1.symm
  have hlen2 : l.length = l2.length := s1.1.symm
  simp only [hlen2]
  clear g1 g2 g3 g4 g5 hlen hlen2 s1 k1
  have g1 := g1'
  have g2 := g2'
  have g3 := b3
  have g4 := g4'
  have g5 := g5'
  have hlen := hlen'
  clear g1' g2' g4' g5' b3 hlen'
  generalize l2 = l at *
  generalize h2 = h1 at *
  simp -implicitDefEqProofs only [go_sem]
  generalize IntKind.i64.wrap (lm - 1) = lm
 rotate_left
 focus simp -implicitDefEqProofs only [go_sem, hwb, Av]
 all_goals
  refine aI hC (h295 cS l a1 b1 (by omega) (by omega) (by omega) k h1 g3) fun x h2 ⟨p, z, hx, hp, k1⟩ => ?_
  subst hx
  have g4' := g4.trans k1.of_all
  have g3' := k1.got g3
  clear g3 g4 k1
  have g3 := g3'
  have g4 := g4'
  clear g3' g4'
  generalize h2 = h1 at *
  by_cases hz : z = 2
  focus
   have dz : (z == 2) = true := by simpa using hz
   simp -implicitDefEqProofs only [go_sem, dz]
   refine aI hC (h296 cS l a1 b1 (by omega) (by omega) (by omega) k h1 g3) fun x h2 ⟨l2, s1, b3, k1⟩ => ?_
   have g1' := g1.trans (s1.mono ha1 hb1)
   have g2' := g2.seg s1 ha1 hb1 (by omega)
   have g5' := g5.seg s1 (by omega)
   have g4' := g4.trans k1
   have hlen' := hlen.trans s1.1.symm
   have hlen2 : l.length = l2.length := s1.1.symm
   simp only [hlen2]
   clear g1 g2 g3 g4 g5 hlen hlen2 s1 k1
   have g1 := g1'
   have g2 := g2'
   have g3 := b3
   have g4 := g4'
   have g5 := g5'
   have hlen := hlen'
   clear g1' g2' g4' g5' b3 hlen'
   generalize l2 = l at *
   generalize h2 = h1 at *
   obtain ⟨p2, hp2⟩ : ∃ p2 : Nat, p2 = b1 - 1 - (p - a1) := ⟨_, rfl⟩
   have wp1 : IntKind.i64.wrap ((b1 : Int) - 1) = ((b1 - 1 : Nat) : Int) := by rw [aD _ (by omega)]; omega
   have wp2 : IntKind.i64.wrap ((p : Int) - (a1 : Int)) = ((p - a1 : Nat) : Int) := by rw [aD _ (by omega)]; omega
   have wp3 : IntKind.i64.wrap (((b1 - 1 : Nat) : Int) - ((p - a1 : Nat) : Int)) = (p2 : Int) := by rw [aD _ (by omega)]; omega
   simp -implicitDefEqProofs only [go_sem, wp1, wp2, wp3]
   have hp' : a1 <= p2 /\ p2 < b1 := by omega
   clear hp2 wp1 wp2 wp3 hp
   have hp := hp'
   clear hp'
   generalize p2 = p at *
  rotate_left
  focus
   have dz : (z == 2) = false := by simpa using hz
   simp -implicitDefEqProofs only [go_sem, dz]
  all_goals rcases (Ep wp).symm with hwp | hwp
  all_goals try simp -implicitDefEqProofs only [go_sem, hwp]
  all_goals try (rcases hz1 : z == 1 with _ | _ <;> simp -implicitDefEqProofs only [go_sem])
  all_goals try simp -implicitDefEqProofs only [go_sem, show ((1 : Int) == 1) = true from rfl]
  all_goals try
   refine aI hC (h297 cS l a1 b1 (by omega) (by omega) (by omega) g5 k h1 g3) fun x h2 ⟨z2, l2, hx, s1, s2, b3, k1⟩ => ?_
   subst hx
   cases z2
   focus
    simp -implicitDefEqProofs only [go_sem]
    have g1' := g1.trans (s1.mono ha1 hb1)
    have g2' := g2.seg s1 ha1 hb1 (by omega)
    have g5' := g5.seg s1 (by omega)
    have g4' := g4.trans k1
    have hlen' := hlen.trans s1.1.symm
    have hlen2 : l.length = l2.length := s1.1.symm
    simp only [hlen2]
    clear g1 g2 g3 g4 g5 hlen hlen2 s1 k1
    have g1 := g1'
    have g2 := g2'
    have g3 := b3
    have g4 := g4'
    have g5 := g5'
    have hlen := hlen'
    clear g1' g2' g4' g5' b3 hlen'
    generalize l2 = l at *
    generalize h2 = h1 at *
   rotate_left
   focus
    simp -implicitDefEqProofs only [go_sem]
    exact aH (g4.trans k1).1 ⟨l2, g1.trans (s1.mono ha1 hb1), (g2.seg s1 ha1 hb1 (by omega)).done (s2 rfl), b3, g4.trans k1⟩
  all_goals
   by_cases ha0 : a1 = 0
   ·have d7 : decide ((a1 : Int) > 0) = false := Ai (by omega)
    simp -implicitDefEqProofs only [go_sem, d7]
    refine aI hC (h300 cS l a1 b1 p (by omega) (by omega) (by omega) hp k h1 g3) fun x h2 ⟨m, z3, l2, hx, s1, hpt, b3, k1⟩ => ?_
    subst hx
    have g1' := g1.trans (s1.mono ha1 hb1)
    have g2' := g2.seg s1 ha1 hb1 (by omega)
    have g5' := g5.seg s1 (by omega)
    have g4' := g4.trans k1
    have hlen' := hlen.trans s1.1.symm
    have hlen2 : l.length = l2.length := s1.1.symm
    simp only [hlen2]
    clear g1 g2 g3 g4 g5 hlen hlen2 s1 k1
    have g1 := g1'
    have g2 := g2'
    have g3 := b3
    have g4 := g4'
    have g5 := g5'
    have hlen := hlen'
    clear g1' g2' g4' g5' b3 hlen'
    generalize l2 = l at *
    generalize h2 = h1 at *
    have hm := hpt.1
    have w14 : IntKind.i64.wrap ((m : Int) - (a1 : Int)) = ((m - a1 : Nat) : Int) := by rw [aD _ (by omega)]; omega
    have w15 : IntKind.i64.wrap ((b1 : Int) - (m : Int)) = ((b1 - m : Nat) : Int) := by rw [aD _ (by omega)]; omega
    have w16 : IntKind.i64.wrap ((m : Int) + 1) = ((m + 1 : Nat) : Int) := by rw [aD _ (by omega)]; omega
    have n8 : ((8 : Int) = 0) = False := by simp
    simp -implicitDefEqProofs only [go_sem, w14, w15, n8, if_false]
    by_cases hlr : m - a1 < b1 - m
    ·have d8 : decide (((m - a1 : Nat) : Int) < ((b1 - m : Nat) : Int)) = true := Ac (by omega)
     simp -implicitDefEqProofs only [go_sem, d8]
     refine aI hC (ih _ (by omega) l a1 m lm rfl (by omega) (by omega) (by omega) (g5.sub (by omega)) k h1 g3) fun x h2 ⟨l2, s1, s2, b3, k1⟩ => ?_
     have sp := g2.right hpt s1 s2 ha1 hb1 (by omega)
     simp -implicitDefEqProofs only [go_sem, w16]
     exact ⟨by omega, (l2, m + 1, b1, lm, decide (((m - a1 : Nat) : Int) >= IntKind.i64.wrap (Int.tdiv (L : Int) 8)), z3), h2, Wk.pick (g4.trans k1).1 (by simp [go_sem]), g1.trans (s1.mono ha1 (by omega)), sp.1, b3, g4.trans k1, sp.2, ⟨by dsimp only; omega, by dsimp only; omega, hb1⟩, by dsimp only; omega⟩
    ·have d8 : decide (((m - a1 : Nat) : Int) < ((b1 - m : Nat) : Int)) = false := Ai (by omega)
     have lo : Low (m + 1) b1 l := .inr fun x hx1 hx2 => by rw [show m + 1 - 1 = m by omega]; exact hpt.2.2 x (by omega) hx2
     simp -implicitDefEqProofs only [go_sem, d8, w16]
     refine aI hC (ih _ (by omega) l (m + 1) b1 lm rfl (by omega) (by omega) (by omega) lo k h1 g3) fun x h2 ⟨l2, s1, s2, b3, k1⟩ => ?_
     have sp := g2.left hpt s1 s2 ha1 hb1 (by omega)
     have lw : Low a1 m l2 := (g5.seg (s1.mono (by omega) (Ak _)) (by omega)).sub (by omega)
     simp -implicitDefEqProofs only [go_sem]
     exact ⟨by omega, (l2, a1, m, lm, decide (((b1 - m : Nat) : Int) >= IntKind.i64.wrap (Int.tdiv (L : Int) 8)), z3), h2, Wk.pick (g4.trans k1).1 (by simp [go_sem]), g1.trans (s1.mono (by omega) hb1), sp, b3, g4.trans k1, lw, ⟨ha1, by dsimp only; omega, by dsimp only; omega⟩, by dsimp only; omega⟩
   have d7 : decide ((a1 : Int) > 0) = true := Ac (by omega)
   have wa1 : IntKind.i64.wrap ((a1 : Int) - 1) = ((a1 - 1 : Nat) : Int) := by rw [aD _ (by omega)]; omega
   have hal : a1 - 1 < l.length := by omega
   have hpl : p < l.length := by omega
   simp -implicitDefEqProofs only [go_sem, d7, wa1, g3, bnd hal, bnd hpl, aQ (eS := eS) hal, aQ (eS := eS) hpl, Af, aJ, Ae, true_and, aT, cS.one]
   refine aC hC (cS.less _ _) ?_
   simp -implicitDefEqProofs only [go_sem]
   by_cases hlp : l.getD (a1 - 1) 0 < l.getD p 0
   ·have d9 := Ac hlp
    simp -implicitDefEqProofs only [go_sem, d9, Av]
    clear hlp d9 hal hpl wa1 d7
    refine aI hC (h300 cS l a1 b1 p (by omega) (by omega) (by omega) hp k h1 g3) fun x h2 ⟨m, z3, l2, hx, s1, hpt, b3, k1⟩ => ?_
    subst hx
    have g1' := g1.trans (s1.mono ha1 hb1)
    have g2' := g2.seg s1 ha1 hb1 (by omega)
    have g5' := g5.seg s1 (by omega)
    have g4' := g4.trans k1
    have hlen' := hlen.trans s1.1.symm
    have hlen2 : l.length = l2.length := s1.1.symm
    simp only [hlen2]
    clear g1 g2 g3 g4 g5 hlen hlen2 s1 k1
    have g1 := g1'
    have g2 := g2'
    have g3 := b3
    have g4 := g4'
    have g5 := g5'
    have hlen := hlen'
    clear g1' g2' g4' g5' b3 hlen'
    generalize l2 = l at *
    generalize h2 = h1 at *
    have hm := hpt.1
    have w14 : IntKind.i64.wrap ((m : Int) - (a1 : Int)) = ((m - a1 : Nat) : Int) := by rw [aD _ (by omega)]; omega
    have w15 : IntKind.i64.wrap ((b1 : Int) - (m : Int)) = ((b1 - m : Nat) : Int) := by rw [aD _ (by omega)]; omega
    have w16 : IntKind.i64.wrap ((m : Int) + 1) = ((m + 1 : Nat) : Int) := by rw [aD _ (by omega)]; omega
    have n8 : ((8 : Int) = 0) = False := by simp
    simp -implicitDefEqProofs only [go_sem, w14, w15, n8, if_false]
    by_cases hlr : m - a1 < b1 - m
    ·have d8 : decide (((m - a1 : Nat) : Int) < ((b1 - m : Nat) : Int)) = true := Ac (by omega)
     simp -implicitDefEqProofs only [go_sem, d8]
     refine aI hC (ih _ (by omega) l a1 m lm rfl (by omega) (by omega) (by omega) (g5.sub (by omega)) k h1 g3) fun x h2 ⟨l2, s1, s2, b3, k1⟩ => ?_
     have sp := g2.right hpt s1 s2 ha1 hb1 (by omega)
     simp -implicitDefEqProofs only [go_sem, w16]
     exact ⟨by omega, (l2, m + 1, b1, lm, decide (((m - a1 : Nat) : Int) >= IntKind.i64.wrap (Int.tdiv (L : Int) 8)), z3), h2, Wk.pick (g4.trans k1).1 (by simp [go_sem]), g1.trans (s1.mono ha1 (by omega)), sp.1, b3, g4.trans k1, sp.2, ⟨by dsimp only; omega, by dsimp only; omega, hb1⟩, by dsimp only; omega⟩
    ·have d8 : decide (((m - a1 : Nat) : Int) < ((b1 - m : Nat) : Int)) = false := Ai (by omega)
     have lo : Low (m + 1) b1 l := .inr fun x hx1 hx2 => by rw [show m + 1 - 1 = m by omega]; exact hpt.2.2 x (by omega) hx2
     simp -implicitDefEqProofs only [go_sem, d8, w16]
     refine aI hC (ih _ (by omega) l (m + 1) b1 lm rfl (by omega) (by omega) (by omega) lo k h1 g3) fun x h2 ⟨l2, s1, s2, b3, k1⟩ => ?_
     have sp := g2.left hpt s1 s2 ha1 hb1 (by omega)
     have lw : Low a1 m l2 := (g5.seg (s1.mono (by omega) (Ak _)) (by omega)).sub (by omega)
     simp -implicitDefEqProofs only [go_sem]
     exact ⟨by omega, (l2, a1, m, lm, decide (((b1 - m : Nat) : Int) >= IntKind.i64.wrap (Int.tdiv (L : Int) 8)), z3), h2, Wk.pick (g4.trans k1).1 (by simp [go_sem]), g1.trans (s1.mono (by omega) hb1), sp, b3, g4.trans k1, lw, ⟨ha1, by dsimp only; omega, by dsimp only; omega⟩, by dsimp only; omega⟩
   have d9 := Ai hlp
   simp -implicitDefEqProofs only [go_sem, d9, Ax]
   refine aI hC (h299 cS l a1 b1 p (by omega) (by omega) (by omega) hp k h1 g3) fun x h2 ⟨m, l2, hx, s1, hpt, b3, k1⟩ => ?_
   subst hx
   have lo2 := g5.seg s1 (by omega)
   have sp := (g2.seg s1 ha1 hb1 (by omega)).equal hpt lo2 ha0 (by rw [s1.same (by omega)]; omega)
   have hm := hpt.1
   simp -implicitDefEqProofs only [go_sem]
   exact ⟨by omega, (l2, m, b1, lm, wb, wp), h2, Wk.pick (g4.trans k1).1 (by simp [go_sem, hwb, hwp]), g1.trans (s1.mono ha1 hb1), sp.1, b3, g4.trans k1, sp.2, ⟨by dsimp only; omega, by dsimp only; omega, hb1⟩, by dsimp only; omega⟩
end Go.Rip
