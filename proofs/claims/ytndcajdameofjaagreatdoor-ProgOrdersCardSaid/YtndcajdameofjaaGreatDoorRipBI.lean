/- Procedures are sorted by a comparison: pdqsort. -/
import Derived.Test.YtndcajdameofjaaGreatDoorProg
import Derived.KernelRfl
import Derived.Test.YtndcajdameofjaaGreatDoorRipBH
import Derived.Test.YtndcajdameofjaaGreatDoorRipBF
import Derived.Test.YtndcajdameofjaaGreatDoorRipAT
import Derived.Test.YtndcajdameofjaaGreatDoorRipAZ
import Derived.Test.YtndcajdameofjaaGreatDoorRipAJ
import Derived.Test.YtndcajdameofjaaGreatDoorRipAM
import Derived.Test.YtndcajdameofjaaGreatDoorRipBB
import Derived.Test.YtndcajdameofjaaGreatDoorRipBE
namespace Go.Rip
open Go
set_option maxRecDepth 100000
variable {GL : Glob}
set_option maxHeartbeats 4000000 in
theorem h238 {Q : Int -> Pr} {cf : FuncId} {cc : Int -> Int -> Int} (cQ : Cmp GL Q cf cc) (n : Nat) : ∀ (l0 : List Int) (a b : Nat) (lim : Int), b - a = n -> a <= b -> b <= l0.length -> l0.length < 2 ^ 24 -> Low a b l0 -> ∀ (k : Nat) (h : List AObj), h[k]? = some (.buf 60 3 (l0.map (encQ Q))) ->
  Gives (PC GL) 238 [.vec k 3 l0.length, .i a, .i b, .i lim, .fn (.func cf) [] []] h fun _ h' => ∃ l', SegP a b l0 l' /\ Srt a b l' /\ h'[k]? = some (.buf 60 3 (l'.map (encQ Q))) /\ Keep (fun i _ => i = k) h h' := by
 induction n using Nat.strongRecOn with
 | _ n ih =>
 intro l0 a b lim hn hab hb hl hlow k h hk
 refine k238.gives (by simp) ?_
 simp -implicitDefEqProofs only [go_sem, c238, r238]
 refine aV hC (fun t (x : List Int × Nat × Nat × Int × Bool × Bool) => [(1, .i (x.2.1 : Nat)), (2, .i (x.2.2.1 : Nat)), (3, .i x.2.2.2.1), (10, .b x.2.2.2.2.1), (11, .b x.2.2.2.2.2), (0, .vec k 3 l0.length), (4, .fn (.func cf) [] [])]) (fun t x h' => SegP a b l0 x.1 /\ Sep a b x.2.1 x.2.2.1 x.1 /\ h'[k]? = some (.buf 60 3 (x.1.map (encQ Q))) /\ Keep (fun i _ => i = k) h h' /\ Low x.2.1 x.2.2.1 x.1 /\ (a <= x.2.1 /\ x.2.1 <= x.2.2.1 /\ x.2.2.1 <= b) /\ x.2.2.1 - x.2.1 + t <= n) n ⟨(l0, a, b, lim, true, true), h, Wk.pick (Ak _) (by simp [go_sem]), SegP.refl _ _ _, Sep.start _ _ _, hk, Keep.refl _ _, hlow, ⟨Ak _, hab, Ak _⟩, by dsimp only; omega⟩ fun t x h1 ht ⟨g1, g2, g3, g4, g5, g6, g7⟩ => ?_
 obtain ⟨l, a1, b1, lm, wb, wp⟩ := x
 dsimp only at g1 g2 g3 g5 g6 g7
 obtain ⟨ha1, hab1, hb1⟩ := g6
 have hlen : l0.length = l.length := g1.1.symm
 obtain ⟨L, hL⟩ : ∃ L : Nat, L = b1 - a1 := ⟨_, rfl⟩
 have wL : IntKind.i64.wrap ((b1 : Int) - (a1 : Int)) = (L : Int) := by rw [aD _ (by omega)]; omega
 simp only [hlen]
 simp -implicitDefEqProofs only [go_sem, wL]
 by_cases h12 : L <= 12
 ·have d0 : decide ((L : Int) <= 12) = true := Ac (by omega)
  simp -implicitDefEqProofs only [go_sem, d0]
  refine aI hC (h263 cQ l a1 b1 (by omega) (by omega) k h1 g3 (by omega)) fun x h2 ⟨l2, s1, s2, b3, k1⟩ => ?_
  simp -implicitDefEqProofs only [go_sem]
  exact aH (g4.trans k1).1 ⟨l2, g1.trans (s1.mono ha1 hb1), (g2.seg s1 ha1 hb1 (by omega)).done s2, b3, g4.trans k1⟩
 have d0 : decide ((L : Int) <= 12) = false := Ai (by omega)
 by_cases hlm : lm = 0
 ·have d1 : (lm == 0) = true := by simpa using hlm
  simp -implicitDefEqProofs only [go_sem, d0, d1]
  refine aI hC (h264 cQ l a1 b1 (by omega) (by omega) (by omega) k h1 g3) fun x h2 ⟨l2, s1, s2, b3, k1⟩ => ?_
  simp -implicitDefEqProofs only [go_sem]
  exact aH (g4.trans k1).1 ⟨l2, g1.trans (s1.mono ha1 hb1), (g2.seg s1 ha1 hb1 (by omega)).done s2, b3, g4.trans k1⟩
 have d1 : (lm == 0) = false := by simpa using hlm
 simp -implicitDefEqProofs only [go_sem, d0, d1]
 rcases (Ep wb).symm with hwb | hwb
 focus
  simp -implicitDefEqProofs only [go_sem, hwb, Ax]
  refine aI hC (h265 cQ l a1 b1 (by omega) (by omega) (by omega) k h1 g3) fun x h2 ⟨l2, s1, b3, k1⟩ => ?_
  have g1' := g1.trans (s1.mono ha1 hb1)
  have g2' := g2.seg s1 ha1 hb1 (by omega)
  have g5' := g5.seg s1 (by omega)
  have g4' := g4.trans k1
  have hlen' := hlen.trans s1.1.symm
  have hlen2 : l.length = l2.length := s1.1.symm
  simp only [hlen2]
  clear g1 g2 g3 g4 g5 hlen hlen2 s1 k1
  have g1 := g1'
  have g2 := g2'
  have g3 := b3
  have g4 := g4'
  have g5 := g5'
  have hlen := hlen'
  clear g1' g2' g4' g5' b3 hlen'
  generalize l2 = l at *
  generalize h2 = h1 at *
  simp -implicitDefEqProofs only [go_sem]
  generalize IntKind.i64.wrap (lm - 1) = lm
 rotate_left
 focus simp -implicitDefEqProofs only [go_sem, hwb, Av]
 all_goals
  refine aI hC (h266 cQ l a1 b1 (by omega) (by omega) (by omega) k h1 g3) fun x h2 ⟨p, z, hx, hp, k1⟩ => ?_
  subst hx
  have g4' := g4.trans k1.of_all
  have g3' := k1.got g3
  clear g3 g4 k1
  have g3 := g3'
  have g4 := g4'
  clear g3' g4'
  generalize h2 = h1 at *
  by_cases hz : z = 2
  focus
   have dz : (z == 2) = true := by simpa using hz
   simp -implicitDefEqProofs only [go_sem, dz]
   refine aI hC (h267 cQ l a1 b1 (by omega) (by omega) (by omega) k h1 g3) fun x h2 ⟨l2, s1, b3, k1⟩ => ?_
   have g1' := g1.trans (s1.mono ha1 hb1)
   have g2' := g2.seg s1 ha1 hb1 (by omega)
   have g5' := g5.seg s1 (by omega)
   have g4' := g4.trans k1
   have hlen' := hlen.trans s1.1.symm
   have hlen2 : l.length = l2.length := s1.1.symm
   simp only [hlen2]
   clear g1 g2 g3 g4 g5 hlen hlen2 s1 k1
   have g1 := g1'
   have g2 := g2'
   have g3 := b3
   have g4 := g4'
   have g5 := g5'
   have hlen := hlen'
   clear g1' g2' g4' g5' b3 hlen'
   generalize l2 = l at *
   generalize h2 = h1 at *
   obtain ⟨p2, hp2⟩ : ∃ p2 : Nat, p2 = b1 - 1 - (p - a1) := ⟨_, rfl⟩
   have wp1 : IntKind.i64.wrap ((b1 : Int) - 1) = ((b1 - 1 : Nat) : Int) := by rw [aD _ (by omega)]; omega
   have wp2 : IntKind.i64.wrap ((p : Int) - (a1 : Int)) = ((p - a1 : Nat) : Int) := by rw [aD _ (by omega)]; omega
   have wp3 : IntKind.i64.wrap (((b1 - 1 : Nat) : Int) - ((p - a1 : Nat) : Int)) = (p2 : Int) := by rw [aD _ (by omega)]; omega
   simp -implicitDefEqProofs only [go_sem, wp1, wp2, wp3]
   have hp' : a1 <= p2 /\ p2 < b1 := by omega
   clear hp2 wp1 wp2 wp3 hp
   have hp := hp'
   clear hp'
   generalize p2 = p at *
  rotate_left
  focus
   have dz : (z == 2) = false := by simpa using hz
   simp -implicitDefEqProofs only [go_sem, dz]
  all_goals rcases (Ep wp).symm with hwp | hwp
  all_goals try simp -implicitDefEqProofs only [go_sem, hwp]
  all_goals try (rcases hz1 : z == 1 with _ | _ <;> simp -implicitDefEqProofs only [go_sem])
  all_goals try simp -implicitDefEqProofs only [go_sem, show ((1 : Int) == 1) = true from rfl]
  all_goals try
   refine aI hC (h268 cQ l a1 b1 (by omega) (by omega) (by omega) g5 k h1 g3) fun x h2 ⟨z2, l2, hx, s1, s2, b3, k1⟩ => ?_
   subst hx
   cases z2
   focus
    simp -implicitDefEqProofs only [go_sem]
    have g1' := g1.trans (s1.mono ha1 hb1)
    have g2' := g2.seg s1 ha1 hb1 (by omega)
    have g5' := g5.seg s1 (by omega)
    have g4' := g4.trans k1
    have hlen' := hlen.trans s1.1.symm
    have hlen2 : l.length = l2.length := s1.1.symm
    simp only [hlen2]
    clear g1 g2 g3 g4 g5 hlen hlen2 s1 k1
    have g1 := g1'
    have g2 := g2'
    have g3 := b3
    have g4 := g4'
    have g5 := g5'
    have hlen := hlen'
    clear g1' g2' g4' g5' b3 hlen'
    generalize l2 = l at *
    generalize h2 = h1 at *
   rotate_left
   focus
    simp -implicitDefEqProofs only [go_sem]
    exact aH (g4.trans k1).1 ⟨l2, g1.trans (s1.mono ha1 hb1), (g2.seg s1 ha1 hb1 (by omega)).done (s2 rfl), b3, g4.trans k1⟩
  all_goals
   by_cases ha0 : a1 = 0
   ·have d7 : decide ((a1 : Int) > 0) = false := Ai (by omega)
    simp -implicitDefEqProofs only [go_sem, d7]
    refine aI hC (h270 cQ l a1 b1 p (by omega) (by omega) (by omega) hp k h1 g3) fun x h2 ⟨m, z3, l2, hx, s1, hpt, b3, k1⟩ => ?_
    subst hx
    have g1' := g1.trans (s1.mono ha1 hb1)
    have g2' := g2.seg s1 ha1 hb1 (by omega)
    have g5' := g5.seg s1 (by omega)
    have g4' := g4.trans k1
    have hlen' := hlen.trans s1.1.symm
    have hlen2 : l.length = l2.length := s1.1.symm
    simp only [hlen2]
    clear g1 g2 g3 g4 g5 hlen hlen2 s1 k1
    have g1 := g1'
    have g2 := g2'
    have g3 := b3
    have g4 := g4'
    have g5 := g5'
    have hlen := hlen'
    clear g1' g2' g4' g5' b3 hlen'
    generalize l2 = l at *
    generalize h2 = h1 at *
    have hm := hpt.1
    have w14 : IntKind.i64.wrap ((m : Int) - (a1 : Int)) = ((m - a1 : Nat) : Int) := by rw [aD _ (by omega)]; omega
    have w15 : IntKind.i64.wrap ((b1 : Int) - (m : Int)) = ((b1 - m : Nat) : Int) := by rw [aD _ (by omega)]; omega
    have w16 : IntKind.i64.wrap ((m : Int) + 1) = ((m + 1 : Nat) : Int) := by rw [aD _ (by omega)]; omega
    have n8 : ((8 : Int) = 0) = False := by simp
    simp -implicitDefEqProofs only [go_sem, w14, w15, n8, if_false]
    by_cases hlr : m - a1 < b1 - m
    ·have d8 : decide (((m - a1 : Nat) : Int) < ((b1 - m : Nat) : Int)) = true := Ac (by omega)
     simp -implicitDefEqProofs only [go_sem, d8]
     refine aI hC (ih _ (by omega) l a1 m lm rfl (by omega) (by omega) (by omega) (g5.sub (by omega)) k h1 g3) fun x h2 ⟨l2, s1, s2, b3, k1⟩ => ?_
     have sp := g2.right hpt s1 s2 ha1 hb1 (by omega)
     simp -implicitDefEqProofs only [go_sem, w16]
     exact ⟨by omega, (l2, m + 1, b1, lm, decide (((m - a1 : Nat) : Int) >= IntKind.i64.wrap (Int.tdiv (L : Int) 8)), z3), h2, Wk.pick (g4.trans k1).1 (by simp [go_sem]), g1.trans (s1.mono ha1 (by omega)), sp.1, b3, g4.trans k1, sp.2, ⟨by dsimp only; omega, by dsimp only; omega, hb1⟩, by dsimp only; omega⟩
    ·have d8 : decide (((m - a1 : Nat) : Int) < ((b1 - m : Nat) : Int)) = false := Ai (by omega)
     have lo : Low (m + 1) b1 l := .inr fun x hx1 hx2 => by rw [show m + 1 - 1 = m by omega]; exact hpt.2.2 x (by omega) hx2
     simp -implicitDefEqProofs only [go_sem, d8, w16]
     refine aI hC (ih _ (by omega) l (m + 1) b1 lm rfl (by omega) (by omega) (by omega) lo k h1 g3) fun x h2 ⟨l2, s1, s2, b3, k1⟩ => ?_
     have sp := g2.left hpt s1 s2 ha1 hb1 (by omega)
     have lw : Low a1 m l2 := (g5.seg (s1.mono (by omega) (Ak _)) (by omega)).sub (by omega)
     simp -implicitDefEqProofs only [go_sem]
     exact ⟨by omega, (l2, a1, m, lm, decide (((b1 - m : Nat) : Int) >= IntKind.i64.wrap (Int.tdiv (L : Int) 8)), z3), h2, Wk.pick (g4.trans k1).1 (by simp [go_sem]), g1.trans (s1.mono (by omega) hb1), sp, b3, g4.trans k1, lw, ⟨ha1, by dsimp only; omega, by dsimp only; omega⟩, by dsimp only; omega⟩
   have d7 : decide ((a1 : Int) > 0) = true := Ac (by omega)
   have wa1 : IntKind.i64.wrap ((a1 : Int) - 1) = ((a1 - 1 : Nat) : Int) := by rw [aD _ (by omega)]; omega
   have hal : a1 - 1 < l.length := by omega
   have hpl : p < l.length := by omega
   simp -implicitDefEqProofs only [go_sem, d7, wa1, g3, bnd hal, bnd hpl, aP (Q := Q) hal, aP (Q := Q) hpl, Af, aJ, Ae, true_and, aU]
   refine aC hC (cQ.p _ _) ?_
   simp -implicitDefEqProofs only [go_sem, cQ.d]
   by_cases hlp : l.getD (a1 - 1) 0 < l.getD p 0
   ·have d9 := Ac hlp
    simp -implicitDefEqProofs only [go_sem, d9, Av]
    clear hlp d9 hal hpl wa1 d7
    refine aI hC (h270 cQ l a1 b1 p (by omega) (by omega) (by omega) hp k h1 g3) fun x h2 ⟨m, z3, l2, hx, s1, hpt, b3, k1⟩ => ?_
    subst hx
    have g1' := g1.trans (s1.mono ha1 hb1)
    have g2' := g2.seg s1 ha1 hb1 (by omega)
    have g5' := g5.seg s1 (by omega)
    have g4' := g4.trans k1
    have hlen' := hlen.trans s1.1.symm
    have hlen2 : l.length = l2.length := s1.1.symm
    simp only [hlen2]
    clear g1 g2 g3 g4 g5 hlen hlen2 s1 k1
    have g1 := g1'
    have g2 := g2'
    have g3 := b3
    have g4 := g4'
    have g5 := g5'
    have hlen := hlen'
    clear g1' g2' g4' g5' b3 hlen'
    generalize l2 = l at *
    generalize h2 = h1 at *
    have hm := hpt.1
    have w14 : IntKind.i64.wrap ((m : Int) - (a1 : Int)) = ((m - a1 : Nat) : Int) := by rw [aD _ (by omega)]; omega
    have w15 : IntKind.i64.wrap ((b1 : Int) - (m : Int)) = ((b1 - m : Nat) : Int) := by rw [aD _ (by omega)]; omega
    have w16 : IntKind.i64.wrap ((m : Int) + 1) = ((m + 1 : Nat) : Int) := by rw [aD _ (by omega)]; omega
    have n8 : ((8 : Int) = 0) = False := by simp
    simp -implicitDefEqProofs only [go_sem, w14, w15, n8, if_false]
    by_cases hlr : m - a1 < b1 - m
    ·have d8 : decide (((m - a1 : Nat) : Int) < ((b1 - m : Nat) : Int)) = true := Ac (by omega)
     simp -implicitDefEqProofs only [go_sem, d8]
     refine aI hC (ih _ (by omega) l a1 m lm rfl (by omega) (by omega) (by omega) (g5.sub (by omega)) k h1 g3) fun x h2 ⟨l2, s1, s2, b3, k1⟩ => ?_
     have sp := g2.right hpt s1 s2 ha1 hb1 (by omega)
     simp -implicitDefEqProofs only [go_sem, w16]
     exact ⟨by omega, (l2, m + 1, b1, lm, decide (((m - a1 : Nat) : Int) >= IntKind.i64.wrap (Int.tdiv (L : Int) 8)), z3), h2, Wk.pick (g4.trans k1).1 (by simp [go_sem]), g1.trans (s1.mono ha1 (by omega)), sp.1, b3, g4.trans k1, sp.2, ⟨by dsimp only; omega, by dsimp only; omega, hb1⟩, by dsimp only; omega⟩
    ·have d8 : decide (((m - a1 : Nat) : Int) < ((b1 - m : Nat) : Int)) = false := Ai (by omega)
     have lo : Low (m + 1) b1 l := .inr fun x hx1 hx2 => by rw [show m + 1 - 1 = m by omega]; exact hpt.2.2 x (by omega) hx2
     simp -implicitDefEqProofs only [go_sem, d8, w16]
     refine aI hC (ih _ (by omega) l (m + 1) b1 lm rfl (by omega) (by omega) (by omega) lo k h1 g3) fun x h2 ⟨l2, s1, s2, b3, k1⟩ => ?_
     have sp := g2.left hpt s1 s2 ha1 hb1 (by omega)
     have lw : Low a1 m l2 := (g5.seg (s1.mono (by omega) (Ak _)) (by omega)).sub (by omega)
     simp -implicitDefEqProofs only [go_sem]
     exact ⟨by omega, (l2, a1, m, lm, decide (((b1 - m : Nat) : Int) >= IntKind.i64.wrap (Int.tdiv (L : Int) 8)), z3), h2, Wk.pick (g4.trans k1).1 (by simp [go_sem]), g1.trans (s1.mono (by omega) hb1), sp, b3, g4.trans k1, lw, ⟨ha1, by dsimp only; omega, by dsimp only; omega⟩, by dsimp only; omega⟩
   have d9 := Ai hlp
   simp -implicitDefEqProofs only [go_sem, d9, Ax]
   refine aI hC (h269 cQ l a1 b1 p (by omega) (by omega) (by omega) hp k h1 g3) fun x h2 ⟨m, l2, hx, s1, hpt, b3, k1⟩ => ?_
   subst hx
   have lo2 := g5.seg s1 (by omega)
   have sp := (g2.seg s1 ha1 hb1 (by omega)).equal hpt lo2 ha0 (by rw [s1.same (by omega)]; omega)
   have hm := hpt.1
   simp -implicitDefEqProofs only [go_sem]
   exact ⟨by omega, (l2, m, b1, lm, wb, wp), h2, Wk.pick (g4.trans k1).1 (by simp [go_sem, hwb, hwp]), g1.trans (s1.mono ha1 hb1), sp.1, b3, g4.trans k1, sp.2, ⟨by dsimp only; omega, by dsimp only; omega, hb1⟩, by dsimp only; omega⟩
theorem h165 {Q : Int -> Pr} {cf : FuncId} {cc : Int -> Int -> Int} (cQ : Cmp GL Q cf cc) (l0 : List Int) (h0 : 0 < l0.length) (hl : l0.length < 2 ^ 24) (k : Nat) (h : List AObj) (hk : h[k]? = some (.buf 60 3 (l0.map (encQ Q)))) :
  Gives (PC GL) 165 [.vec k 3 l0.length, .fn (.func cf) [] []] h fun _ h' => ∃ l', l0.Perm l' /\ Srt 0 l0.length l' /\ h'[k]? = some (.buf 60 3 (l'.map (encQ Q))) /\ Keep (fun i _ => i = k) h h' := by
 obtain ⟨r, -, q⟩ := h239 (GL := GL) l0.length ⟨h0, hl⟩
 have wU := u64w l0.length (by omega)
 refine k165.gives (by simp) ?_
 simp -implicitDefEqProofs only [go_sem, c165, r165, wU]
 refine aC hC q ?_
 simp -implicitDefEqProofs only [go_sem]
 refine aI hC (h238 cQ _ l0 0 l0.length r rfl (Ap _) (Ak _) hl (.inl rfl) k h hk) fun x h2 ⟨l2, s1, s2, b3, k1⟩ => ?_
 simp -implicitDefEqProofs only [go_sem]
 exact aH k1.1 ⟨l2, s1.2.1, s2, b3, k1⟩
end Go.Rip
namespace Go.Rip
open Go Go.Proofs
set_option maxRecDepth 100000
variable {GL : Glob}
attribute [local irreducible] Pure
theorem h240 (s : List UInt8) : Pure (PC GL) 240 [.str s] (.b false) := by
 refine k240.pure (by simp) (by simp [go_sem]) (by simp [go_sem]) ?_
 simp -implicitDefEqProofs only [c240, r240, go_sem]
 have e : (s == s) = true := by simp
 simp -implicitDefEqProofs only [go_sem, e, Av]
 refine aE ?_ ?_ <;> simp [go_sem]
def cmpS (a b : List UInt8) : Int := if Op.bytesLess a b then -1 else if a == b then 0 else 1
def cmpI (a b : Int) : Int := if a < b then -1 else if a > b then 1 else 0
theorem h168 (a b : List UInt8) : Pure (PC GL) 168 [.str a, .str b] (.i (cmpS a b)) := by
 refine k168.pure (by simp) (by simp [go_sem]) (by simp [go_sem]) ?_
 simp -implicitDefEqProofs only [c168, r168, go_sem]
 refine aC hC (h240 a) ?_
 simp -implicitDefEqProofs only [go_sem]
 refine aC hC (h240 b) ?_
 rcases h1 : Op.bytesLess a b
 ·rcases h2 : a == b
  ·have e : cmpS a b = 1 := by simp [cmpS, h1, h2]
   rw [e]
   simp -implicitDefEqProofs only [go_sem, h1, h2, Bool.or_false, Ax]
   refine aE ?_ ?_ <;> simp [go_sem]
  ·have e : cmpS a b = 0 := by simp [cmpS, h1, h2]
   rw [e]
   simp -implicitDefEqProofs only [go_sem, h1, h2, Bool.or_true, Av]
   refine aE ?_ ?_ <;> simp [go_sem]
 ·have e : cmpS a b = -1 := by simp [cmpS, h1]
  rw [e]
  simp -implicitDefEqProofs only [go_sem, h1]
  refine aE ?_ ?_ <;> simp [go_sem]
theorem h169 (a b : Int) : Pure (PC GL) 169 [.i a, .i b] (.i (cmpI a b)) := by
 refine k169.pure (by simp) (by simp [go_sem]) (by simp [go_sem]) ?_
 simp -implicitDefEqProofs only [c169, r169, go_sem]
 refine aC hC (h241 a) ?_
 simp -implicitDefEqProofs only [go_sem]
 refine aC hC (h241 b) ?_
 by_cases h1 : a < b
 ·have d1 := Ac h1
  have e : cmpI a b = -1 := by simp [cmpI, h1]
  rw [e]
  simp -implicitDefEqProofs only [go_sem, d1]
  refine aE ?_ ?_ <;> simp [go_sem]
 have d1 := Ai h1
 by_cases h2 : a > b
 ·have d2 := Ac h2
  have e : cmpI a b = 1 := by simp [cmpI, h1, h2]
  rw [e]
  simp -implicitDefEqProofs only [go_sem, d1, d2]
  refine aE ?_ ?_ <;> simp [go_sem]
 ·have d2 := Ai h2
  have e : cmpI a b = 0 := by simp [cmpI, h1, h2]
  rw [e]
  simp -implicitDefEqProofs only [go_sem, d1, d2]
  refine aE ?_ ?_ <;> simp [go_sem]
theorem h167 (x y : Int) : Pure (PC GL) 167 [.sl 1 [.i x, .i y]] (.i (if x = 0 then y else x)) := by
 refine k167.pure (by simp) (by simp [go_sem]) (by simp [go_sem]) ?_
 simp -implicitDefEqProofs only [go_sem, c167, r167]
 refine aV hC (fun j (_ : Unit) => [(8, .i j), (6, .sl 1 [.i x, .i y]), (7, .i (2 : Nat)), (3, .i 0)]) (fun j (_ : Unit) _ => (1 <= j -> x = 0) /\ (2 <= j -> y = 0)) 2 ⟨(), _, Wk.pick (Ap _) (by simp [go_sem]), by omega, by omega⟩ fun j _ h hj ⟨i1, i2⟩ => ?_
 simp -implicitDefEqProofs only [go_sem]
 refine aK (fun hlt => ?_) (fun hlt => ?_)
 ·have hlt := aL hlt
  have w5 : IntKind.i64.wrap ((j : Int) + 1) = (j : Int) + 1 := aD _ (by omega)
  obtain ⟨z, hz, hg⟩ : ∃ z : Int, (z = if j = 0 then x else y) /\ [AV.i x, AV.i y].getD j .any = .i z := by
   by_cases h0 : j = 0
   ·subst h0; exact ⟨x, rfl, rfl⟩
   ·have : j = 1 := by omega
    subst this; exact ⟨y, rfl, rfl⟩
  simp -implicitDefEqProofs only [go_sem, hlt, hg, Bw, Dv]
  by_cases hz0 : z = 0
  ·have e : (z != 0) = false := by simpa using hz0
   simp -implicitDefEqProofs only [go_sem, e, w5]
   refine ⟨(), _, Wk.pick (Ap _) (by simp [go_sem]), fun _ => ?_, fun h2 => ?_⟩
   ·by_cases h0 : j = 0
    ·rw [if_pos h0] at hz; omega
    ·exact i1 (by omega)
   ·rw [if_neg (by omega)] at hz; omega
  ·have e : (z != 0) = true := by simpa using hz0
   have e2 : (if x = 0 then y else x) = z := by
    by_cases h0 : j = 0
    ·rw [if_pos h0] at hz; rw [if_neg (by omega)]; exact hz.symm
    ·rw [if_neg h0] at hz; rw [if_pos (i1 (by omega))]; exact hz.symm
   rw [e2]
   simp -implicitDefEqProofs only [go_sem, e]
   refine aE ?_ ?_ <;> simp [go_sem]
 ·have hge := aO hlt
  have hx := i1 (by omega)
  have hy := i2 (by omega)
  subst hx hy
  simp -implicitDefEqProofs only [go_sem, hlt]
  refine aE ?_ ?_ <;> simp [go_sem]
def cmpPr (a b : Pr) : Int := if cmpS a.name b.name = 0 then cmpI a.arity b.arity else cmpS a.name b.name
theorem cmpPr_lt (a b : Pr) : decide (cmpPr a b < 0) = ltPr a b := by
 unfold cmpPr ltPr cmpS cmpI
 rcases h1 : Op.bytesLess a.name b.name
 ·rcases h2 : a.name == b.name
  ·simp
  ·by_cases h3 : a.arity < b.arity
   ·simp [h3]
   ·by_cases h4 : a.arity > b.arity <;> simp [h3, h4]
 ·simp
theorem h166 (a b : Pr) : Pure (PC GL) 166 [encPr a, encPr b] (.i (cmpPr a b)) := by
 refine k166.pure (by simp) (by simp [go_sem]) (by simp [go_sem]) ?_
 simp -implicitDefEqProofs only [go_sem, c166, r166, encPr]
 refine aC hC (h168 _ _) ?_
 simp -implicitDefEqProofs only [go_sem]
 refine aC hC (h169 _ _) ?_
 simp -implicitDefEqProofs only [go_sem]
 refine sT (h167 (cmpS a.name b.name) (cmpI a.arity b.arity)) (by simp [fzs, fzGs, fzG]) ?_
 simp -implicitDefEqProofs only [go_sem]
 refine aE ?_ ?_ <;> simp [go_sem, cmpPr]
theorem cmpQ {S : List Pr} (hs : SortedP S) (hn : ∀ q ∈ S, nameOk q.name = true) : Cmp GL (rkQ S) 166 fun x y => cmpPr (rkQ S x) (rkQ S y) :=
 ⟨fun x y => by have := h166 (GL := GL) (rkQ S x) (rkQ S y); simpa only [encPr] using this, fun x y => by rw [cmpPr_lt, rkQ_lt hs hn]⟩
theorem h165n : Pure (PC GLs) 165 [.v (.slice none 0 0), .fn (.func 166) [] []] (.tup []) := bO bQ mo0 (n := 3000) (by kernel_rfl) (by kernel_rfl)
end Go.Rip
namespace Go.Rip
open Go
set_option maxRecDepth 100000
variable {GL : Glob}
structure CmpS (N : Int -> List UInt8) : Prop where
 d : ∀ x y, Op.bytesLess (N x) (N y) = decide (x < y)
def encS (N : Int -> List UInt8) (x : Int) : AV := .str (N x)
theorem h279 (a b : List UInt8) : Pure (PC GL) 279 [.str a, .str b] (.b (Op.bytesLess a b)) := by
 refine k279.pure (by simp) (by simp [go_sem]) (by simp [go_sem]) ?_
 simp only [c279, r279, go_sem]
 refine aC hC (h240 a) ?_
 simp only [go_sem]
 refine aE ?_ ?_ <;> simp [go_sem]
theorem srtS {N : Int -> List UInt8} (cS : CmpS N) : SrtOk sfS (encS N) := ⟨ksS, fun {GL} x y => by rw [<- cS.d]; exact h279 _ _, fun _ => rfl, fun _ => rfl, fun _ => rfl⟩
theorem h178 {N : Int -> List UInt8} (cS : CmpS N) (l0 : List Int) (h0 : 0 < l0.length) (hl : l0.length < 2 ^ 24) (k : Nat) (h : List AObj) (hk : h[k]? = some (.buf 9 1 (l0.map (encS N)))) :
  Gives (PC GL) 178 [.vec k 1 l0.length] h fun _ h' => ∃ l', l0.Perm l' /\ Srt 0 l0.length l' /\ h'[k]? = some (.buf 9 1 (l'.map (encS N))) /\ Keep (fun i _ => i = k) h h' := by
 obtain ⟨r, -, q⟩ := h239 (GL := GL) l0.length ⟨h0, hl⟩
 have wU := u64w l0.length (by omega)
 refine k178.gives (by simp) ?_
 simp only [go_sem, c178, r178, wU]
 refine aC hC q ?_
 simp only [go_sem]
 refine aI hC (h258 (srtS cS) _ l0 0 l0.length r rfl (Ap _) (Ak _) hl (.inl rfl) k h hk) fun x h2 ⟨l2, s1, s2, b3, k1⟩ => ?_
 simp only [go_sem]
 exact aH k1.1 ⟨l2, s1.2.1, s2, b3, k1⟩
theorem tO {a b : List UInt8} (h : Op.bytesLess a b = true) : Op.bytesLess b a = false := by
 rw [Cj]
 intro k
 have := lH h k
 rw [iU] at this
 cases this
def insN (q : List UInt8) : List (List UInt8) -> List (List UInt8)
 | [] => [q]
 | x :: r => if Op.bytesLess q x then q :: x :: r else x :: insN q r
def sortN (l : List (List UInt8)) : List (List UInt8) := l.foldl (fun acc q => insN q acc) []
theorem jF (q : List UInt8) : ∀ l, (insN q l).Perm (q :: l)
 | [] => Ei _
 | x :: r => by
  rw [insN]
  split
  ·exact Ei _
  ·exact ((jF q r).cons x).trans (List.Perm.swap q x r)
theorem cA (l : List (List UInt8)) : (sortN l).Perm l := by
 have : ∀ (l acc : List (List UInt8)), (l.foldl (fun acc q => insN q acc) acc).Perm (acc ++ l) := by
  intro l
  induction l with
  | nil => intro acc; simp
  | cons x r ih =>
   intro acc
   refine (ih (insN x acc)).trans ?_
   have h1 := (jF x acc).append_right r
   have h2 : (x :: acc ++ r).Perm (acc ++ x :: r) := by
    rw [Bk]
    exact (Gl).symm
   exact h1.trans h2
 have h := this l []
 rw [Cm] at h
 exact h
abbrev SortedN (l : List (List UInt8)) : Prop := l.Pairwise fun a b => Op.bytesLess a b = true
theorem mX {q : List UInt8} : ∀ {l : List (List UInt8)}, SortedN l -> q ∉ l -> SortedN (insN q l)
 | [], _, _ => by simp [insN]
 | x :: r, h, hn => by
  obtain ⟨h1, h2⟩ := Dd.1 h
  rw [insN]
  split
  ·rename_i hq
   refine Dd.2 ⟨fun y hy => ?_, h⟩
   rcases Ar.1 hy with e | hy
   ·rw [e]; exact hq
   ·exact lH hq (h1 y hy)
  ·rename_i hq
   have hxq : Op.bytesLess x q = true := by
    rcases h3 : Op.bytesLess x q with _ | _
    ·exact absurd (wY (by simpa using hq) h3) (fun e => hn (by simp [e]))
    ·rfl
   refine Dd.2 ⟨fun y hy => ?_, mX h2 fun hy => hn (by simp [hy])⟩
   rcases Ar.1 ((jF q r).mem_iff.1 hy) with e | hy
   ·rw [e]; exact hxq
   ·exact h1 y hy
theorem gP {l : List (List UInt8)} (hn : l.Nodup) : SortedN (sortN l) := by
 have : ∀ (l acc : List (List UInt8)), (acc ++ l).Nodup -> SortedN acc -> SortedN (l.foldl (fun acc q => insN q acc) acc) := by
  intro l
  induction l with
  | nil => intro acc _ h; exact h
  | cons x r ih =>
   intro acc hn hs
   have hp : (insN x acc ++ r).Perm (acc ++ x :: r) := by
    refine ((jF x acc).append_right r).trans ?_
    rw [Bk]
    exact (Gl).symm
   refine ih (insN x acc) (hp.nodup_iff.2 hn) (mX hs fun hy => ?_)
   rw [En] at hn
   exact hn.2.2 x hy x (by simp) rfl
 exact this l [] (by simpa using hn) Ge
theorem xC {a b : List (List UInt8)} (ha : SortedN a) (hb : SortedN b) (h : a.Perm b) : a = b :=
 Fy (le := fun x y => Op.bytesLess x y = true) (fun x y _ _ h1 h2 => by rw [tO h1] at h2; cases h2) ha hb h
theorem sortN_eq {a b : List (List UInt8)} (ha : a.Nodup) (h : a.Perm b) : sortN a = sortN b :=
 xC (gP ha) (gP (h.nodup_iff.1 ha)) ((cA a).trans (h.trans (cA b).symm))
def midS (s : List UInt8) : Prop := ∃ c r, s = c :: r /\ 1 < c.toNat /\ c.toNat < 255
def rkN (S : List (List UInt8)) (x : Int) : List UInt8 :=
 if x < 0 then List.replicate (-x).toNat 0 ++ [1] else if x < S.length then S.getD x.toNat [] else List.replicate (x.toNat - S.length + 1) 255
theorem wF : ∀ {a b : Nat}, b < a -> Op.bytesLess (List.replicate a (0 : UInt8) ++ [1]) (List.replicate b 0 ++ [1]) = true
 | a + 1, 0, _ => rfl
 | a + 1, b + 1, h => by
  rw [Dk, Dk, Bk, Bk, iX]
  exact .inr ⟨rfl, wF (by omega)⟩
theorem vK : ∀ {a b : Nat}, a < b -> Op.bytesLess (List.replicate a (255 : UInt8)) (List.replicate b 255) = true
 | 0, b + 1, _ => rfl
 | a + 1, b + 1, h => by
  rw [Dk, Dk, iX]
  exact .inr ⟨rfl, vK (by omega)⟩
theorem rkN_up {S : List (List UInt8)} (hs : SortedN S) (hn : ∀ s ∈ S, midS s) {x y : Int} (h : x < y) : Op.bytesLess (rkN S x) (rkN S y) = true := by
 have mem : ∀ {z : Int}, 0 <= z -> z < S.length -> ∃ h : z.toNat < S.length, rkN S z = S[z.toNat] := fun {z} h1 h2 => by
  have h3 : z.toNat < S.length := by omega
  exact ⟨h3, by rw [rkN, if_neg (by omega), if_pos h2]; simp [List.getD, h3]⟩
 have neg : ∀ {z : Int}, z < 0 -> rkN S z = List.replicate (-z).toNat 0 ++ [1] := fun {z} h => by rw [rkN, if_pos h]
 have neg2 : ∀ {z : Int}, z < 0 -> ∃ r, rkN S z = 0 :: r := fun {z} h => by
  obtain ⟨k, hk⟩ : ∃ k, (-z).toNat = k + 1 := ⟨(-z).toNat - 1, by omega⟩
  exact ⟨_, by rw [neg h, hk, Dk, Bk]⟩
 have big : ∀ {z : Int}, (S.length : Int) <= z -> rkN S z = List.replicate (z.toNat - S.length + 1) 255 := fun {z} h => by rw [rkN, if_neg (by omega), if_neg (by omega)]
 have big2 : ∀ {z : Int}, (S.length : Int) <= z -> ∃ r, rkN S z = 255 :: r := fun {z} h => ⟨_, by rw [big h, Dk]⟩
 have less : ∀ {c d : UInt8} {r s : List UInt8}, c.toNat < d.toNat -> Op.bytesLess (c :: r) (d :: s) = true := fun h => by
  rw [iX]; exact .inl (UInt8.lt_iff_toNat_lt.2 h)
 by_cases x0 : x < 0
 ·by_cases y0 : y < 0
  ·rw [neg x0, neg y0]; exact wF (by omega)
  obtain ⟨r, e⟩ := neg2 x0
  rw [e]
  by_cases yn : y < S.length
  ·obtain ⟨h3, e⟩ := mem (by omega) yn
   obtain ⟨c, r', e2, h5, _⟩ := hn _ (Ao h3)
   rw [e, e2]; exact less (by show 0 < c.toNat; omega)
  ·obtain ⟨r', e⟩ := big2 (show (S.length : Int) <= y by omega)
   rw [e]; exact less (by decide)
 by_cases xn : x < S.length
 ·obtain ⟨h3, e⟩ := mem (by omega) xn
  rw [e]
  by_cases yn : y < S.length
  ·obtain ⟨h4, e'⟩ := mem (by omega) yn
   rw [e']
   exact Cu.1 hs _ _ h3 h4 (by omega)
  ·obtain ⟨r', e'⟩ := big2 (show (S.length : Int) <= y by omega)
   obtain ⟨c, r, e2, _, h5⟩ := hn _ (Ao h3)
   rw [e', e2]; exact less (by show c.toNat < 255; omega)
 ·rw [big (by omega), big (by omega)]
  exact vK (by omega)
theorem cmpN {S : List (List UInt8)} (hs : SortedN S) (hn : ∀ s ∈ S, midS s) : CmpS (rkN S) := ⟨fun x y => by
 by_cases h : x < y
 ·rw [rkN_up hs hn h, Ac h]
 ·rw [Ai h]
  by_cases e : x = y
  ·rw [e, iU]
  ·exact tO (rkN_up hs hn (by omega))⟩
theorem vV (S : List (List UInt8)) : (ints S.length).map (rkN S) = S := by
 apply Ew (by simp [ints])
 intro i h1 h2
 simp only [ints, By, Ga]
 rw [rkN, if_neg (by omega), if_pos (by omega)]
 simp [List.getD, h2]
theorem wA (S : List (List UInt8)) (l : List Int) : l.map (encS (rkN S)) = (l.map (rkN S)).map .str := by
 rw [List.map_map]; rfl
theorem sort178 {l : List (List UInt8)} (hne : 0 < l.length) (hl : l.length < 2 ^ 24) (hn : l.Nodup) (hok : ∀ s ∈ l, midS s) (k : Nat) (h : List AObj) (hk : h[k]? = some (.buf 9 1 (l.map .str))) :
  Gives (PC GL) 178 [.vec k 1 l.length] h fun _ h' => h'[k]? = some (.buf 9 1 ((sortN l).map .str)) /\ Keep (fun i _ => i = k) h h' := by
 have hsl : (sortN l).length = l.length := (cA l).length_eq
 obtain ⟨l0, h1, h2⟩ := jN (f := rkN (sortN l)) (cA l) (m := ints (sortN l).length) (vV _).symm
 rw [hsl] at h1
 have hlen : l0.length = l.length := by rw [h1.length_eq, vZ]
 have hs := gP hn
 have hsn : ∀ q ∈ sortN l, midS q := fun q hq => hok q ((cA l).mem_iff.1 hq)
 have hk' : h[k]? = some (.buf 9 1 (l0.map (encS (rkN (sortN l))))) := by rw [wA, h2]; exact hk
 rw [<- hlen]
 refine aI hC (h178 (cmpN hs hsn) l0 (by omega) (by omega) k h hk') fun x h' ⟨l', p1, p2, p3, p4⟩ => ⟨x, rfl, ?_, p4⟩
 have hl' : l'.length = l0.length := p1.length_eq.symm
 have e : l' = ints l.length := vG (p1.symm.trans h1) (by rw [hl']; exact p2)
 rw [p3, wA, e, <- hsl, vV]
end Go.Rip
namespace Go.Rip
open Go Go.Proofs
set_option maxRecDepth 100000
variable {GL : Glob}
attribute [local irreducible] Pure
def nmP (q : Pr) : List UInt8 := q.name ++ [47, UInt8.ofNat (97 + q.arity.toNat)]
theorem enc97 : ∀ a : Fin 17, (Utf8.encode (97 + (a.val : Int))).data.toList = [UInt8.ofNat (97 + a.val)] := by decide +kernel
theorem enc_arity {a : Int} (h : 0 <= a /\ a <= 16) : (Utf8.encode (97 + a)).data.toList = [UInt8.ofNat (97 + a.toNat)] := by
 have := enc97 ⟨a.toNat, by omega⟩
 simp only at this
 rwa [Er h.1] at this
theorem nmP_mid {q : Pr} (h : nameOk q.name = true) : midS (nmP q) := by
 simp only [nameOk, Ag, Cb] at h
 cases hq : q.name with
 | nil => rw [hq] at h; simp at h
 | cons c r =>
  rw [hq] at h
  have := h.2.2
  simp only [Fc, Ag, byteOk, Cb] at this
  exact ⟨c, _, by rw [nmP, hq]; rfl, by omega, by omega⟩
theorem nmP_inj {a b : Pr} (ha : 0 <= a.arity /\ a.arity <= 16) (hb : 0 <= b.arity /\ b.arity <= 16) (h : nmP a = nmP b) : a.sym = b.sym := by
 obtain ⟨h3, h2⟩ := List.append_inj' h rfl
 have h4 : UInt8.ofNat (97 + a.arity.toNat) = UInt8.ofNat (97 + b.arity.toNat) := by simpa using h2
 have h5 := congrArg UInt8.toNat h4
 simp only [UInt8.toNat_ofNat'] at h5
 have : a.arity = b.arity := by omega
 simp only [Pr.sym, h3, this]
theorem wrap32 (n : Int) (h : 0 <= n /\ n < 2147483648) : IntKind.i32.wrap n = n := by
 have e : n % (2 ^ IntKind.i32.bits : Int) = n := by show n % (2 ^ 32 : Int) = n; omega
 have h2 : decide (n >= (2 ^ (IntKind.i32.bits - 1) : Int)) = false := Ai (by show ¬ n >= (2 ^ 31 : Int); omega)
 unfold IntKind.wrap
 simp only [e, h2, Bool.and_false]
 rfl
theorem h178n : Pure (PC GLs) 178 [.v (.slice none 0 0)] (.tup []) := bO bQ mo0 (n := 3000) (by kernel_rfl) (by kernel_rfl)
structure Pg.named (p : Pg) : Prop where
 n : p.procs.length < 2 ^ 24
 m : ∀ q ∈ p.procs, nameOk q.name = true /\ 0 <= q.arity /\ q.arity <= 16
 d : (p.procs.map Pr.sym).Nodup
def nmI (p : Pg) (k : Nat) : List UInt8 := nmP (p.procs.getD k default)
theorem kR {p : Pg} (hp : p.named) {l : List Nat} (hl : ∀ k ∈ l, k < p.procs.length) (hn : l.Nodup) : (l.map (nmI p)).Nodup := by
 rw [Cz, Fg]
 refine (Cz.1 hn).imp_of_mem fun {x y} hx hy hne h => hne ?_
 have h1 := hl x hx
 have h2 := hl y hy
 have e1 : p.procs.getD x default = p.procs[x] := by simp [List.getD, h1]
 have e2 : p.procs.getD y default = p.procs[y] := by simp [List.getD, h2]
 rw [nmI, nmI, e1, e2] at h
 have h3 := nmP_inj (hp.m _ (Ao h1)).2 (hp.m _ (Ao h2)).2 h
 have := Cu.1 (Cz.1 hp.d)
 rcases Gz x y with h4 | h4 | h4
 ·exact absurd (by rw [By, By]; exact h3) (this x y (by simpa using h1) (by simpa using h2) h4)
 ·exact h4
 ·exact absurd (by rw [By, By]; exact h3.symm) (this y x (by simpa using h2) (by simpa using h1) h4)
theorem fin_strs {a : Nat} {l : List (List UInt8)} {h : List AObj} (ha : l = [] ∨ h[a]? = some (.buf 9 1 (l.map .str))) :
  ∃ y h', Wk GLs 0 [(0, vecA a 1 (l.map .str))] h [(0, y)] h' /\ h' = [] /\ ARes.val y = ARes.val (.sl 1 (l.map .str)) := by
 have hfz : ∀ l : List (List UInt8), (l.map AV.str).map fz = l.map AV.str := fun l => by
  rw [List.map_map]; exact Cx fun x _ => rfl
 have hbd : ∀ l : List (List UInt8), bds 0 (l.map AV.str) := fun l => by
  induction l with
  | nil => trivial
  | cons x r ih => exact ⟨trivial, ih⟩
 by_cases hl : l = []
 ·rw [hl]
  exact aE (by simp [vecA, wkr]) (by simp [go_sem])
 ·have ha := ha.resolve_left hl
  have e1 : fzN h 1 (.vec a 1 l.length) = .sl 1 (l.map .str) := by
   have : fzN h 0 = fz := rfl
   simp only [fzN, fzG, ha]
   rw [show Nat.ble l.length (l.map AV.str).length = true from by simp]
   simp only [Bh (show (l.map AV.str).length <= l.length by simp), hfz]
  rw [dD (by simpa using hl), Af]
  have hb : bd 0 (fzN h 1 (.vec a 1 l.length)) := by rw [e1]; simp [go_sem, hbd]
  have := Wk.fzN (GL := GLs) 1 hb
  rw [e1] at this
  exact ⟨_, [], this, rfl, rfl⟩
theorem h83 (p : Pg) (hp : p.named) (l : List Nat) (hl : ∀ k ∈ l, k < p.procs.length) (hn : l.Nodup) (hll : l.length < 2 ^ 24) : Pure (PC GLs) 83 [encPg p, .sl 1 (l.map encN)] (.sl 1 ((sortN (l.map (nmI p))).map .str)) := by
 have hpn := hp.n
 have hnd := kR hp hl hn
 have hmid : ∀ s ∈ l.map (nmI p), midS s := fun s hs => by
  obtain ⟨k, hk, rfl⟩ := Bq.1 hs
  have h1 := hl k hk
  have e1 : p.procs.getD k default = p.procs[k] := by simp [List.getD, h1]
  rw [nmI, e1]
  exact nmP_mid (hp.m _ (Ao h1)).1
 have hbd : bds 0 ((sortN (l.map (nmI p))).map AV.str) := by
  generalize sortN (l.map (nmI p)) = L
  induction L with
  | nil => trivial
  | cons x r ih => exact ⟨trivial, ih⟩
 refine k83.pure (by simp) (by simp [go_sem]) (by simp [go_sem, hbd, -List.map_map]) ?_
 simp only [go_sem, c83, r83, encPg]
 refine aV hC (fun j (a : Nat) => [(10, .i j), (8, .sl 1 (l.map encN)), (9, .i l.length), (2, .ref 0 0), (5, vecA a 1 (((l.take j).map (nmI p)).map .str))])
  (fun j a h' => h'[0]? = some (.cells 37 [.sl 3 (p.procs.map encPr)]) /\ (j = 0 ∨ h'[a]? = some (.buf 9 1 (((l.take j).map (nmI p)).map .str)))) l.length ?_ fun j a h2 hj ⟨f1, f2⟩ => ?_
 ·exact ⟨0, _, Wk.pick (Ap _) (by simp [go_sem, vecA]), rfl, .inl rfl⟩
 have f1_g := fun l => aF (l := l) f1
 have f1_s := fun o l => aN (l := l) f1 o
 have f1_e := fun o l => aM (o := o) (l := l) f1
 have f1_h := fun o => aG (o := o) f1
 simp only [go_sem]
 refine aK (fun hlt => ?_) (fun hlt => ?_)
 ·have hlt := aL hlt
  have w5 : IntKind.i64.wrap ((j : Int) + 1) = (j : Int) + 1 := aD _ (by omega)
  have hi := hl _ (Ao hlt)
  have d0 : decide (((l[j] : Nat) : Int) >= 0) = true := Ac (by omega)
  have d1 : decide (((l[j] : Nat) : Int) < (p.procs.length : Int)) = true := Ac (by omega)
  obtain ⟨hqn, hqa⟩ := hp.m _ (Ao hi)
  have hs : ((l.take (j + 1)).map (nmI p)).map AV.str = ((l.take j).map (nmI p)).map AV.str ++ [.str (nmP p.procs[l[j]])] := by
   rw [Bi hlt, De, De, List.map_singleton, List.map_singleton, nmI]
   simp [List.getD, hi]
  have ll : (((l.take j).map (nmI p)).map AV.str).length = j := by simp; omega
  have gp := aX (f := encPr) hi
  obtain ⟨Q, hQ⟩ : ∃ Q, p.procs[l[j]] = Q := ⟨_, rfl⟩
  rw [hQ] at hs gp hqn hqa
  simp only [encPr] at gp
  have w6 : IntKind.i64.wrap (97 + Q.arity) = 97 + Q.arity := aD _ (by omega)
  have w7 : IntKind.i32.wrap (97 + Q.arity) = 97 + Q.arity := wrap32 _ (by omega)
  have ea := enc_arity hqa
  have hql : Q.name.length <= 32 := by
   simp only [nameOk, Ag, Cb] at hqn
   exact hqn.2.1
  generalize ((l.take j).map (nmI p)).map AV.str = L at *
  have nx : L = [] ∨ h2[a]? = some (.buf 9 1 L) /\ L ≠ [] := by
   rcases f2 with h | h
   ·exact .inl (Bs (by omega))
   ·by_cases e : L = []
    ·exact .inl e
    ·exact .inr ⟨h, e⟩
  have gj := aX (f := encN) hlt
  have bi := bnd hi
  have b1 : ∀ n, 40 <= n -> Nat.ble Q.name.length n = true := fun n hn => Ct (by omega)
  rcases nx with hL0 | ⟨f5, hne⟩
  ·subst hL0
   have hj0 : j = 0 := ll.symm
   simp only [go_sem, hlt, gj, encN, d0, d1, f1, bi, gp, w6, w7, ea, b1, uR, fB, Aq, Bo, Bw, Dv, w5]
   simp only [hs, Cm]
   exact ⟨by decide, h2.length + 1, _, Wk.pick (Ap _) (by simp [go_sem, vecA]), aF f1, .inr (aR _ _ 1)⟩
  ·rw [dD hne]
   have f5_g := fun l => aF (l := l) f5
   have f5_s := fun o l => aN (l := l) f5 o
   have f5_e := fun o l => aM (o := o) (l := l) f5
   have f5_h := fun o => aG (o := o) f5
   simp only [go_sem, hlt, gj, encN, d0, d1, Aq, f1, f5_g, f5_s, bi, gp, w6, w7, ea, b1, fB, Bo, Bw, Dv, w5]
   simp only [hs]
   exact ⟨by omega, h2.length + 1, _, Wk.pick (Ap _) (by simp [go_sem, vecA]), aF ((aS (bF f5 f1 (by simp))).trans f1), .inr (uQ _ _ _ 1 _)⟩
 ·have hge := aO hlt
  rw [aY hge] at f2 ⊢
  by_cases h0 : l = []
  ·rw [h0]
   simp only [go_sem, Cw, uR]
   refine aC hC h178n ?_
   simp only [go_sem]
   exact aE (by simp [sortN, wkr]) (by simp [go_sem])
  ·have hpos : 0 < l.length := Gs.2 h0
   have f5 := f2.resolve_left (by omega)
   have hml : ((l.map (nmI p)).map AV.str) ≠ [] := by simpa using h0
   have hsl := (cA (l.map (nmI p))).length_eq
   have hq := sort178 (GL := GLs) (l := l.map (nmI p)) (by simpa using hpos) (by simpa using hll) hnd hmid a h2 f5
   generalize l.map (nmI p) = L at *
   rw [dD hml, Af]
   simp only [go_sem, hlt]
   refine aI hC hq fun x h3 ⟨g5, hk3⟩ => ?_
   simp only [go_sem]
   have hL : L ≠ [] := by simpa using hml
   have hv : AV.vec a 1 L.length = vecA a 1 ((sortN L).map AV.str) := by
    rw [dD (by intro e; have q : (sortN L).length = 0 := (by simpa using congrArg List.length e); rw [hsl] at q; exact hL (Bs q)), Af, hsl]
   rw [hv]
   exact fin_strs (.inr g5)
end Go.Rip
namespace Go.Rip
open Go Go.Proofs
set_option maxRecDepth 100000
structure Dim (n : Nat) (R : List (List Bool)) : Prop where
 r : R.length = n
 c : ∀ i, i < n -> (R.getD i []).length = n
def setM (R : List (List Bool)) (i j : Nat) (b : Bool) : List (List Bool) := R.set i ((R.getD i []).set j b)
theorem getD_setr {R : List (List Bool)} {i i' : Nat} {x : List Bool} (hi : i < R.length) : (R.set i x).getD i' [] = if i' = i then x else R.getD i' [] := by
 by_cases h : i' = i
 ·subst h; simp [List.getD, hi]
 ·rw [if_neg h]; simp only [List.getD, Au (fun e => h e.symm)]
theorem Dim.set {n : Nat} {R : List (List Bool)} (h : Dim n R) {i : Nat} (hi : i < n) (j : Nat) (b : Bool) : Dim n (setM R i j b) := by
 have hR := h.r
 refine ⟨by simp [setM, hR], fun x hx => ?_⟩
 rw [setM, getD_setr (by omega)]
 split
 ·rw [As]; exact h.c i hi
 ·exact h.c x hx
theorem nK : ∀ l : List Bool, cntB l = (List.range l.length).countP (mkd l) := fun l => by
 have h : l = (List.range l.length).map (mkd l) := by
  apply Ew (by simp)
  intro i h1 h2
  rw [By, Ga, eH h1]
 conv => lhs; rw [h]
 rw [cntB, List.count, List.countP_map]
 congr 1
 funext x
 simp [Function.comp]
theorem mK {α : Type} {f g : α -> Bool} : ∀ {l : List α}, (∀ x ∈ l, f x = true -> g x = false) -> l.countP (fun x => f x || g x) = l.countP f + l.countP g
 | [], _ => rfl
 | x :: r, h => by
  have ih := mK (l := r) fun y hy => h y (by simp [hy])
  have hx := h x (by simp)
  simp only [List.countP_cons, ih]
  rcases hf : f x with _ | _ <;> rcases hg : g x with _ | _
  ·simp
  ·simp; omega
  ·simp; omega
  ·rw [hx hf] at hg; cases hg
theorem cntB_all {l : List Bool} (h : l.length <= cntB l) {k : Nat} (hk : k < l.length) : mkd l k = true := by
 have h1 := iZ l
 have := List.count_eq_length.1 (show l.count true = l.length by rw [cntB] at h h1; omega)
 rw [eH hk, <- this _ (Ao hk)]
section
variable {n : Nat} {M : List (List Bool)}
def DoneC (M : List (List Bool)) (done : List Bool) : Prop := ∀ i k, mkd done i = true -> toM M i k = true -> mkd done k = true
theorem tE {i k : Nat} : oneM M i k = oneM M k i := by
 rw [oneM, oneM, Bool.and_comm]
 congr 1
 rw [Ce, beq_iff_eq, beq_iff_eq]; exact eq_comm
theorem sA {i k : Nat} (h : oneM M i k = true) : i = k ∨ (toM M i k = true /\ toM M k i = true) := by
 simpa [oneM] using h
theorem sC {i k : Nat} (h : i = k ∨ (toM M i k = true /\ toM M k i = true)) : oneM M i k = true := by
 simpa [oneM] using h
theorem oD (hT : TrM n M) {i k x : Nat} (hi : i < n) (hk : k < n) (hx : x < n) (h1 : oneM M i k = true) (h2 : oneM M k x = true) : oneM M i x = true := by
 rcases sA h1 with rfl | ⟨a1, a2⟩
 ·exact h2
 ·rcases sA h2 with rfl | ⟨b1, b2⟩
  ·exact h1
  ·exact sC (.inr ⟨hT i k x hi hk a1 b1, hT x k i hx hk b2 a2⟩)
theorem mem_compM {i k : Nat} : (k : Int) ∈ compM n M i ↔ k < n /\ oneM M i k = true := by
 simp only [compM, Bq, Ed, Cn]
 constructor
 ·rintro ⟨x, h, e⟩
  obtain rfl : x = k := by omega
  exact h
 ·intro h; exact ⟨k, h, rfl⟩
structure CompsOk (n : Nat) (M : List (List Bool)) (done : List Bool) (L : List (List Int)) : Prop where
 m : ∀ k, k < n -> mkd done k = false -> ∃ a, a < L.length /\ (k : Int) ∈ L.getD a []
 o : ∀ a k, ((k : Nat) : Int) ∈ L.getD a [] -> k < n /\ mkd done k = false
 e : ∀ a b i k, ((i : Nat) : Int) ∈ L.getD a [] -> ((k : Nat) : Int) ∈ L.getD b [] -> (a = b ↔ oneM M i k = true) /\ (toM M i k = true -> b <= a)
 s : (L.map List.length).sum + cntB done = n
 z : ∀ a x, x ∈ L.getD a [] -> ∃ k : Nat, x = k
theorem CompsOk.nil {done : List Bool} (hl : done.length = n) (h : n <= cntB done) : CompsOk n M done [] := by
 have := iZ done
 refine ⟨fun k hk hd => ?_, fun a k h => by simp at h, fun a b i k h => by simp at h, by simp; omega, fun a x h => by simp at h⟩
 rw [cntB_all (by omega) (by omega)] at hd; cases hd
theorem uM (hT : TrM n M) (hD : ∀ i k, toM M i k = true -> i < n /\ k < n) : ∀ (f : Nat) (done : List Bool), done.length = n -> DoneC M done -> n <= cntB done + f -> CompsOk n M done (comps n M f done)
 | 0, done, hl, _, h => CompsOk.nil hl h
 | f + 1, done, hl, hc, h => by
  rw [comps]
  rcases hn : nextM n M done with _ | i
  ·dsimp only
   refine CompsOk.nil hl ?_
   refine Nat.le_of_not_lt fun hlt => ?_
   obtain ⟨i, hi⟩ := nextM_ex hT hl hlt
   rw [hn] at hi; cases hi
  ·dsimp only
   obtain ⟨hi, hf, -⟩ := gH hn
   have hcnt := qM hl hn
   simp only [freeM, Ag, Bu, Be, Cn] at hf
   obtain ⟨hf1, hf2⟩ := hf
   have hmk : ∀ k, k < n -> mkd (markM n M done i) k = (mkd done k || oneM M i k) := fun k hk => jD hk
   have hto : ∀ k x, k < n -> x < n -> oneM M i k = true -> toM M k x = true -> toM M i x = true := fun k x hk hx h1 h2 => by
    rcases sA h1 with rfl | ⟨a, _⟩
    ·exact h2
    ·exact hT i k x hi hk a h2
   have hfr : ∀ x, x < n -> toM M i x = true -> mkd (markM n M done i) x = true := fun x hx hix => by
    have := hf2 x hx
    rw [okM, hix] at this
    rw [hmk x hx]
    simpa using this
   have hc2 : DoneC M (markM n M done i) := fun k x hk hkx => by
    obtain ⟨hkn, hxn⟩ := hD k x hkx
    rw [hmk k hkn, Dn] at hk
    rcases hk with hk | hk
    ·rw [hmk x hxn, hc k x hk hkx]; rfl
    ·exact hfr x hxn (hto k x hkn hxn hk hkx)
   have ih := uM hT hD f (markM n M done i) (eM _ _ _ _) hc2 (by omega)
   generalize hL : comps n M f (markM n M done i) = L at ih ⊢
   have hnd : ∀ k, k < n -> oneM M i k = true -> mkd done k = false := fun k hk ho => by
    rcases hd : mkd done k with _ | _
    ·rfl
    ·rcases sA ho with rfl | ⟨_, a2⟩
     ·rw [hf1] at hd; cases hd
     ·have := hc k i hd a2
      rw [hf1] at this; cases this
   have g0 : ∀ c : List Int, (c :: L).getD 0 [] = c := fun _ => rfl
   have gs : ∀ (c : List Int) a, (c :: L).getD (a + 1) [] = L.getD a [] := fun _ _ => rfl
   have un : ∀ k, k < n -> mkd (markM n M done i) k = false -> oneM M i k = false /\ mkd done k = false := fun k hk h => by
    rw [hmk k hk, Fl] at h
    exact ⟨h.2, h.1⟩
   refine ⟨fun k hk hd => ?_, fun a k ha => ?_, fun a b x y ha hb => ?_, ?_, fun a x hx => ?_⟩
   ·rcases ho : oneM M i k with _ | _
    ·obtain ⟨a, h1, h2⟩ := ih.m k hk (by rw [hmk k hk, hd, ho]; rfl)
     exact ⟨a + 1, by simpa using h1, by rw [gs]; exact h2⟩
    ·exact ⟨0, by simp, by rw [g0]; exact mem_compM.2 ⟨hk, ho⟩⟩
   ·rcases a with _ | a
    ·rw [g0, mem_compM] at ha
     exact ⟨ha.1, hnd k ha.1 ha.2⟩
    ·rw [gs] at ha
     obtain ⟨h1, h2⟩ := ih.o a k ha
     exact ⟨h1, (un k h1 h2).2⟩
   ·rcases a with _ | a <;> rcases b with _ | b
    ·rw [g0, mem_compM] at ha hb
     refine ⟨⟨fun _ => oD hT ha.1 hi hb.1 (by rw [tE]; exact ha.2) hb.2, fun _ => rfl⟩, fun _ => Ak _⟩
    ·rw [g0, mem_compM] at ha
     rw [gs] at hb
     obtain ⟨h1, h2⟩ := ih.o b y hb
     obtain ⟨h3, h4⟩ := un y h1 h2
     refine ⟨⟨fun e => by omega, fun ho => ?_⟩, fun ht => ?_⟩
     ·rw [oD hT hi ha.1 h1 ha.2 ho] at h3; cases h3
     ·rw [hfr y h1 (hto x y ha.1 h1 ha.2 ht)] at h2; cases h2
    ·rw [g0, mem_compM] at hb
     rw [gs] at ha
     obtain ⟨h1, h2⟩ := ih.o a x ha
     obtain ⟨h3, h4⟩ := un x h1 h2
     refine ⟨⟨fun e => by omega, fun ho => ?_⟩, fun _ => Ap _⟩
     rw [oD hT hi hb.1 h1 hb.2 (by rw [tE]; exact ho)] at h3; cases h3
    ·rw [gs] at ha hb
     obtain ⟨h1, h2⟩ := ih.e a b x y ha hb
     exact ⟨by rw [<- h1]; omega, fun ht => by have := h2 ht; omega⟩
   ·have hs := ih.s
    have e1 : cntB (markM n M done i) = cntB done + (compM n M i).length := by
     rw [nK, eM, nK done, hl, compM, Af, <- List.countP_eq_length_filter, <- mK fun x hx h => by
      rcases ho : oneM M i x with _ | _
      ·rfl
      ·rw [hnd x (Cn.1 hx) ho] at h; cases h]
     apply List.countP_congr
     intro x hx
     rw [hmk x (Cn.1 hx)]
    rw [e1] at hs
    simp only [Ay, List.sum_cons]
    omega
   ·rcases a with _ | a
    ·rw [g0, compM] at hx
     obtain ⟨k, _, e⟩ := Bq.1 hx
     exact ⟨k, e.symm⟩
    ·rw [gs] at hx; exact ih.z a x hx
end
section
variable {n : Nat} {M : List (List Bool)} {L : List (List Int)}
end
theorem matM_out {p : Pg} {i k : Nat} (h : toM (matM p) i k = true) : i < p.procs.length /\ k < p.procs.length := by
 have hi : i < p.procs.length := by
  rcases Fq i p.procs.length with g | g
  ·exact g
  ·rw [toM, List.getD, Fd (by simpa [matM] using g)] at h
   simp [mkd] at h
 rw [iY hi] at h
 exact ⟨hi, by have := dS h; rwa [oJ] at this⟩
theorem qW {p : Pg} (hok : p.ok = true) : CompsOk p.procs.length (matM p) (List.replicate p.procs.length false) (compsR p) := by
 rw [compsR, if_pos hok]
 exact uM (rW p) (fun i k h => matM_out h) _ _ (by simp) (fun i k hi => by rw [nS] at hi; cases hi) (by omega)
end Go.Rip
namespace Go.Rip
open Go
set_option maxRecDepth 100000
variable {GL : Glob}
structure PP (t p : Pg) (f g : Nat -> Nat) : Prop where
 l : t.procs.length = p.procs.length
 a : ∀ i, i < t.procs.length -> f i < p.procs.length /\ p.procs.getD (f i) default = t.procs.getD i default /\ g (f i) = i
 b : ∀ i, i < p.procs.length -> g i < t.procs.length /\ t.procs.getD (g i) default = p.procs.getD i default /\ f (g i) = i
 d : (t.procs.map Pr.sym).Nodup
 d' : (p.procs.map Pr.sym).Nodup
variable {t p : Pg} {f g : Nat -> Nat}
theorem PP.sw (H : PP t p f g) : PP p t g f := ⟨H.l.symm, H.b, H.a, H.d', H.d⟩
def atP (t p : Pg) (i : Nat) : Nat := (findS (t.procs.getD i default).sym p.syms).toNat
theorem rX (hp : t.procs.Perm p.procs) (hd : (p.procs.map Pr.sym).Nodup) {i : Nat} (hi : i < t.procs.length) :
  atP t p i < p.procs.length /\ p.procs.getD (atP t p i) default = t.procs.getD i default := by
 have e : t.procs.getD i default = t.procs[i] := by simp [List.getD, hi]
 have hm : t.procs[i] ∈ p.procs := hp.mem_iff.1 (Ao hi)
 obtain ⟨j, hj, ej⟩ := Dc.1 hm
 have hj' : j < p.syms.length := by simpa [Pg.syms] using hj
 have h := vW (l := p.syms) hd hj'
 rw [oT hj', ej, <- e] at h
 have h2 : atP t p i = j := by rw [atP, h]; rfl
 rw [h2]
 exact ⟨hj, by rw [e, <- ej]; simp [List.getD, hj]⟩
theorem pF {l : List Pr} (hd : (l.map Pr.sym).Nodup) {i j : Nat} (hi : i < l.length) (hj : j < l.length) (h : l.getD i default = l.getD j default) : i = j := by
 have e1 : l.getD i default = l[i] := by simp [List.getD, hi]
 have e2 : l.getD j default = l[j] := by simp [List.getD, hj]
 rw [e1, e2] at h
 have hp := Cu.1 (Cz.1 hd)
 rcases Gz i j with h1 | h1 | h1
 ·exact (hp i j (by simpa using hi) (by simpa using hj) h1 (by rw [By, By, h])).elim
 ·exact h1
 ·exact (hp j i (by simpa using hj) (by simpa using hi) h1 (by rw [By, By, h])).elim
theorem PP.of (hp : t.procs.Perm p.procs) (hd : (p.procs.map Pr.sym).Nodup) : PP t p (atP t p) (atP p t) := by
 have hd2 : (t.procs.map Pr.sym).Nodup := (hp.map Pr.sym).nodup_iff.2 hd
 refine ⟨hp.length_eq, fun i hi => ?_, fun i hi => ?_, hd2, hd⟩
 ·obtain ⟨h1, h2⟩ := rX hp hd hi
  obtain ⟨h3, h4⟩ := rX hp.symm hd2 h1
  exact ⟨h1, h2, pF hd2 h3 hi (h4.trans h2)⟩
 ·obtain ⟨h1, h2⟩ := rX hp.symm hd2 hi
  obtain ⟨h3, h4⟩ := rX hp hd h1
  exact ⟨h1, h2, pF hd h3 hi (h4.trans h2)⟩
theorem PP.inj (H : PP t p f g) {i j : Nat} (hi : i < t.procs.length) (hj : j < t.procs.length) (h : f i = f j) : i = j := by
 rw [<- (H.a i hi).2.2, <- (H.a j hj).2.2, h]
theorem wD (H : PP t p f g) (l : List Tm) {i : Nat} (hi : i < t.procs.length) (h : mkd (calB t l) i = true) : mkd (calB p l) (f i) = true := by
 obtain ⟨h1, h2, _⟩ := H.a i hi
 rw [kU hi, Cv] at h
 rw [kU h1, Cv]
 obtain ⟨s, hs, e⟩ := h
 refine ⟨s, hs, ?_⟩
 obtain ⟨k1, k2⟩ := findS_val (by simpa using e)
 rw [oT k1] at k2
 have h1' : f i < p.syms.length := by simpa [Pg.syms] using h1
 have := vW (l := p.syms) H.d' h1'
 rw [oT h1'] at this
 have e1 : t.procs.getD i default = t.procs[i] := by simp [List.getD, hi]
 have e2 : p.procs.getD (f i) default = p.procs[f i] := by simp [List.getD, h1]
 rw [e1, e2] at h2
 rw [h2, k2] at this
 simp [this]
theorem PP.cal (H : PP t p f g) (l : List Tm) {i : Nat} (hi : i < t.procs.length) : mkd (calB t l) i = mkd (calB p l) (f i) := by
 rw [Ce]
 refine ⟨wD H l hi, fun h => ?_⟩
 have := wD H.sw l (H.a i hi).1 h
 rwa [(H.a i hi).2.2] at this
theorem PP.calG (H : PP t p f g) {i k : Nat} (hi : i < t.procs.length) (hk : k < t.procs.length) : mkd (Rip.calG t i) k = mkd (Rip.calG p (f i)) (f k) := by
 rw [Rip.calG, Rip.calG, H.cal _ hk, (H.a i hi).2.1]
theorem clo_tr (H : PP t p f g) {S : Nat -> Prop} {lt lp : List Bool} (ht : LC (calN t) S lt) (hp : Clo (calN p) lp)
  (hS : ∀ i, S i -> i < t.procs.length /\ mkd lp (f i) = true) {i : Nat} (h : mkd lt i = true) : i < t.procs.length /\ mkd lp (f i) = true := by
 have hT : ∀ i, mkd ((List.range t.procs.length).map fun i => mkd lp (f i)) i = true ↔ i < t.procs.length /\ mkd lp (f i) = true := fun i => by
  by_cases hi : i < t.procs.length
  ·simp [mkd, List.getD, hi]
  ·simp [mkd, List.getD, hi]
 refine (hT i).1 (ht.t _ (fun i hi k hk => ?_) (fun k hk => (hT k).2 (hS k hk)) i h)
 obtain ⟨h1, h2⟩ := (hT i).1 hi
 have hkn := jG t i k hk
 refine (hT k).2 ⟨hkn, hp _ h2 _ ?_⟩
 rw [calN, mem_nxs, <- H.calG h1 hkn]
 exact mem_nxs.1 hk
theorem PP.clo (H : PP t p f g) {a b : List Bool} (ha : a.length = t.procs.length) (hb : b.length = p.procs.length)
  (h : ∀ i, i < t.procs.length -> mkd a i = mkd b (f i)) {i : Nat} (hi : i < t.procs.length) : mkd (closeF (calN t) a) i = mkd (closeF (calN p) b) (f i) := by
 have l1 := jB (G := calN t) (l := a) (by rw [ha]; exact jG t)
 have l2 := jB (G := calN p) (l := b) (by rw [hb]; exact jG p)
 rw [Ce]
 constructor
 ·intro hh
  refine (clo_tr H l1 l2.c (fun i hi => ?_) hh).2
  have hin : i < t.procs.length := by have := dS hi; rwa [ha] at this
  exact ⟨hin, l2.m _ (by rw [<- h i hin]; exact hi)⟩
 ·intro hh
  have := (clo_tr H.sw l2 l1.c (fun i hi => ?_) hh).2
  ·rwa [(H.a i hi).2.2] at this
  ·have hin : i < p.procs.length := by have := dS hi; rwa [hb] at this
   refine ⟨hin, l1.m _ ?_⟩
   rw [h _ (H.b i hin).1, (H.b i hin).2.2]
   exact hi
theorem PP.reach (H : PP t p f g) (l : List Tm) {i : Nat} (hi : i < t.procs.length) : mkd (reachS t l) i = mkd (reachS p l) (f i) :=
 H.clo (cM _ _) (cM _ _) (fun _ h => H.cal l h) hi
theorem PP.to (H : PP t p f g) {i k : Nat} (hi : i < t.procs.length) (hk : k < t.procs.length) : toM (matM t) i k = toM (matM p) (f i) (f k) := by
 rw [iY hi, iY (H.a i hi).1]
 exact H.clo (fX _ _) (fX _ _) (fun _ h => H.calG hi h) hk
theorem PP.one (H : PP t p f g) {i k : Nat} (hi : i < t.procs.length) (hk : k < t.procs.length) : oneM (matM t) i k = oneM (matM p) (f i) (f k) := by
 rw [oneM, oneM, H.to hi hk, H.to hk hi]
 have : (i == k) = (f i == f k) := by
  rw [Ce, beq_iff_eq, beq_iff_eq]
  exact ⟨fun h => by rw [h], H.inj hi hk⟩
 rw [this]
theorem PP.nm (H : PP t p f g) {i : Nat} (hi : i < t.procs.length) : nmI t i = nmI p (f i) := by rw [nmI, nmI, (H.a i hi).2.1]
theorem PP.names (H : PP t p f g) (ht : t.named) (hp : p.named) {a b : List Nat} (ha : ∀ k ∈ a, k < t.procs.length) (hb : ∀ k ∈ b, k < p.procs.length) (na : a.Nodup) (nb : b.Nodup)
  (h : ∀ i, i < t.procs.length -> (i ∈ a ↔ f i ∈ b)) : sortN (a.map (nmI t)) = sortN (b.map (nmI p)) := by
 refine sortN_eq (kR ht ha na) ((List.perm_ext_iff_of_nodup (kR ht ha na) (kR hp hb nb)).2 fun s => ?_)
 rw [Bq, Bq]
 constructor
 ·rintro ⟨i, hi, rfl⟩
  exact ⟨f i, (h i (ha i hi)).1 hi, (H.nm (ha i hi)).symm⟩
 ·rintro ⟨k, hk, rfl⟩
  obtain ⟨h1, h2, h3⟩ := H.b k (hb k hk)
  exact ⟨g k, (h _ h1).2 (by rw [h3]; exact hk), by rw [H.nm h1, h3]⟩
end Go.Rip
namespace Go.Rip
open Go
set_option maxRecDepth 100000
variable {GL : Glob} {t p : Pg} {f g : Nat -> Nat}
theorem sH (h : t.procs.Perm p.procs) : headsOk [] t.procs = headsOk [] p.procs := by
 rw [Ce, eB, eB, (h.map Pr.sym).nodup_iff]
 have : (∀ q ∈ t.procs, q.fine = true) ↔ ∀ q ∈ p.procs, q.fine = true := ⟨fun H q hq => H q (h.mem_iff.2 hq), fun H q hq => H q (h.mem_iff.1 hq)⟩
 simp [this]
theorem lJ (h : t.procs.Perm p.procs) (l : List Tm) : okCalls t.syms [] l = okCalls p.syms [] l := by
 rw [Ce, nD, nD]
 have hm : ∀ s, s ∈ t.syms ↔ s ∈ p.syms := fun s => (h.map Pr.sym).mem_iff
 exact ⟨fun H s hs => (hm s).1 (H s hs), fun H s hs => (hm s).2 (H s hs)⟩
theorem pL (h : t.procs.Perm p.procs) (q : Pr) : okClauses t.syms [] q = okClauses p.syms [] q := by
 simp only [okClauses, lJ h]
theorem gA (h : t.procs.Perm p.procs) : t.ok = p.ok := by
 rw [Pg.ok, Pg.ok, Pg.tabled, Pg.tabled, sH h, h.length_eq]
 have : okClauses t.syms [] = okClauses p.syms [] := funext (pL h)
 rw [this, h.all_eq]
theorem dO (h : t.procs.Perm p.procs) (q : Qy) : okQuery t q = okQuery p q := by
 rw [okQuery, okQuery, gA h, lJ h]
theorem mP (h : t.procs.Perm p.procs) : t.sorted = p.sorted := by
 rw [Pg.sorted, Pg.sorted, gA h]
 rcases hp : p.ok with _ | _
 ·rfl
 ·have ht : t.ok = true := by rw [gA h, hp]
  simp only [if_true]
  rw [sorted_eq (fI (sN ht).1) (fI (sN hp).1) (((cE _).trans h).trans (cE _).symm)]
theorem kL {p : Pg} (_hs : p.small) (hok : p.ok = true) : p.named := by
 simp only [Pg.ok, Pg.tabled, Ag] at hok
 obtain ⟨h1, _, h3⟩ := (eB _ _).1 hok.1.2
 refine ⟨?_, fun q hq => ?_, h1⟩
 ·have := hok.1.1
  simp only [Bu, decide_eq_false_iff_not] at this
  omega
 ·have := h3 q hq
  simp only [Pr.fine, Ag, Bu, decide_eq_false_iff_not] at this
  exact ⟨this.1, by omega, by omega⟩
theorem eK (l : List Bool) : (nxs l).Nodup := List.Pairwise.filter _ List.nodup_range
theorem pQ (h : t.procs.Perm p.procs) (ht : t.named) (hp : p.named) (q : Qy) : sortN ((reachR t q).map (nmI t)) = sortN ((reachR p q).map (nmI p)) := by
 rw [reachR, reachR, dO h]
 split
 ·have H := PP.of h hp.d
  refine H.names ht hp (fun k hk => ?_) (fun k hk => ?_) (eK _) (eK _) (fun i hi => ?_)
  ·have := oC hk; rwa [reachS, cZ, cM] at this
  ·have := oC hk; rwa [reachS, cZ, cM] at this
  ·rw [mem_nxs, mem_nxs, H.reach _ hi]
 ·rfl
def nums (c : List Int) : List Nat := c.map Int.toNat
def nmC (p : Pg) (c : List Int) : List (List UInt8) := sortN ((nums c).map (nmI p))
def compN (n : Nat) (M : List (List Bool)) (i : Nat) : List Nat := (List.range n).filter (oneM M i)
theorem dG (n : Nat) (M : List (List Bool)) (i : Nat) : nums (compM n M i) = compN n M i := by
 rw [nums, compM, compN, List.map_map]
 conv => rhs; rw [<- List.map_id ((List.range n).filter (oneM M i))]
 exact Cx fun x _ => by simp
theorem kQ (n : Nat) (M : List (List Bool)) (i : Nat) : (compM n M i).map encI = (compN n M i).map encN := by
 rw [compM, compN, List.map_map]; rfl
theorem uC (n : Nat) (M : List (List Bool)) : ∀ (f : Nat) (done : List Bool), ∀ c ∈ comps n M f done, ∃ i, i < n /\ c = compM n M i
 | 0, _ => fun c hc => by simp [comps] at hc
 | f + 1, done => fun c hc => by
  rw [comps] at hc
  split at hc
  ·simp at hc
  ·rename_i i hi
   rcases Ar.1 hc with rfl | hc
   ·exact ⟨i, (gH hi).1, rfl⟩
   ·exact uC n M f _ c hc
theorem dF (hok : p.ok = true) {c : List Int} (hc : c ∈ compsR p) : ∃ i, i < p.procs.length /\ c = compM p.procs.length (matM p) i := by
 rw [compsR, if_pos hok] at hc
 exact uC _ _ _ _ c hc
theorem mem_compN {n : Nat} {M : List (List Bool)} {i k : Nat} : k ∈ compN n M i ↔ k < n /\ oneM M i k = true := by
 rw [compN, Ed, Cn]
theorem dH (n : Nat) (M : List (List Bool)) (i : Nat) : (compN n M i).Nodup := List.Pairwise.filter _ List.nodup_range
theorem PP.comp (H : PP t p f g) (ht : t.named) (hp : p.named) {i : Nat} (hi : i < t.procs.length) :
  nmC t (compM t.procs.length (matM t) i) = nmC p (compM p.procs.length (matM p) (f i)) := by
 rw [nmC, nmC, dG, dG]
 refine H.names ht hp (fun k hk => (mem_compN.1 hk).1) (fun k hk => (mem_compN.1 hk).1) (dH _ _ _) (dH _ _ _) fun k hk => ?_
 rw [mem_compN, mem_compN, H.one hi hk]
 simp [hk, (H.a k hk).1]
theorem comp_one (hok : p.ok = true) {i : Nat} (hi : i < p.procs.length) : compM p.procs.length (matM p) i ∈ compsR p := by
 have C := qW hok
 obtain ⟨a, ha, hm⟩ := C.m i hi (nS _ _)
 have e : (compsR p).getD a [] = (compsR p)[a] := by simp [List.getD, ha]
 have hin : (compsR p)[a] ∈ compsR p := Ao ha
 obtain ⟨j, hj, ej⟩ := dF hok hin
 rw [e, ej, mem_compM] at hm
 have : compM p.procs.length (matM p) i = compM p.procs.length (matM p) j := by
  rw [compM, compM]
  congr 1
  refine List.filter_congr fun k hk => ?_
  have hk' := Cn.1 hk
  have hT := rW p
  rw [Ce]
  have hs : oneM (matM p) i j = true := by rw [tE]; exact hm.2
  exact ⟨fun h => oD hT hj hi hk' hm.2 h, fun h => oD hT hi hj hk' hs h⟩
 rw [this, <- ej]
 exact hin
theorem jC (h : t.procs.Perm p.procs) (hok : p.ok = true) (ht : t.named) (hp : p.named) {c : List Int} (hc : c ∈ compsR p) : ∃ d ∈ compsR t, nmC t d = nmC p c := by
 have H := PP.of h hp.d
 obtain ⟨i, hi, rfl⟩ := dF hok hc
 obtain ⟨h1, h2, h3⟩ := H.b i hi
 exact ⟨_, comp_one (by rw [gA h]; exact hok) h1, by rw [H.comp ht hp h1, h3]⟩
theorem comps_inj (hok : p.ok = true) (hp : p.named) {a b : Nat} (ha : a < (compsR p).length) (hb : b < (compsR p).length) (h : nmC p (compsR p)[a] = nmC p (compsR p)[b]) : a = b := by
 have C := qW hok
 obtain ⟨i, hi, ei⟩ := dF hok (Ao ha)
 obtain ⟨j, hj, ej⟩ := dF hok (Ao hb)
 have hma : (i : Int) ∈ (compsR p)[a] := by rw [ei, mem_compM]; exact ⟨hi, sC (.inl rfl)⟩
 have hmn : nmI p i ∈ nmC p (compsR p)[a] := by
  rw [nmC, (cA _).mem_iff, ei, dG]
  exact Bq.2 ⟨i, mem_compN.2 ⟨hi, sC (.inl rfl)⟩, rfl⟩
 rw [h, nmC, (cA _).mem_iff, ej, dG] at hmn
 obtain ⟨k, hk, e⟩ := Bq.1 hmn
 obtain ⟨hk1, hk2⟩ := mem_compN.1 hk
 have hki : k = i := by
  have e1 : p.procs.getD k default = p.procs[k] := by simp [List.getD, hk1]
  have e2 : p.procs.getD i default = p.procs[i] := by simp [List.getD, hi]
  refine pF hp.d hk1 hi ?_
  have m1 := hp.m _ (Ao hk1)
  have m2 := hp.m _ (Ao hi)
  rw [nmI, nmI, e1, e2] at e
  have hs := nmP_inj m1.2 m2.2 e
  have hpw := Cu.1 (Cz.1 hp.d)
  rcases Gz k i with h1 | h1 | h1
  ·exact (hpw k i (by simpa using hk1) (by simpa using hi) h1 (by rw [By, By, hs])).elim
  ·rw [h1]
  ·exact (hpw i k (by simpa using hi) (by simpa using hk1) h1 (by rw [By, By, hs])).elim
 subst hki
 have hmb : (k : Int) ∈ (compsR p)[b] := by rw [ej, mem_compM]; exact ⟨hk1, hk2⟩
 have ea : (compsR p).getD a [] = (compsR p)[a] := by simp [List.getD, ha]
 have eb : (compsR p).getD b [] = (compsR p)[b] := by simp [List.getD, hb]
 exact (C.e a b k k (by rw [ea]; exact hma) (by rw [eb]; exact hmb)).1.2 (sC (.inl rfl))
theorem mS (hok : p.ok = true) (hp : p.named) : ((compsR p).map (nmC p)).Nodup := by
 rw [Cz, Cu]
 intro a b ha hb hab e
 rw [By, By] at e
 have := comps_inj hok hp (by simpa using ha) (by simpa using hb) e
 omega
theorem yF (h : t.procs.Perm p.procs) (hok : p.ok = true) (ht : t.named) (hp : p.named) : ((compsR t).map (nmC t)).Perm ((compsR p).map (nmC p)) := by
 have hto : t.ok = true := by rw [gA h]; exact hok
 refine (List.perm_ext_iff_of_nodup (mS hto ht) (mS hok hp)).2 fun s => ?_
 rw [Bq, Bq]
 constructor
 ·rintro ⟨c, hc, rfl⟩
  obtain ⟨d, hd, e⟩ := jC h.symm hto hp ht hc
  exact ⟨d, hd, e⟩
 ·rintro ⟨c, hc, rfl⟩
  exact jC h hok ht hp hc
theorem qS (h : t.procs.Perm p.procs) (hok : p.ok = true) (ht : t.named) (hp : p.named) : (compsR t).length = (compsR p).length := by
 simpa using (yF h hok ht hp).length_eq
end Go.Rip
namespace Go.Rip
open Go Go.Proofs
set_option maxRecDepth 100000
variable {GL : Glob}
attribute [local irreducible] Pure
noncomputable def dq {α : Type} (a b : α) : Bool := @decide (a = b) (Classical.propDecidable _)
theorem dq_iff {α : Type} {a b : α} : dq a b = true ↔ a = b := by simp [dq]
theorem mB {α : Type} (a : α) : dq a a = true := dq_iff.2 rfl
theorem dq_no {α : Type} {a b : α} (h : a ≠ b) : dq a b = false := by rw [Cj]; exact fun e => h (dq_iff.1 e)
theorem sames_dq (a b : List Tm) : sames a b = dq a b := rfl
theorem size_mem1 {l : List Tm} {x : Tm} (h : x ∈ l) : x.size <= sizes l := by
 obtain ⟨j, hj, rfl⟩ := Dc.1 h
 exact cO hj
theorem dq_cl (a b : Cl) : dq a b = ((a.mark == b.mark) && ((a.vars == b.vars) && (dq a.head b.head && (dq a.guard b.guard && dq a.body b.body)))) := by
 rw [Ce, dq_iff]
 simp only [Ag, beq_iff_eq, dq_iff]
 constructor
 ·rintro rfl; exact ⟨rfl, rfl, rfl, rfl, rfl⟩
 ·rintro ⟨h1, h2, h3, h4, h5⟩
  cases a; cases b; simp_all
theorem dq_pr (a b : Pr) : dq a b = ((a.name == b.name) && ((a.arity == b.arity) && dq a.clauses b.clauses)) := by
 rw [Ce, dq_iff]
 simp only [Ag, beq_iff_eq, dq_iff]
 constructor
 ·rintro rfl; exact ⟨rfl, rfl, rfl⟩
 ·rintro ⟨h1, h2, h3⟩
  cases a; cases b; simp_all
theorem dq_pg (a b : Pg) : dq a b = dq a.procs b.procs := by
 rw [Ce, dq_iff, dq_iff]
 constructor
 ·rintro rfl; rfl
 ·intro h1
  cases a; cases b; simp_all
theorem h56g (a b : Cl) (ha : sizes a.parts < 2 ^ 30) (hb : sizes b.parts < 2 ^ 30) : Pure (PC GL) 56 [encCl a, encCl b] (.b (dq a b)) := by
 have hp : sizes a.parts = sizes a.head + (sizes a.guard + sizes a.body) := by simp [Cl.parts, cW]
 have hp2 : sizes b.parts = sizes b.head + (sizes b.guard + sizes b.body) := by simp [Cl.parts, cW]
 have l1 := aZ b.head
 have l2 := aZ b.guard
 have l3 := aZ b.body
 have q1 := h35 (GL := GL) a.head (by omega) b.head (by omega)
 have q2 := h35 (GL := GL) a.guard (by omega) b.guard (by omega)
 have q3 := h35 (GL := GL) a.body (by omega) b.body (by omega)
 rw [sames_dq] at q1 q2 q3
 refine k56.pure (by simp) (by simp [go_sem]) (by simp [go_sem]) ?_
 unfold c56 r56
 rw [dq_cl]
 simp only [encCl]
 rcases h1 : a.mark == b.mark
 ·simp -implicitDefEqProofs only [go_sem, h1]
  refine aE ?_ ?_ <;> simp [go_sem]
 rcases h2 : a.vars == b.vars
 ·simp -implicitDefEqProofs only [go_sem, h1, h2]
  refine aE ?_ ?_ <;> simp [go_sem]
 simp -implicitDefEqProofs only [go_sem, h1, h2]
 refine aC hC q1 ?_
 rcases h3 : dq a.head b.head
 ·simp -implicitDefEqProofs only [go_sem]
  refine aE ?_ ?_ <;> simp [go_sem]
 simp -implicitDefEqProofs only [go_sem]
 refine aC hC q2 ?_
 rcases h4 : dq a.guard b.guard
 ·simp -implicitDefEqProofs only [go_sem]
  refine aE ?_ ?_ <;> simp [go_sem]
 simp -implicitDefEqProofs only [go_sem]
 refine aC hC q3 ?_
 simp -implicitDefEqProofs only [go_sem]
 refine aE ?_ ?_ <;> simp [go_sem]
theorem h73g (a b : Pr) (hl : a.clauses.length < 2 ^ 40) (ha : ∀ c ∈ a.clauses, sizes c.parts < 2 ^ 30) (hb : ∀ c ∈ b.clauses, sizes c.parts < 2 ^ 30) : Pure (PC GL) 73 [encPr a, encPr b] (.b (dq a b)) := by
 refine k73.pure (by simp) (by simp [go_sem]) (by simp [go_sem]) ?_
 rw [dq_pr]
 simp -implicitDefEqProofs only [go_sem, c73, r73, encPr]
 rcases h1 : a.name == b.name
 ·have e1 : (a.name != b.name) = true := by rw [bne, h1]; rfl
  simp -implicitDefEqProofs only [go_sem]
  refine aE ?_ ?_ <;> simp [go_sem]
 have e1 : (a.name != b.name) = false := by rw [bne, h1]; rfl
 rcases h2 : a.arity == b.arity
 ·have e2 : (a.arity != b.arity) = true := by rw [bne, h2]; rfl
  simp -implicitDefEqProofs only [go_sem, e2]
  refine aE ?_ ?_ <;> simp [go_sem]
 have e2 : (a.arity != b.arity) = false := by rw [bne, h2]; rfl
 by_cases h3 : a.clauses.length = b.clauses.length
 ·have e3 : ((a.clauses.length : Int) != (b.clauses.length : Int)) = false := by simp [h3]
  simp -implicitDefEqProofs only [go_sem, e2, e3]
  refine aV hC (fun j (_ : Unit) => [(5, .i j), (2, .ref 0 0), (3, .ref 1 0)])
   (fun j (_ : Unit) h' => a.clauses.take j = b.clauses.take j /\ h'[0]? = some (.cells 60 [.str a.name, .i a.arity, .sl 5 (a.clauses.map encCl)]) /\ h'[1]? = some (.cells 60 [.str b.name, .i b.arity, .sl 5 (b.clauses.map encCl)])) a.clauses.length ⟨(), _, Wk.pick (Ap _) (by simp [go_sem]), by simp, rfl, rfl⟩ fun j _ h2 hj ⟨hI, f1, f2⟩ => ?_
  have f1_g := fun l => aF (l := l) f1
  have f1_s := fun o l => aN (l := l) f1 o
  have f1_e := fun o l => aM (o := o) (l := l) f1
  have f1_h := fun o => aG (o := o) f1
  have f2_g := fun l => aF (l := l) f2
  have f2_s := fun o l => aN (l := l) f2 o
  have f2_e := fun o l => aM (o := o) (l := l) f2
  have f2_h := fun o => aG (o := o) f2
  simp -implicitDefEqProofs only [go_sem, f1]
  refine aK (fun hlt => ?_) (fun hlt => ?_)
  ·have hlt := aL hlt
   have hlb : j < b.clauses.length := by omega
   have w5 : IntKind.i64.wrap ((j : Int) + 1) = (j : Int) + 1 := aD _ (by omega)
   have q := h56g (GL := GL) a.clauses[j] b.clauses[j] (ha _ (Ao hlt)) (hb _ (Ao hlb))
   have hs : dq a.clauses b.clauses = true -> dq a.clauses[j] b.clauses[j] = true := fun h => by have := dq_iff.1 h; simp only [this, mB]
   have hs2 : a.clauses[j] = b.clauses[j] -> a.clauses.take (j + 1) = b.clauses.take (j + 1) := fun h => by rw [Bi hlt, Bi hlb, hI, h]
   simp -implicitDefEqProofs only [go_sem, hlt, hlb, bnd hlb, aX, f1, f2]
   refine aC hC q ?_
   rcases hx : dq a.clauses[j] b.clauses[j]
   ·have e3 : dq a.clauses b.clauses = false := by
     rw [Cj]
     intro h
     rw [hs h] at hx
     cases hx
    simp -implicitDefEqProofs only [go_sem, e3, Ax]
    refine aE ?_ ?_ <;> simp [go_sem]
   ·simp -implicitDefEqProofs only [go_sem, Av, w5]
    exact ⟨(), _, Wk.pick (Ap _) (by simp [go_sem]), hs2 (dq_iff.1 hx), f1, f2⟩
  ·have hge := aO hlt
   rw [aY hge, aY (by omega)] at hI
   have e4 := dq_iff.2 hI
   simp -implicitDefEqProofs only [go_sem, hlt, e4]
   refine aE ?_ ?_ <;> simp [go_sem]
 ·have e3 : ((a.clauses.length : Int) != (b.clauses.length : Int)) = true := by simp; omega
  have e4 : dq a.clauses b.clauses = false := dq_no fun h => h3 (by rw [h])
  simp -implicitDefEqProofs only [go_sem, e2, e3, e4]
  refine aE ?_ ?_ <;> simp [go_sem]
theorem h30g (a b : Pg) (ha : a.small) (hb : b.small) : Pure (PC GL) 30 [encPg a, encPg b] (.b (dq a b)) := by
 have hl := ha.l
 refine k30.pure (by simp) (by simp [go_sem]) (by simp [go_sem]) ?_
 rw [dq_pg]
 by_cases h3 : a.procs.length = b.procs.length
 ·have e3 : ((a.procs.length : Int) != (b.procs.length : Int)) = false := by simp [h3]
  simp -implicitDefEqProofs only [go_sem, c30, r30, encPg, e3]
  refine aV hC (fun j (_ : Unit) => [(5, .i j), (2, .ref 0 0), (3, .ref 1 0)])
   (fun j (_ : Unit) h' => a.procs.take j = b.procs.take j /\ h'[0]? = some (.cells 37 [.sl 3 (a.procs.map encPr)]) /\ h'[1]? = some (.cells 37 [.sl 3 (b.procs.map encPr)])) a.procs.length ⟨(), _, Wk.pick (Ap _) (by simp [go_sem]), by simp, rfl, rfl⟩ fun j _ h2 hj ⟨hI, f1, f2⟩ => ?_
  have f1_g := fun l => aF (l := l) f1
  have f1_s := fun o l => aN (l := l) f1 o
  have f1_e := fun o l => aM (o := o) (l := l) f1
  have f1_h := fun o => aG (o := o) f1
  have f2_g := fun l => aF (l := l) f2
  have f2_s := fun o l => aN (l := l) f2 o
  have f2_e := fun o l => aM (o := o) (l := l) f2
  have f2_h := fun o => aG (o := o) f2
  simp -implicitDefEqProofs only [go_sem, f1]
  refine aK (fun hlt => ?_) (fun hlt => ?_)
  ·have hlt := aL hlt
   have hlb : j < b.procs.length := by omega
   have w5 : IntKind.i64.wrap ((j : Int) + 1) = (j : Int) + 1 := aD _ (by omega)
   have ma := ha.q _ (Ao hlt)
   have mb := hb.q _ (Ao hlb)
   have mac := ma.c
   have q := h73g (GL := GL) a.procs[j] b.procs[j] (by omega) (fun c hc => by have := (ma.t c hc).1; omega) (fun c hc => by have := (mb.t c hc).1; omega)
   have hs : dq a.procs b.procs = true -> dq a.procs[j] b.procs[j] = true := fun h => by have := dq_iff.1 h; simp only [this, mB]
   have hs2 : a.procs[j] = b.procs[j] -> a.procs.take (j + 1) = b.procs.take (j + 1) := fun h => by rw [Bi hlt, Bi hlb, hI, h]
   simp -implicitDefEqProofs only [go_sem, hlt, hlb, bnd hlb, aX, f1, f2]
   refine aC hC q ?_
   rcases hx : dq a.procs[j] b.procs[j]
   ·have e3 : dq a.procs b.procs = false := by
     rw [Cj]
     intro h
     rw [hs h] at hx
     cases hx
    simp -implicitDefEqProofs only [go_sem, e3, Ax]
    refine aE ?_ ?_ <;> simp [go_sem]
   ·simp -implicitDefEqProofs only [go_sem, Av, w5]
    exact ⟨(), _, Wk.pick (Ap _) (by simp [go_sem]), hs2 (dq_iff.1 hx), f1, f2⟩
  ·have hge := aO hlt
   rw [aY hge, aY (by omega)] at hI
   have e4 := dq_iff.2 hI
   simp -implicitDefEqProofs only [go_sem, hlt, e4]
   refine aE ?_ ?_ <;> simp [go_sem]
 ·have e3 : ((a.procs.length : Int) != (b.procs.length : Int)) = true := by simp; omega
  have e4 : dq a.procs b.procs = false := dq_no fun h => h3 (by rw [h])
  simp -implicitDefEqProofs only [go_sem, c30, r30, encPg, e3, e4]
  refine aE ?_ ?_ <;> simp [go_sem]
theorem h82 (a b : List (List UInt8)) (hb : a.length < 2 ^ 40) : Pure (PC GL) 82 [.sl 1 (a.map .str), .sl 1 (b.map .str)] (.b (dq a b)) := by
 refine k82.pure (by simp) (by simp [go_sem]) (by simp [go_sem]) ?_
 by_cases hl : a.length = b.length
 ·have e : ((a.length : Int) != (b.length : Int)) = false := by simp [hl]
  simp -implicitDefEqProofs only [go_sem, c82, r82, e]
  refine aV hC (fun j (_ : Unit) => [(13, .i j), (0, .sl 1 (a.map .str)), (12, .i a.length), (1, .sl 1 (b.map .str))]) (fun j (_ : Unit) _ => a.take j = b.take j) a.length ⟨(), _, Wk.pick (Ap _) (by simp [go_sem]), by simp⟩ fun j _ h hj hI => ?_
  simp -implicitDefEqProofs only [go_sem]
  refine aK (fun hlt => ?_) (fun hlt => ?_)
  ·have hlt := aL hlt
   have hlb : j < b.length := by omega
   have w5 : IntKind.i64.wrap ((j : Int) + 1) = (j : Int) + 1 := aD _ (by omega)
   have hs2 : a[j] = b[j] -> a.take (j + 1) = b.take (j + 1) := fun h => by rw [Bi hlt, Bi hlb, hI, h]
   skip
   simp -implicitDefEqProofs only [go_sem, hlt, hlb, bnd hlb, aX]
   refine aK (fun hx => ?_) (fun hx => ?_)
   ·have e3 : dq a b = false := dq_no fun h => by subst h; simp at hx
    simp -implicitDefEqProofs only [go_sem, hx, e3]
    refine aE ?_ ?_ <;> simp [go_sem]
   ·simp -implicitDefEqProofs only [go_sem, hx, w5]
    exact ⟨(), _, Wk.pick (Ap _) (by simp [go_sem]), hs2 (by simpa using hx)⟩
  ·have hge := aO hlt
   rw [aY hge, aY (by omega)] at hI
   have e3 : dq a b = true := dq_iff.2 hI
   simp -implicitDefEqProofs only [go_sem, hlt, e3]
   refine aE ?_ ?_ <;> simp [go_sem]
 ·have e : ((a.length : Int) != (b.length : Int)) = true := by simp; omega
  have e3 : dq a b = false := by
   rw [Cj]
   intro h
   exact hl (by rw [dq_iff.1 h])
  simp -implicitDefEqProofs only [go_sem, c82, r82, e, e3]
  refine aE ?_ ?_ <;> simp [go_sem]
theorem h179 (l : List (List Int)) (f : FuncId) (cap : List AV) (p : List Int -> Bool) (h : List AObj) (hl : l.length < 2 ^ 47) (hf : ∀ x ∈ l, PureOn (PC GL) f (.sl 1 (x.map encI) :: cap) (.b (p x)) h) : PureOn (PC GL) 179 [.sl 1 (l.map encIs), .fn (.func f) [] cap] (.i (idxF p l)) h := by
 refine k179.call (by simp) ?_
 simp -implicitDefEqProofs only [go_sem, c179, r179]
 refine eE hC (fun j => (l.take j).any p = false) (fun j => [(8, .i j)]) [7, 0, 1] l.length rfl ?_ ?_
 ·exact Wk.pick (Ak _) (by simp [go_sem])
 ·rintro j hj hI
  simp -implicitDefEqProofs only [go_sem]
  refine aK (fun hlt => ?_) (fun hlt => ?_)
  ·have hlt := aL hlt
   have g1 := fQ hlt p
   have w5 : IntKind.i64.wrap ((j : Int) + 1) = (j : Int) + 1 := aD _ (by omega)
   have hx := hf _ (Ao hlt)
   simp -implicitDefEqProofs only [go_sem, hlt, aX, encIs]
   refine cK hC hx ?_
   simp -implicitDefEqProofs only [go_sem]
   refine aK (fun hx => ?_) (fun hx => ?_)
   ·simp -implicitDefEqProofs only [go_sem, hx]
    exact eD (by rw [fL hlt hI hx])
   ·simp -implicitDefEqProofs only [go_sem, hx]
    exact ⟨by rw [g1, hI, hx]; rfl, Wk.pick (Ak _) (by simp [go_sem, w5])⟩
  ·have hge := aO hlt
   rw [aY hge] at hI
   simp -implicitDefEqProofs only [go_sem, hlt]
   exact eD (by rw [eO hI])
theorem h84 (l : List (List Int)) (f : FuncId) (cap : List AV) (p : List Int -> Bool) (h : List AObj) (hl : l.length < 2 ^ 47) (hf : ∀ x ∈ l, PureOn (PC GL) f (.sl 1 (x.map encI) :: cap) (.b (p x)) h) : PureOn (PC GL) 84 [.sl 1 (l.map encIs), .fn (.func f) [] cap] (.b (l.any p)) h := by
 refine k84.call (by simp) ?_
 simp -implicitDefEqProofs only [go_sem, c84, r84]
 refine cK hC (h179 l f cap p h hl hf) ?_
 simp -implicitDefEqProofs only [go_sem, iV]
 exact eD rfl
end Go.Rip
namespace Go.Rip
open Go Go.Proofs
set_option maxRecDepth 100000
def c41 : ACode :=
 RG [E1 2 (.move (.c (.v (.slice none 0 0))))] (.seq (RG [MV 3 T0, E1 4 (.bin .eql .sl T3 (.c (.v (.slice none 0 0))))] (.cond T4 (RG [E1 2 (.move (.c (.v (.slice none 0 0))))] .ret) .skip)) (RG [E1 5 (.mkSlice 60 3 48 (.agg [.str [], .v (.int .i64 0), .v (.slice none 0 0)]) (CI 0) (CI 0)), MV 6 T0, E1 7 (.appendM 60 3 48 T5 T6), MV 2 T7] .ret))
def r41 : List ARet := [.tmp 2]
theorem k41 : Coded Tryz.prog 41 c41 r41 8 := .of Tryz.func41 (by kernel_rfl)
end Go.Rip
namespace Go.Rip
open Go
set_option maxRecDepth 100000
variable {GL : Glob}
attribute [local irreducible] Pure
theorem toNat0 : Int.toNat 0 = 0 := rfl
theorem h41 (x : AV) (l : List AV) (hl : (l.length + 1) * 48 <= 2 ^ 47) (h : List AObj) : Gives (PC GL) 41 [.sl 3 (x :: l)] h fun y h' => y = .vec (h.length + 1) 3 (l.length + 1) /\ h' = h ++ [.dead, .buf 60 3 (x :: l)] := by
 refine k41.gives (by simp) ?_
 simp -implicitDefEqProofs only [go_sem, c41, r41, toNat0, List.replicate_zero, Dv, Cf, Cm]
 exact ⟨by omega, ⟨by omega, hl⟩, aH (by simp) ⟨rfl, by simp⟩⟩
end Go.Rip
namespace Go.Rip
open Go Go.Proofs
set_option maxRecDepth 100000
attribute [local irreducible] Pure
theorem h85 (t : Pg) (ht : t.named) (l : List Nat) (hl : ∀ k ∈ l, k < t.procs.length) (hn : l.Nodup) (hll : l.length < 2 ^ 24) (own : List (List UInt8)) (c d : Nat) (h : List AObj)
  (hc : h[c]? = some (.cells 37 [.sl 3 (t.procs.map encPr)])) (hd : h[d]? = some (.cells 107 [.sl 1 (own.map .str)])) : PureOn (PC GLs) 85 [.sl 1 (l.map encN), .ref c 0, .ref d 0] (.b (dq (sortN (l.map (nmI t))) own)) h := by
 have q83 := h83 t ht l hl hn hll
 simp only [encPg] at q83
 refine k85.call (by simp) ?_
 have hc_g := fun l => aF (l := l) hc
 have hc_s := fun o l => aN (l := l) hc o
 have hc_e := fun o l => aM (o := o) (l := l) hc
 have hc_h := fun o => aG (o := o) hc
 have hd_g := fun l => aF (l := l) hd
 have hd_s := fun o l => aN (l := l) hd o
 have hd_e := fun o l => aM (o := o) (l := l) hd
 have hd_h := fun o => aG (o := o) hd
 simp only [go_sem, c85, r85, hc, hd]
 refine aC hC q83 ?_
 simp only [go_sem, hd]
 refine aC hC (h82 _ own (by rw [(cA _).length_eq, Af]; omega)) ?_
 simp only [go_sem]
 exact eD rfl
end Go.Rip
namespace Go.Rip
open Go Go.Proofs
set_option maxRecDepth 100000
variable {GL : Glob}
attribute [local irreducible] Pure
theorem vJ (S : List Pr) (l : List Int) : l.map (encQ (rkQ S)) = (l.map (rkQ S)).map encPr := by
 rw [List.map_map]; rfl
theorem sort165 {l : List Pr} (hne : 0 < l.length) (hl : l.length < 2 ^ 24) (hn : (l.map Pr.sym).Nodup) (hok : ∀ q ∈ l, nameOk q.name = true) (k : Nat) (h : List AObj) (hk : h[k]? = some (.buf 60 3 (l.map encPr))) :
  Gives (PC GLs) 165 [.vec k 3 l.length, .fn (.func 166) [] []] h fun _ h' => h'[k]? = some (.buf 60 3 ((sortPr l).map encPr)) /\ Keep (fun i _ => i = k) h h' := by
 obtain ⟨l0, h1, h2⟩ := ranks hn
 have hlen : l0.length = l.length := by rw [h1.length_eq, vZ]
 have hs := fI hn
 have hsn : ∀ q ∈ sortPr l, nameOk q.name = true := fun q hq => hok q ((cE l).mem_iff.1 hq)
 have hk' : h[k]? = some (.buf 60 3 (l0.map (encQ (rkQ (sortPr l))))) := by rw [vJ, h2]; exact hk
 rw [<- hlen]
 refine aI hC (h165 (cmpQ hs hsn) l0 (by omega) (by omega) k h hk') fun x h' ⟨l', p1, p2, p3, p4⟩ => ⟨x, rfl, ?_, p4⟩
 have hl' : l'.length = l0.length := p1.length_eq.symm
 have e : l' = ints l.length := vG (p1.symm.trans h1) (by rw [hl']; exact p2)
 have e2 : (sortPr l).length = l.length := (cE l).length_eq
 rw [p3, vJ, e, <- e2, uG]
theorem yM {a : Nat} {l : List Pr} {h : List AObj} {T : TypeId} {s : Nat} {e : Int} (ha : l = [] ∨ h[a]? = some (.buf T s (l.map encPr))) :
  ∃ y h', Wk GLs 0 [(0, .tup [.agg [vecA a 3 (l.map encPr)], .i e])] h [(0, y)] h' /\ h' = [] /\ ARes.val y = ARes.val (.tup [encPg ⟨l⟩, .i e]) := by
 have := fin_vecs (GL := GLs) (a := a) (l := l.map encPr) (h := h) (T := T) (s := s) (e := e) (by simpa using ha) (by exact (free_encPr.bds _ _).symm ▸ trivial) (fun x hx => by obtain ⟨q, -, rfl⟩ := Bq.1 hx; exact fzG_encPr _ _)
 exact this
theorem h77 (p : Pg) (hp : p.small) : Pure (PC GLs) 77 [encPg p] (.tup [encPg p.sorted, .i (okE p.ok)]) := by
 have q32 := h32 p hp.fits
 have hl := hp.l
 simp only [encPg] at q32
 refine k77.pure (by simp) (by simp [go_sem]) (by simp [go_sem]) ?_
 simp -implicitDefEqProofs only [go_sem, c77, r77, encPg]
 refine aC hC q32 ?_
 rcases hok : p.ok with _ | _
 ·have e0 : okE false = 5 := rfl
  have hS : p.sorted = ⟨[]⟩ := by simp [Pg.sorted, hok]
  rw [hS]
  simp -implicitDefEqProofs only [go_sem, e0, bne50]
  exact aE (fO (by simp [wkr, wkrs]) rfl) (by simp [go_sem])
 have e0 : okE true = 0 := rfl
 obtain ⟨hn, hnm⟩ := sN hok
 have hS : p.sorted = ⟨sortPr p.procs⟩ := by simp [Pg.sorted, hok]
 rw [hS]
 simp -implicitDefEqProofs only [go_sem, e0, bne_self_eq_false]
 refine aV hC (fun j (_ : Nat) => [(17, .i j), (15, .sl 3 (p.procs.map encPr)), (16, .i p.procs.length), (2, .ref 1 0), (5, .ref 2 0)])
  (fun j a h' => h'[1]? = some (.cells 37 [.v (.slice none 0 0)]) /\ h'[2]? = some (.cells 37 [vecA a 3 ((p.procs.take j).map encPr)]) /\ (j = 0 ∨ h'[a]? = some (.buf 60 3 ((p.procs.take j).map encPr)))) p.procs.length ?_ fun j a h2 hj ⟨f1, f2, f3⟩ => ?_
 ·exact ⟨0, _, Wk.pick (Ap _) (by simp [go_sem]), rfl, rfl, .inl rfl⟩
 have f1_g := fun l => aF (l := l) f1
 have f1_s := fun o l => aN (l := l) f1 o
 have f1_e := fun o l => aM (o := o) (l := l) f1
 have f1_h := fun o => aG (o := o) f1
 have f2_g := fun l => aF (l := l) f2
 have f2_s := fun o l => aN (l := l) f2 o
 have f2_e := fun o l => aM (o := o) (l := l) f2
 have f2_h := fun o => aG (o := o) f2
 simp -implicitDefEqProofs only [go_sem]
 refine aK (fun hlt => ?_) (fun hlt => ?_)
 ·have hlt := aL hlt
  have w5 : IntKind.i64.wrap ((j : Int) + 1) = (j : Int) + 1 := aD _ (by omega)
  have hqs := hp.q _ (Ao hlt)
  have hc := hqs.c
  have hs : (p.procs.take (j + 1)).map encPr = (p.procs.take j).map encPr ++ [encPr p.procs[j]] := fJ hlt _
  have ll : ((p.procs.take j).map encPr).length = j := by simp; omega
  have q159 := h159 (GL := GLs) p.procs[j] (by omega) fun c hcm => by have := (hqs.t c hcm).1; omega
  have gj := aX (f := encPr) hlt
  obtain ⟨Q, hQ⟩ : ∃ Q, p.procs[j] = Q := ⟨_, rfl⟩
  rw [hQ] at hs q159 gj
  simp only [encPr] at q159 gj
  generalize (p.procs.take j).map encPr = L at *
  have nx : L = [] ∨ h2[a]? = some (.buf 60 3 L) /\ L ≠ [] := by
   rcases f3 with h | h
   ·exact .inl (Bs (by omega))
   ·by_cases e : L = []
    ·exact .inl e
    ·exact .inr ⟨h, e⟩
  rcases nx with hL0 | ⟨f5, hne⟩
  ·subst hL0
   have hj0 : j = 0 := ll.symm
   have f2b : h2[2]? = some (.cells 37 [.v (.slice none 0 0)]) := f2
   have f2b_g := fun l => aF (l := l) f2b
   have f2b_s := fun o l => aN (l := l) f2b o
   have f2b_e := fun o l => aM (o := o) (l := l) f2b
   have f2b_h := fun o => aG (o := o) f2b
   simp -implicitDefEqProofs only [go_sem, hlt, gj, f2b_g]
   refine aC hC q159 ?_
   simp -implicitDefEqProofs only [go_sem, fB, Aq, f2b_g, f2b_s, w5]
   refine ⟨by simp, h2.length + 2, _, Wk.pick (Ap _) (by simp [go_sem]), ?_, ?_, .inr ?_⟩
   ·exact aF (by rw [aS (by omega)]; exact f1)
   ·rw [hs, qJ]; exact f2b_e _ _
   ·rw [Bd (by simp), hs]; simp [encPr]
  ·have f2b : h2[2]? = some (.cells 37 [.vec a 3 L.length]) := by rw [<- dD hne]; exact f2
   have f5_g := fun l => aF (l := l) f5
   have f5_s := fun o l => aN (l := l) f5 o
   have f5_e := fun o l => aM (o := o) (l := l) f5
   have f5_h := fun o => aG (o := o) f5
   have f2b_g := fun l => aF (l := l) f2b
   have f2b_s := fun o l => aN (l := l) f2b o
   have f2b_e := fun o l => aM (o := o) (l := l) f2b
   have f2b_h := fun o => aG (o := o) f2b
   have f2b_f5b := fun o l => kA (o := o) (l := l) f2b f5 (by simp)
   have f2b_f5s := fun o l x => kF (o := o) (l := l) (x' := x) f2b f5 (by simp)
   have f2b_f5g := fun o l x => gX (o := o) (l := l) (x' := x) f2b f5 (by simp)
   have f2b_f5k := fun o l x => iJ (o := o) (l := l) (x' := x) f2b f5 (by simp)
   simp -implicitDefEqProofs only [go_sem, hlt, gj, f2b_g]
   refine aC hC q159 ?_
   simp -implicitDefEqProofs only [go_sem, fB, Aq, f5_g, f5_s, f2b_g, f2b_f5b, f2b_f5s, w5]
   refine ⟨⟨by omega, by omega⟩, h2.length + 2, _, Wk.pick (Ap _) (by simp [go_sem]), ?_, ?_, .inr ?_⟩
   ·exact aF (by rw [aS (by omega), aS (bF f5 f1 (by simp))]; exact f1)
   ·rw [hs, qJ]; exact f2b_f5g _ _ _
   ·rw [Bd (by simp), hs]; simp [encPr]
 ·have hge := aO hlt
  rw [aY hge] at f2 f3
  by_cases h0 : p.procs = []
  ·have f2b : h2[2]? = some (.cells 37 [.v (.slice none 0 0)]) := by rw [f2, h0]; rfl
   have f2b_g := fun l => aF (l := l) f2b
   have f2b_s := fun o l => aN (l := l) f2b o
   have f2b_e := fun o l => aM (o := o) (l := l) f2b
   have f2b_h := fun o => aG (o := o) f2b
   simp -implicitDefEqProofs only [go_sem, hlt, f2b]
   refine aC hC h165n ?_
   simp -implicitDefEqProofs only [go_sem, f1, f1_h, f2b]
   rw [h0]
   exact aE (fO (by simp [sortPr, wkr, wkrs]) rfl) (by simp [go_sem])
  ·have hpos : 0 < p.procs.length := Gs.2 h0
   have f5 := f3.resolve_left (by omega)
   have f2b : h2[2]? = some (.cells 37 [.vec a 3 p.procs.length]) := by rw [f2, dD (by simpa using h0), Af]
   have f2b_g := fun l => aF (l := l) f2b
   have f2b_s := fun o l => aN (l := l) f2b o
   have f2b_e := fun o l => aM (o := o) (l := l) f2b
   have f2b_h := fun o => aG (o := o) f2b
   simp -implicitDefEqProofs only [go_sem, hlt, f2b]
   refine aI hC (sort165 hpos (by omega) hn hnm a h2 f5) fun x h3 ⟨g5, hk3⟩ => ?_
   have a1 : a ≠ 1 := by rintro rfl; rw [f1] at f5; cases f5
   have a2 : a ≠ 2 := by rintro rfl; rw [f2b] at f5; cases f5
   have g1 := hk3.get f1 (fun e => a1 e.symm)
   have g2 := hk3.get f2b (fun e => a2 e.symm)
   have g1_g := fun l => aF (l := l) g1
   have g1_s := fun o l => aN (l := l) g1 o
   have g1_e := fun o l => aM (o := o) (l := l) g1
   have g1_h := fun o => aG (o := o) g1
   have g2_g := fun l => aF (l := l) g2
   have g2_s := fun o l => aN (l := l) g2 o
   have g2_e := fun o l => aM (o := o) (l := l) g2
   have g2_h := fun o => aG (o := o) g2
   simp -implicitDefEqProofs only [go_sem, g1, g1_h, g2]
   have hsl := (cE p.procs).length_eq
   have hv : AV.vec a 3 p.procs.length = vecA a 3 ((sortPr p.procs).map encPr) := by
    rw [dD (by simp; intro e; rw [e] at hsl; simp at hsl; omega), Af, hsl]
   rw [hv]
   refine yM (T := 60) (s := 3) (.inr ?_)
   rw [aS (fun e => a1 e.symm)]
   exact g5
end Go.Rip
namespace Go.Rip
open Go Go.Proofs
set_option maxRecDepth 100000
attribute [local irreducible] Pure
theorem h41L' (L : List AV) (h0 : 0 < L.length) (hl : L.length * 48 <= 2 ^ 47) (h : List AObj) : Gives (PC GLs) 41 [.sl 3 L] h fun y h' => y = .vec (h.length + 1) 3 L.length /\ h' = h ++ [.dead, .buf 60 3 L] := by
 cases L with
 | nil => cases h0
 | cons x l => exact h41 x l hl h
theorem h41e (h : List AObj) : Gives (PC GLs) 41 [.sl 3 []] h fun y h' => y = .sl 3 [] /\ Keep (fun _ _ => False) h h' := by
 refine ACall.sl_nil fun p c => ?_
 have h0 : Gives (PC GLs) 41 [.v (.slice p 0 c)] h fun y h' => y = .sl 3 [] /\ Keep (fun _ _ => False) h h' := by
  refine k41.gives (by simp) ?_
  cases p with
  | none =>
   simp -implicitDefEqProofs only [go_sem, c41, r41, Option.isNone_none]
   exact xV (Ak _) Wd.nil ⟨rfl, Keep.refl _ _⟩
  | some p =>
   simp -implicitDefEqProofs only [go_sem, c41, r41, Option.isNone_some, yT, toNat0, List.replicate_zero]
   exact ⟨⟨by omega, by omega⟩, jR (l := []) (T := 60) (s' := 3) (cP _ _) (by simp) (by simp) ⟨rfl, (Keep.app _ h _).freeze _ _ (Ak _)⟩⟩
 exact h0
theorem rem_nat (k : Int) {n : Nat} (hn : 0 < n) : ∃ m : Nat, m < n /\ (k.tmod n + n).tmod n = m := by
 have h1 : -(n : Int) < k.tmod n := by have := Int.lt_tmod_of_pos k (show (0 : Int) < n by omega); exact this
 have h2 : 0 <= k.tmod n + n := by omega
 have h3 := Int.tmod_nonneg (n : Int) h2
 have h4 := Int.tmod_lt_of_pos (k.tmod n + n) (show (0 : Int) < n by omega)
 exact ⟨((k.tmod n + n).tmod n).toNat, by omega, by omega⟩
theorem uF (n : Nat) (M : List (List Bool)) : ∀ (f : Nat) (done : List Bool), (comps n M f done).length <= f
 | 0, _ => by simp [comps]
 | f + 1, done => by
  rw [comps]
  split
  ·simp
  ·have := uF n M f (markM n M done ‹_›); simp; omega
theorem qH (p : Pg) : (compsR p).length <= p.procs.length := by
 rw [compsR]; split
 ·exact uF _ _ _ _
 ·simp
theorem h14 (p : Pg) (q : Qy) (order : List Int) (hp : p.wid) (hq : q.wid) : Pure (PC GLs) 14 [encPg p, encQy q, .sl 1 (order.map encI)] (.b true) := by
 have f2 := h17 (GL := GLs) [q.goals] 2000 (by simp [hq.1, hq.2]) (by simp) (by omega)
 have q27 := fun h => h27 (GL := GLs) p hp h
 simp only [encPg] at q27
 refine k14.pure (by simp) (by simp [go_sem]) (by simp [go_sem]) ?_
 simp -implicitDefEqProofs only [go_sem, c14, r14, encPg, encQy]
 refine aC hC sane_ok ?_
 simp -implicitDefEqProofs only [go_sem, Av]
 refine aI hC (q27 _) fun x h1 ⟨b, hx, hk1, hb⟩ => ?_
 subst hx
 have o1 := hk1.got (i := 0) rfl
 have o2 := hk1.got (i := 1) rfl
 have o1_g := fun l => aF (l := l) o1
 have o1_s := fun o l => aN (l := l) o1 o
 have o1_e := fun o l => aM (o := o) (l := l) o1
 have o1_h := fun o => aG (o := o) o1
 have o2_g := fun l => aF (l := l) o2
 have o2_s := fun o l => aN (l := l) o2 o
 have o2_e := fun o l => aM (o := o) (l := l) o2
 have o2_h := fun o => aG (o := o) o2
 rcases b with _ | _
 ·simp -implicitDefEqProofs only [go_sem, Ax]
  refine aE ?_ ?_ <;> simp [go_sem]
 have hps := hb rfl
 simp -implicitDefEqProofs only [go_sem, Av, o2, fB]
 refine sT f2 ?_ ?_
 ·simp [fzs, fzGs, fzG, encL, fP, <- iL]
 rcases hc2 : cnts [q.goals].flatten 2000 1 with ⟨_ | _, y⟩
 ·simp -implicitDefEqProofs only [go_sem, Ax]
  refine aE ?_ ?_ <;> simp [go_sem]
 have hy := dT q.goals 2000 1 y (by omega) (by simpa using hc2)
 have hqf : q.fits := ⟨by omega, hy.2.2⟩
 have hgl := aZ q.goals
 have hg2 : q.goals.length < 2 ^ 24 := by omega
 have g0 := h54 p hps.fits q hqf
 simp only [encPg, encQy] at g0
 have hl := hps.l
 clear hb q27 f2 hc2 hy hk1
 simp -implicitDefEqProofs only [go_sem, Av]
 by_cases hol2 : (order.length : Int) > 100
 ·have d0 : decide ((order.length : Int) > 100) = true := Ac hol2
  simp -implicitDefEqProofs only [go_sem, d0]
  refine aE ?_ ?_ <;> simp [go_sem]
 have d0 : decide ((order.length : Int) > 100) = false := Ai hol2
 simp -implicitDefEqProofs only [go_sem, d0, o1_g, o2_g]
 refine aC hC g0 ?_
 rcases hok : okQuery p q with _ | _
 ·have e0 : okE false = 5 := rfl
  simp -implicitDefEqProofs only [go_sem, e0, bne50]
  refine aE ?_ ?_ <;> simp [go_sem]
 have e0 : okE true = 0 := rfl
 by_cases hz : p.procs.length = 0
 ·have hp0 : p.procs = [] := Bs hz
  have q41 : ∀ h, Gives (PC GLs) 41 [.sl 3 (p.procs.map encPr)] h fun y h' => y = .sl 3 (p.procs.map encPr) /\ Keep (fun _ _ => False) h h' := fun h => by rw [hp0]; exact h41e h
  simp -implicitDefEqProofs only [go_sem, e0, bne_self_eq_false, o1_g]
  refine aI hC (q41 _) fun x hb0 ⟨hx, hh2⟩ => ?_
  subst hx
  have p1 := hh2.2 0 _ (o1_g _) (fun h => h)
  have p2 := hh2.2 1 _ (o2_g _) (fun h => h)
  clear o1 o2 o1_g o1_s o1_e o1_h o2_g o2_s o2_e o2_h
  have o1 := p1
  have o2 := p2
  clear p1 p2
  have o1_g := fun l => aF (l := l) o1
  have o1_s := fun o l => aN (l := l) o1 o
  have o1_e := fun o l => aM (o := o) (l := l) o1
  have o1_h := fun o => aG (o := o) o1
  have o2_g := fun l => aF (l := l) o2
  have o2_s := fun o l => aN (l := l) o2 o
  have o2_e := fun o l => aM (o := o) (l := l) o2
  have o2_h := fun o => aG (o := o) o2
  simp -implicitDefEqProofs only [go_sem]
  obtain ⟨l, hle⟩ : ∃ l, l = p.procs := ⟨_, rfl⟩
  have hpl : l.Perm p.procs := by rw [hle]
  have hll := hpl.length_eq
  rw [<- hle]
  have d1 : ∀ j : Nat, decide ((j : Int) >= (p.procs.length : Int)) = true := fun j => Ac (by omega)
  refine aV hC (fun j (_ : Unit) => [(51, .i j), (50, .i order.length), (49, .sl 1 (order.map encI)), (7, .ref hb0.length 0), (3, .ref 0 0), (4, .ref 1 0)])
   (fun _ _ h' => h' = hb0 ++ [.cells 37 [.sl 3 (l.map encPr)]]) order.length ?_ fun j _ h3 hj e1 => ?_
  ·exact ⟨(), _, Wk.pick (Ap _) (by simp [go_sem]), rfl⟩
  subst e1
  simp -implicitDefEqProofs only [go_sem]
  refine aK (fun hlt => ?_) (fun hlt => ?_)
  rotate_left
  simp -implicitDefEqProofs only [go_sem, hlt, o1_g]
  rotate_left
  have hlt := aL hlt
  simp -implicitDefEqProofs only [go_sem, hlt, aX, encI, d1, o1_g]
  all_goals
   have q77 := h77 p hps
   simp only [encPg] at q77
   have hpk : p.ok = true := by simp only [okQuery, Ag] at hok; exact hok.1
   rw [hpk, e0] at q77
   refine aC hC q77 ?_
   simp -implicitDefEqProofs only [go_sem, aR, bU, Aq]
   have q77t := h77 ⟨l⟩ ⟨by rw [hll]; exact hps.l, fun q hq => hps.q q (hpl.mem_iff.1 hq)⟩
   have es : Pg.sorted ⟨l⟩ = p.sorted := mP hpl
   have eo : Pg.ok ⟨l⟩ = p.ok := gA hpl
   have hpok : p.ok = true := by simp only [okQuery, Ag] at hok; exact hok.1
   rw [es, eo, hpok, e0] at q77t
   simp only [encPg] at q77t
   refine aC hC q77t ?_
   have q30 := h30g (GL := GLs) p.sorted p.sorted (eF hps) (eF hps)
   rw [mB] at q30
   simp only [encPg] at q30
   simp -implicitDefEqProofs only [go_sem, aR, bU, Aq, Cm, bne_self_eq_false]
   refine aC hC q30 ?_
   have hts : Pg.small ⟨l⟩ := ⟨by rw [hll]; exact hps.l, fun q hq => hps.q q (hpl.mem_iff.1 hq)⟩
   have q65 := h65 p hps q hqf hg2
   have q65t := h65 ⟨l⟩ hts q hqf hg2
   rw [dO (t := ⟨l⟩) (p := p) hpl] at q65t
   rw [hok, e0] at q65 q65t
   simp only [encPg, encQy] at q65 q65t
   simp -implicitDefEqProofs only [go_sem, o1_g, o2_g, Av]
   refine aC hC q65 ?_
   simp -implicitDefEqProofs only [go_sem, o2_g]
   refine aC hC q65t ?_
   simp -implicitDefEqProofs only [go_sem, o1_g, bne_self_eq_false]
   have hpn := kL hps hpk
   have htk : Pg.ok ⟨l⟩ = true := by rw [eo]; exact hpk
   have htn := kL hts htk
   have rl := fun (u : Pg) k (hk : k ∈ reachR u q) => eL (p := u) (q := q) k hk
   have q83 := h83 p hpn (reachR p q) (eL) (by rw [reachR, if_pos hok]; exact eK _) (by have := dV p q; omega)
   have q83t := h83 ⟨l⟩ htn (reachR ⟨l⟩ q) (eL) (by rw [reachR, if_pos (by rw [dO (t := ⟨l⟩) (p := p) hpl]; exact hok)]; exact eK _) (by have := dV ⟨l⟩ q; simp only at this; omega)
   rw [pQ (t := ⟨l⟩) (p := p) hpl htn hpn q] at q83t
   have q82 := h82 (GL := GLs) (sortN ((reachR p q).map (nmI p))) (sortN ((reachR p q).map (nmI p))) (by rw [(cA _).length_eq, Af]; have := dV p q; omega)
   rw [mB] at q82
   simp only [encPg] at q83 q83t
   refine aC hC q83 ?_
   simp -implicitDefEqProofs only [go_sem]
   refine aC hC q83t ?_
   simp -implicitDefEqProofs only [go_sem]
   refine aC hC q82 ?_
   simp -implicitDefEqProofs only [go_sem, o1_g, Av]
   have q63 := h63 p hps
   have q63t := h63 ⟨l⟩ hts
   rw [hpk, e0] at q63
   rw [htk, e0] at q63t
   have hcl := qS (t := ⟨l⟩) (p := p) hpl hpk htn hpn
   have elen : ((((compsR p).length : Nat) : Int) != (((compsR ⟨l⟩).length : Nat) : Int)) = false := by rw [hcl]; simp
   simp only [encPg] at q63 q63t
   refine aC hC q63 ?_
   simp -implicitDefEqProofs only [go_sem]
   refine aC hC q63t ?_
   simp -implicitDefEqProofs only [go_sem, bne_self_eq_false, elen]
   have hC63 : ∀ c ∈ compsR p, ∃ d : List Nat, c.map encI = d.map encN /\ nmC p c = sortN (d.map (nmI p)) /\ (∀ k ∈ d, k < p.procs.length) /\ d.Nodup /\ d.length < 2 ^ 24 := fun c hc => by
    obtain ⟨i, hi, rfl⟩ := dF hpk hc
    refine ⟨compN p.procs.length (matM p) i, kQ _ _ _, by rw [nmC, dG], fun k hk => (mem_compN.1 hk).1, dH _ _ _, ?_⟩
    have := Dl (oneM (matM p) i) (List.range p.procs.length)
    rw [Ff] at this
    rw [compN]; omega
   refine aV hC (fun j (_ : Unit) => [(168, .i j), (167, .i (compsR p).length), (166, .sl 1 ((compsR p).map encIs)), (3, .ref 0 0), (7, .ref (hb0.length) 0), (18, .sl 1 ((compsR ⟨l⟩).map encIs))])
    (fun j (_ : Unit) h' => h'[0]? = some (.cells 37 [.sl 3 (p.procs.map encPr)]) /\ h'[hb0.length]? = some (.cells 37 [.sl 3 (l.map encPr)])) (compsR p).length ?_ fun i _ h2 hi ⟨u1, u2⟩ => ?_
   ·exact ⟨(), _, Wk.pick (Ap _) (by simp [go_sem]), o1_g _, aR hb0 _ 0⟩
   have u1_g := fun l => aF (l := l) u1
   have u1_s := fun o l => aN (l := l) u1 o
   have u1_e := fun o l => aM (o := o) (l := l) u1
   have u1_h := fun o => aG (o := o) u1
   have u2_g := fun l => aF (l := l) u2
   have u2_s := fun o l => aN (l := l) u2 o
   have u2_e := fun o l => aM (o := o) (l := l) u2
   have u2_h := fun o => aG (o := o) u2
   simp -implicitDefEqProofs only [go_sem]
   refine aK (fun hlt => ?_) (fun hlt => ?_)
   ·have hlt := aL hlt
    obtain ⟨d, ed, en, d1, d2, d3⟩ := hC63 _ (Ao hlt)
    have q83 := h83 p hpn d d1 d2 d3
    rw [<- en, <- ed] at q83
    simp only [encPg] at q83
    have hle := qH p
    have w5 : IntKind.i64.wrap ((i : Int) + 1) = (i : Int) + 1 := aD _ (by omega)
    simp -implicitDefEqProofs only [go_sem, hlt, aX, encIs, u1]
    refine aC hC q83 ?_
    simp -implicitDefEqProofs only [go_sem]
    have any1 : (compsR ⟨l⟩).any (fun c => dq (nmC ⟨l⟩ c) (nmC p (compsR p)[i])) = true := by
     obtain ⟨c, hc, e⟩ := jC (t := ⟨l⟩) (p := p) hpl hpk htn hpn (Ao hlt)
     exact Cv.2 ⟨c, hc, dq_iff.2 e⟩
    have q84 := h84 (GL := GLs) (compsR ⟨l⟩) 85 [.ref (hb0.length) 0, .ref h2.length 0] (fun c => dq (nmC ⟨l⟩ c) (nmC p (compsR p)[i])) (h2 ++ [.cells 107 [.sl 1 ((nmC p (compsR p)[i]).map .str)]]) (by omega) (fun c hc => by
     obtain ⟨a, ha, rfl⟩ := dF htk hc
     rw [kQ, nmC, dG]
     have hb := Dl (oneM (matM ⟨l⟩) a) (List.range l.length)
     rw [Ff] at hb
     exact h85 ⟨l⟩ htn _ (fun k hk => (mem_compN.1 hk).1) (dH _ _ _) (by rw [compN]; simp only; omega) _ _ _ _ (u2_g _) (aR h2 _ 0))
    rw [any1] at q84
    refine cK hC q84 ?_
    simp -implicitDefEqProofs only [go_sem, Av, w5]
    exact ⟨(), _, Wk.pick (Ap _) (by simp [go_sem]), u1_g _, u2_g _⟩
   ·simp -implicitDefEqProofs only [go_sem, hlt]
    refine aE ?_ ?_ <;> simp [go_sem]
 have hne : 0 < p.procs.length := by omega
 have q41 := fun h => h41L' (p.procs.map encPr) (by simp; omega) (by simp; omega) h
 simp -implicitDefEqProofs only [go_sem, e0, bne_self_eq_false, o1_g]
 refine aI hC (q41 _) fun x h2 ⟨hx, hh2⟩ => ?_
 subst hx hh2
 simp -implicitDefEqProofs only [go_sem, aR, bU, Aq]
 refine aV hC (fun j (_ : List Pr) => [(51, .i j), (50, .i order.length), (49, .sl 1 (order.map encI)), (7, .ref (h1.length + 3) 0), (3, .ref 0 0), (4, .ref 1 0)])
  (fun _ l h' => h' = h1 ++ [.spare 22 1, .dead, .buf 60 3 (l.map encPr), .cells 37 [.vec (h1.length + 1 + 1) 3 p.procs.length]] /\ l.Perm p.procs) order.length ?_ fun j l h2 hj ⟨e1, hpl⟩ => ?_
 ·exact ⟨p.procs, _, Wk.pick (Ap _) (by simp [go_sem]), rfl, Ei _⟩
 subst e1
 have hll := hpl.length_eq
 simp -implicitDefEqProofs only [go_sem]
 refine aK (fun hlt => ?_) (fun hlt => ?_)
 rotate_left
 simp -implicitDefEqProofs only [go_sem, hlt, o1_g]
 rotate_left
 have hlt := aL hlt
 have w5 : IntKind.i64.wrap ((j : Int) + 1) = (j : Int) + 1 := aD _ (by omega)
 by_cases hjn : (j : Int) >= (p.procs.length : Int)
 rotate_left
 ·have d1 : decide ((j : Int) >= (p.procs.length : Int)) = false := Ai hjn
  have hjl : j < l.length := by omega
  obtain ⟨m, hm, em⟩ := rem_nat order[j] hne
  have hml : m < l.length := by omega
  have n0 : ¬ ((p.procs.length : Int) = 0) := by omega
  have t1 := Int.lt_tmod_of_pos order[j] (show (0 : Int) < p.procs.length by omega)
  have t2 := Int.tmod_lt_of_pos order[j] (show (0 : Int) < p.procs.length by omega)
  have w6 : IntKind.i64.wrap (order[j].tmod p.procs.length + p.procs.length) = order[j].tmod p.procs.length + p.procs.length := aD _ (by omega)
  have gB : ∀ B : AObj, (h1 ++ [AObj.spare 22 1, .dead, B, .cells 37 [.vec (h1.length + 1 + 1) 3 p.procs.length]])[h1.length + 1 + 1]? = some B := fun B => aR h1 _ 2
  have gC : ∀ B : AObj, (h1 ++ [AObj.spare 22 1, .dead, B, .cells 37 [.vec (h1.length + 1 + 1) 3 p.procs.length]])[h1.length + 3]? = some (.cells 37 [.vec (h1.length + 1 + 1) 3 p.procs.length]) := fun B => aR h1 _ 3
  have sB : ∀ B B' : AObj, (h1 ++ [AObj.spare 22 1, .dead, B, .cells 37 [.vec (h1.length + 1 + 1) 3 p.procs.length]]).set (h1.length + 1 + 1) B' = h1 ++ [AObj.spare 22 1, .dead, B', .cells 37 [.vec (h1.length + 1 + 1) 3 p.procs.length]] := fun B B' => by
   rw [Dh, Gh _ _ (by omega)]
   simp
  have et2 : ∀ x, ((l.map encPr).set j x).take p.procs.length = (l.map encPr).set j x := fun x => Bh (by simp; omega)
  have gm2 : ((l.map encPr).set j (.agg [.str l[m].name, .i l[m].arity, .sl 5 (l[m].clauses.map encCl)]))[m]? = some (.agg [.str l[m].name, .i l[m].arity, .sl 5 (l[m].clauses.map encCl)]) := by
   by_cases hjm : j = m
   ·subst hjm; simp [hjl]
   ·rw [Au hjm]; simp [hml, encPr]
  have sl2 : ∀ x, ((l.map encPr).set j x).length = l.length := fun x => by simp
  have et : (l.map encPr).take p.procs.length = l.map encPr := Bh (by simp; omega)
  have gj : (l.map encPr)[j]? = some (.agg [.str l[j].name, .i l[j].arity, .sl 5 (l[j].clauses.map encCl)]) := by simp [hjl, encPr]
  have gm : (l.map encPr)[m]? = some (.agg [.str l[m].name, .i l[m].arity, .sl 5 (l[m].clauses.map encCl)]) := by simp [hml, encPr]
  have bj := bnd hjl
  have bm := bnd hml
  have nb : Nat.ble p.procs.length l.length = true := by rw [Nat.ble_eq]; omega
  simp -implicitDefEqProofs only [go_sem, hlt, aX, encI, d1, n0, if_false, if_true, w6, em, gB, gC, sB, et2, gm2, sl2, et, gj, gm, bj, bm, nb, Af, aJ, Ae, true_and, o1_g]
  have hsw : ((l.set j l[m]).set m l[j]).Perm l := List.set_set_perm hjl hml
  have w6' := w5
  skip
  simp -implicitDefEqProofs only [go_sem, w5]
  exact ⟨(l.set j l[m]).set m l[j], _, Wk.pick (Ap _) (by simp [go_sem]), by simp [encPr], hsw.trans hpl⟩
 rotate_left
 have d1 : decide ((j : Int) >= (p.procs.length : Int)) = true := Ac hjn
 simp -implicitDefEqProofs only [go_sem, hlt, aX, encI, d1, o1_g]
 all_goals
  have q77 := h77 p hps
  simp only [encPg] at q77
  have hpk : p.ok = true := by simp only [okQuery, Ag] at hok; exact hok.1
  rw [hpk, e0] at q77
  refine aC hC q77 ?_
  simp -implicitDefEqProofs only [go_sem, aR, bU, Aq]
  have et : (l.map encPr).take p.procs.length = l.map encPr := Bh (by simp; omega)
  refine ACall.freeze2 (T := 60) (Tc := 37) (x := []) (z := []) (l := l.map encPr) (c := h1.length + 3) (aR h1 _ 2) (by simp; omega) (aR h1 _ 3) (Frz.inn [] [] []) ?_
  rw [et]
  have q77t := h77 ⟨l⟩ ⟨by rw [hll]; exact hps.l, fun q hq => hps.q q (hpl.mem_iff.1 hq)⟩
  have es : Pg.sorted ⟨l⟩ = p.sorted := mP hpl
  have eo : Pg.ok ⟨l⟩ = p.ok := gA hpl
  have hpok : p.ok = true := by simp only [okQuery, Ag] at hok; exact hok.1
  rw [es, eo, hpok, e0] at q77t
  simp only [encPg] at q77t
  refine aC hC q77t ?_
  have q30 := h30g (GL := GLs) p.sorted p.sorted (eF hps) (eF hps)
  rw [mB] at q30
  simp only [encPg] at q30
  simp -implicitDefEqProofs only [go_sem, aR, bU, Aq, Cm, bne_self_eq_false]
  refine aC hC q30 ?_
  have hts : Pg.small ⟨l⟩ := ⟨by rw [hll]; exact hps.l, fun q hq => hps.q q (hpl.mem_iff.1 hq)⟩
  have q65 := h65 p hps q hqf hg2
  have q65t := h65 ⟨l⟩ hts q hqf hg2
  rw [dO (t := ⟨l⟩) (p := p) hpl] at q65t
  rw [hok, e0] at q65 q65t
  simp only [encPg, encQy] at q65 q65t
  simp -implicitDefEqProofs only [go_sem, o1_g, o2_g, Av]
  refine aC hC q65 ?_
  simp -implicitDefEqProofs only [go_sem, aR, o2_g]
  refine aC hC q65t ?_
  simp -implicitDefEqProofs only [go_sem, aR, o1_g, bne_self_eq_false]
  have hpn := kL hps hpk
  have htk : Pg.ok ⟨l⟩ = true := by rw [eo]; exact hpk
  have htn := kL hts htk
  have rl := fun (u : Pg) k (hk : k ∈ reachR u q) => eL (p := u) (q := q) k hk
  have q83 := h83 p hpn (reachR p q) (eL) (by rw [reachR, if_pos hok]; exact eK _) (by have := dV p q; omega)
  have q83t := h83 ⟨l⟩ htn (reachR ⟨l⟩ q) (eL) (by rw [reachR, if_pos (by rw [dO (t := ⟨l⟩) (p := p) hpl]; exact hok)]; exact eK _) (by have := dV ⟨l⟩ q; simp only at this; omega)
  rw [pQ (t := ⟨l⟩) (p := p) hpl htn hpn q] at q83t
  have q82 := h82 (GL := GLs) (sortN ((reachR p q).map (nmI p))) (sortN ((reachR p q).map (nmI p))) (by rw [(cA _).length_eq, Af]; have := dV p q; omega)
  rw [mB] at q82
  simp only [encPg] at q83 q83t
  refine aC hC q83 ?_
  simp -implicitDefEqProofs only [go_sem, aR]
  refine aC hC q83t ?_
  simp -implicitDefEqProofs only [go_sem]
  refine aC hC q82 ?_
  simp -implicitDefEqProofs only [go_sem, o1_g, Av]
  have q63 := h63 p hps
  have q63t := h63 ⟨l⟩ hts
  rw [hpk, e0] at q63
  rw [htk, e0] at q63t
  have hcl := qS (t := ⟨l⟩) (p := p) hpl hpk htn hpn
  have elen : ((((compsR p).length : Nat) : Int) != (((compsR ⟨l⟩).length : Nat) : Int)) = false := by rw [hcl]; simp
  simp only [encPg] at q63 q63t
  refine aC hC q63 ?_
  simp -implicitDefEqProofs only [go_sem, aR]
  refine aC hC q63t ?_
  simp -implicitDefEqProofs only [go_sem, bne_self_eq_false, elen]
  have hC63 : ∀ c ∈ compsR p, ∃ d : List Nat, c.map encI = d.map encN /\ nmC p c = sortN (d.map (nmI p)) /\ (∀ k ∈ d, k < p.procs.length) /\ d.Nodup /\ d.length < 2 ^ 24 := fun c hc => by
   obtain ⟨i, hi, rfl⟩ := dF hpk hc
   refine ⟨compN p.procs.length (matM p) i, kQ _ _ _, by rw [nmC, dG], fun k hk => (mem_compN.1 hk).1, dH _ _ _, ?_⟩
   have := Dl (oneM (matM p) i) (List.range p.procs.length)
   rw [Ff] at this
   rw [compN]; omega
  refine aV hC (fun j (_ : Unit) => [(168, .i j), (167, .i (compsR p).length), (166, .sl 1 ((compsR p).map encIs)), (3, .ref 0 0), (7, .ref (h1.length + 3) 0), (18, .sl 1 ((compsR ⟨l⟩).map encIs))])
   (fun j (_ : Unit) h' => h'[0]? = some (.cells 37 [.sl 3 (p.procs.map encPr)]) /\ h'[h1.length + 3]? = some (.cells 37 [.sl 3 (l.map encPr)])) (compsR p).length ?_ fun i _ h2 hi ⟨u1, u2⟩ => ?_
  ·exact ⟨(), _, Wk.pick (Ap _) (by simp [go_sem]), o1_g _, aR h1 _ 3⟩
  have u1_g := fun l => aF (l := l) u1
  have u1_s := fun o l => aN (l := l) u1 o
  have u1_e := fun o l => aM (o := o) (l := l) u1
  have u1_h := fun o => aG (o := o) u1
  have u2_g := fun l => aF (l := l) u2
  have u2_s := fun o l => aN (l := l) u2 o
  have u2_e := fun o l => aM (o := o) (l := l) u2
  have u2_h := fun o => aG (o := o) u2
  simp -implicitDefEqProofs only [go_sem]
  refine aK (fun hlt => ?_) (fun hlt => ?_)
  ·have hlt := aL hlt
   obtain ⟨d, ed, en, d1, d2, d3⟩ := hC63 _ (Ao hlt)
   have q83 := h83 p hpn d d1 d2 d3
   rw [<- en, <- ed] at q83
   simp only [encPg] at q83
   have hle := qH p
   have w5 : IntKind.i64.wrap ((i : Int) + 1) = (i : Int) + 1 := aD _ (by omega)
   simp -implicitDefEqProofs only [go_sem, hlt, aX, encIs, u1]
   refine aC hC q83 ?_
   simp -implicitDefEqProofs only [go_sem]
   have any1 : (compsR ⟨l⟩).any (fun c => dq (nmC ⟨l⟩ c) (nmC p (compsR p)[i])) = true := by
    obtain ⟨c, hc, e⟩ := jC (t := ⟨l⟩) (p := p) hpl hpk htn hpn (Ao hlt)
    exact Cv.2 ⟨c, hc, dq_iff.2 e⟩
   have q84 := h84 (GL := GLs) (compsR ⟨l⟩) 85 [.ref (h1.length + 3) 0, .ref h2.length 0] (fun c => dq (nmC ⟨l⟩ c) (nmC p (compsR p)[i])) (h2 ++ [.cells 107 [.sl 1 ((nmC p (compsR p)[i]).map .str)]]) (by omega) (fun c hc => by
    obtain ⟨a, ha, rfl⟩ := dF htk hc
    rw [kQ, nmC, dG]
    have hb := Dl (oneM (matM ⟨l⟩) a) (List.range l.length)
    rw [Ff] at hb
    exact h85 ⟨l⟩ htn _ (fun k hk => (mem_compN.1 hk).1) (dH _ _ _) (by rw [compN]; simp only; omega) _ _ _ _ (u2_g _) (aR h2 _ 0))
   rw [any1] at q84
   refine cK hC q84 ?_
   simp -implicitDefEqProofs only [go_sem, Av, w5]
   exact ⟨(), _, Wk.pick (Ap _) (by simp [go_sem]), u1_g _, u2_g _⟩
  ·simp -implicitDefEqProofs only [go_sem, hlt]
   refine aE ?_ ?_ <;> simp [go_sem]
end Go.Rip
