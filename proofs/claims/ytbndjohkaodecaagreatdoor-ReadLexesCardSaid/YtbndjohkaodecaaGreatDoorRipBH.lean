/- The reference scanner: what stands between lexemes. -/
import Derived.Test.YtbndjohkaodecaaGreatDoorRipAZ
import Derived.Test.YtbndjohkaodecaaGreatDoorRipBG
namespace Go.Rip
open Go Go.Proofs
set_option maxRecDepth 100000
variable {GL : Glob}
attribute [local irreducible] Pure
def isGap : List UInt8 -> Bool
 | [] => false
 | c :: r => isBlank c || (c == 37 || isCom c r)
def skF : Nat -> List UInt8 -> Nat -> Nat × Bool
 | 0, _, a => (a, true)
 | f + 1, l, a => if isGap l then (match stp l with
  | .skip k => skF f (l.drop k) (a + k)
  | _ => (a, false)) else (a, true)
theorem stp_gap {l : List UInt8} (h : isGap l = true) : (∃ k, stp l = .skip k) ∨ stp l = .bad := by
 rcases l with _ | ⟨c, r⟩
 ·cases h
 rw [isGap] at h
 rw [stp]
 split
 ·exact .inl ⟨_, rfl⟩
 rename_i h1
 split
 ·exact .inl ⟨_, rfl⟩
 rename_i h2
 split
 ·split
  ·exact .inl ⟨_, rfl⟩
  ·exact .inr rfl
 ·rename_i h3
  simp [h1, h2, h3] at h
theorem nV {l : List UInt8} (h : isGap l = true) : l ≠ [] := by rintro rfl; cases h
theorem tK : ∀ {f g : Nat} {l : List UInt8} {a : Nat}, l.length <= f -> l.length <= g -> skF f l a = skF g l a
 | 0, 0, _, _, _, _ => rfl
 | 0, g + 1, l, a, h, _ => by
  have : l = [] := List.eq_nil_of_length_eq_zero (by omega)
  subst this; rfl
 | f + 1, 0, l, a, _, h => by
  have : l = [] := List.eq_nil_of_length_eq_zero (by omega)
  subst this; rfl
 | f + 1, g + 1, l, a, h, h' => by
  rw [skF, skF]
  split
  ·rename_i hg
   have hs := dS (nV hg)
   rcases stp_gap hg with ⟨k, hk⟩ | hk
   ·rw [hk] at hs ⊢
    rw [Stp.len] at hs
    simp only
    exact tK (by simp; omega) (by simp; omega)
   ·rw [hk]
  ·rfl
def skL (l : List UInt8) (a : Nat) : Nat × Bool := skF l.length l a
theorem nH {l : List UInt8} {a : Nat} (h : isGap l = false) : skL l a = (a, true) := by
 unfold skL
 cases l.length with
 | zero => rfl
 | succ n => rw [skF, if_neg (by rw [h]; simp)]
theorem skL_on {l : List UInt8} {a k : Nat} (h : isGap l = true) (hs : stp l = .skip k) : skL l a = skL (l.drop k) (a + k) := by
 have hl := dS (nV h)
 rw [hs, Stp.len] at hl
 unfold skL
 obtain ⟨n, hn⟩ : ∃ n, l.length = n + 1 := ⟨l.length - 1, by omega⟩
 rw [hn, skF, if_pos h, hs]
 exact tK (by simp; omega) (by simp)
theorem skL_bad {l : List UInt8} {a : Nat} (h : isGap l = true) (hs : stp l = .bad) : skL l a = (a, false) := by
 have hl := dS (nV h)
 unfold skL
 obtain ⟨n, hn⟩ : ∃ n, l.length = n + 1 := ⟨l.length - 1, by omega⟩
 rw [hn, skF, if_pos h, hs]
theorem wD {l : List UInt8} {j : Nat} (h1 : j + 1 < l.length) (h2 : (l.getD j 0 == 42 && l.getD (j + 1) 0 == 47) = false) : findEnd (l.drop j) = (findEnd (l.drop (j + 1))).map (· + 1) := by
 have hj : j < l.length := by omega
 rw [bE hj, bE h1, findEnd, h2, if_neg (by simp)]
theorem vH {l : List UInt8} {j : Nat} (h1 : j + 1 < l.length) (h2 : (l.getD j 0 == 42 && l.getD (j + 1) 0 == 47) = true) : findEnd (l.drop j) = some 0 := by
 have hj : j < l.length := by omega
 rw [bE hj, bE h1, findEnd, h2, if_pos rfl]
theorem wF {l : List UInt8} {j : Nat} (h1 : l.length <= j + 1) : findEnd (l.drop j) = none := by
 have : (l.drop j).length < 2 := by simp; omega
 match l.drop j, this with
 | [], _ => rfl
 | [_], _ => rfl
def Fe (l : List UInt8) (q j : Nat) : Prop := findEnd (l.drop q) = (findEnd (l.drop (q + j))).map (· + j)
theorem Fe.start (l : List UInt8) (q : Nat) : Fe l q 0 := by
 unfold Fe
 rw [Nat.add_zero]
 cases findEnd (l.drop q) <;> rfl
theorem Fe.next {l : List UInt8} {q j : Nat} (h : Fe l q j) (h1 : q + j + 1 < l.length) (h2 : (l.getD (q + j) 0 == 42 && l.getD (q + j + 1) 0 == 47) = false) : Fe l q (j + 1) := by
 unfold Fe at h ⊢
 rw [h, wD h1 h2, Option.map_map, Nat.add_assoc]
 cases findEnd (l.drop (q + (j + 1))) with
 | none => rfl
 | some x => simp; omega
theorem h59 {l : List UInt8} (a : Nat) (hl : l.length < 2 ^ 30) (ha : a <= l.length) : Pure (PC GL) 59 [.str l, .i a] (.tup [.i (skL (l.drop a) a).1, .b (skL (l.drop a) a).2]) := by
 refine aN (by simp [go_sem]) (by simp [go_sem]) ?_
 refine k59.call (by simp) ?_
 have b37 : ∀ c : UInt8, ((c.toNat : Int) == 37) = (c == 37) := fun c => bJ c 37
 have b47 : ∀ c : UInt8, ((c.toNat : Int) == 47) = (c == 47) := fun c => bJ c 47
 have b42 : ∀ c : UInt8, ((c.toNat : Int) == 42) = (c == 42) := fun c => bJ c 42
 have b10 : ∀ c : UInt8, ((c.toNat : Int) != 10) = (c != 10) := fun c => jE c 10
 have b42' : ∀ c : UInt8, ((c.toNat : Int) != 42) = (c != 42) := fun c => jE c 42
 have b47' : ∀ c : UInt8, ((c.toNat : Int) != 47) = (c != 47) := fun c => jE c 47
 simp -implicitDefEqProofs only [go_sem, c59, r59]
 refine cK hC (fun _ (p : Nat) => [(0, .str l), (1, .i (p : Nat))]) (fun j p h' => a + j <= p /\ p <= l.length /\ skL (l.drop a) a = skL (l.drop p) p /\ h' = []) l.length ⟨a, _, Wk.pick (by simp) (by simp [go_sem]), by simp, ha, rfl, rfl⟩ fun j p h1 hj ⟨p1, p2, p3, p4⟩ => ?_
 subst p4
 rw [p3]
 by_cases hp : p < l.length
 rotate_left
 ·have d1 : decide ((p : Int) < (l.length : Int)) = false := decide_eq_false (by omega)
  have e := nH (l := l.drop p) (a := p) (by rw [List.drop_of_length_le (show l.length <= p by omega)]; rfl)
  simp -implicitDefEqProofs only [go_sem, d1]
  exact aX (Nat.le_refl _) (by rw [e])
 have d1 : decide ((p : Int) < (l.length : Int)) = true := decide_eq_true (by omega)
 have hd := bE hp
 have w1 : IntKind.i64.wrap ((p : Int) + 1) = ((p + 1 : Nat) : Int) := by rw [aK _ (by omega)]; simp
 have w2 : IntKind.i64.wrap ((p : Int) + 2) = ((p + 2 : Nat) : Int) := by rw [aK _ (by omega)]; simp
 have hg := congrArg isGap hd
 rw [isGap.eq_2] at hg
 have hstp := congrArg stp hd
 rw [stp.eq_2] at hstp
 have hcom : isCom (l.getD p 0) (l.drop (p + 1)) = (l.getD p 0 == 47 && (decide (p + 1 < l.length) && l.getD (p + 1) 0 == 42)) := by
  unfold isCom
  by_cases hq : p + 1 < l.length
  ·rw [bE hq]; simp [hq]
  ·rw [List.drop_of_length_le (by omega)]; simp [hq]
 have st : ∀ k, isGap (l.drop p) = true -> stp (l.drop p) = .skip k -> p + k <= l.length /\ 0 < k /\ skL (l.drop p) p = skL (l.drop (p + k)) (p + k) := fun k e1 e2 => by
  have := dS (nV e1)
  rw [e2, Stp.len] at this
  simp only [List.length_drop] at this
  exact ⟨by omega, by omega, by rw [skL_on e1 e2, List.drop_drop]⟩
 simp -implicitDefEqProofs only [go_sem, d1, Int.toNat_natCast, hp]
 refine aC hC (h96 _) ?_
 rcases hB : isBlank (l.getD p 0) with _ | _
 rotate_left
 ·rw [hB, if_pos rfl] at hstp
  rw [hB, Bool.true_or] at hg
  obtain ⟨s1, s2, s3⟩ := st 1 hg hstp
  simp -implicitDefEqProofs only [go_sem, w1]
  exact ⟨by omega, p + 1, _, Wk.pick (by simp) (by simp [go_sem]), by omega, by omega, s3, rfl⟩
 rw [hB, if_neg (by simp)] at hstp
 rw [hB, Bool.false_or] at hg
 rcases h37 : (l.getD p 0 == 37) with _ | _
 rotate_left
 ·rw [h37, if_pos rfl, <- hd] at hstp
  rw [h37, Bool.true_or] at hg
  obtain ⟨s1, s2, s3⟩ := st _ hg hstp
  simp -implicitDefEqProofs only [go_sem, Int.toNat_natCast, hp, b37, h37]
  refine eE hC (fun i => i <= run (fun c => c != 10) (l.drop p)) (fun i => [(1, .i (p + i : Nat))]) [0] l.length (by omega) ?_ ?_
  ·exact Wk.pick (Nat.le_refl _) (by simp [go_sem, Picks])
  ·intro i hi hi2
   have hrl := dD (fun c => c != 10) (l.drop p)
   simp only [List.length_drop] at hrl
   obtain ⟨r1, r2, r3⟩ := fQ hi2
   have w3 : IntKind.i64.wrap (((p + i : Nat) : Int) + 1) = ((p + (i + 1) : Nat) : Int) := by rw [aK _ (by omega)]; omega
   by_cases hlt : p + i < l.length
   ·have d3 : decide (((p + i : Nat) : Int) < (l.length : Int)) = true := decide_eq_true (by omega)
    obtain ⟨hj', eg⟩ := gZ hlt
    have eg' : l.getD (p + i) 0 = l[p + i] := by simp [List.getD, hlt]
    rcases hpc : (l[p + i] != 10) with _ | _
    ·have := r2 hj' (by rw [eg]; exact hpc)
     simp -implicitDefEqProofs only [go_sem, d3, Int.toNat_natCast, hlt, eg', b10, hpc]
     exact ⟨by omega, p + i, _, Wk.pick (by simp) (by simp [go_sem]), by omega, by omega, by rw [<- this]; exact s3, rfl⟩
    ·have := r1 hj' (by rw [eg]; exact hpc)
     simp -implicitDefEqProofs only [go_sem, d3, Int.toNat_natCast, hlt, eg', b10, hpc, w3]
     exact ⟨by omega, by omega, Wk.pick (Nat.le_refl _) (by simp [go_sem, Picks])⟩
   ·have d3 : decide (((p + i : Nat) : Int) < (l.length : Int)) = false := decide_eq_false (by omega)
    have := r3 (by simp; omega)
    simp -implicitDefEqProofs only [go_sem, d3]
    exact ⟨by omega, p + i, _, Wk.pick (by simp) (by simp [go_sem]), by omega, by omega, by rw [<- this]; exact s3, rfl⟩
 rw [h37, if_neg (by simp), hcom] at hstp
 rw [h37, Bool.false_or, hcom] at hg
 rcases h47 : (l.getD p 0 == 47) with _ | _
 ·rw [h47, Bool.false_and] at hg
  have e := nH (a := p) hg
  simp -implicitDefEqProofs only [go_sem, Int.toNat_natCast, hp, b37, h37, b47, h47]
  exact aX (Nat.le_refl _) (by rw [e])
 rw [h47, Bool.true_and] at hg hstp
 by_cases hq : p + 1 < l.length
 rotate_left
 ·have d2 : decide (((p + 1 : Nat) : Int) < (l.length : Int)) = false := decide_eq_false (by omega)
  rw [decide_eq_false hq, Bool.false_and] at hg
  have e := nH (a := p) hg
  simp -implicitDefEqProofs only [go_sem, Int.toNat_natCast, hp, b37, h37, b47, h47, w1, d2]
  exact aX (Nat.le_refl _) (by rw [e])
 have d2 : decide (((p + 1 : Nat) : Int) < (l.length : Int)) = true := decide_eq_true (by omega)
 rw [decide_eq_true hq, Bool.true_and] at hg hstp
 rcases h42 : (l.getD (p + 1) 0 == 42) with _ | _
 ·rw [h42] at hg
  have e := nH (a := p) hg
  simp -implicitDefEqProofs only [go_sem, Int.toNat_natCast, hp, hq, b37, h37, b47, h47, w1, d2, b42, h42]
  exact aX (Nat.le_refl _) (by rw [e])
 rw [h42] at hg
 rw [h42, if_pos rfl, List.drop_drop] at hstp
 simp -implicitDefEqProofs only [go_sem, Int.toNat_natCast, hp, hq, b37, h37, b47, h47, w1, w2, d2, b42, h42]
 have ea : p + 1 + 1 = p + 2 := by omega
 rw [ea] at hstp
 refine eE hC (fun i => Fe l (p + 2) i /\ p + 2 + i <= l.length + 1) (fun i => [(6, .i (p + 2 + i : Nat))]) [0, 1] l.length ⟨Fe.start _ _, by omega⟩ ?_ ?_
 ·exact Wk.pick (Nat.le_refl _) (by simp [go_sem, Picks])
 ·intro i hi ⟨hf, hi2⟩
  have w3 : IntKind.i64.wrap (((p + 2 + i : Nat) : Int) + 1) = ((p + 2 + i + 1 : Nat) : Int) := by rw [aK _ (by omega)]; omega
  have w4 : IntKind.i64.wrap (((p + 2 + i : Nat) : Int) + 2) = ((p + (i + 4) : Nat) : Int) := by rw [aK _ (by omega)]; omega
  have ei : p + 2 + i + 1 = p + 2 + (i + 1) := by omega
  by_cases hlt : p + 2 + i + 1 < l.length
  ·have hlt0 : p + 2 + i < l.length := by omega
   have d3 : decide (((p + 2 + i + 1 : Nat) : Int) < (l.length : Int)) = true := decide_eq_true (by omega)
   have d4 : decide (((p + 2 + i + 1 : Nat) : Int) >= (l.length : Int)) = false := decide_eq_false (by omega)
   rcases hA : (l.getD (p + 2 + i) 0 == 42) with _ | _
   ·have hA' : (l.getD (p + 2 + i) 0 != 42) = true := by unfold bne; rw [hA]; rfl
    have hn := hf.next hlt (by rw [hA]; rfl)
    simp -implicitDefEqProofs only [go_sem, w3, d3, Int.toNat_natCast, hlt0, b42', hA']
    exact ⟨by omega, ⟨hn, by omega⟩, Wk.pick (Nat.le_refl _) (by simp [go_sem, Picks]; omega)⟩
   ·have hA' : (l.getD (p + 2 + i) 0 != 42) = false := by unfold bne; rw [hA]; rfl
    rcases hZ : (l.getD (p + 2 + i + 1) 0 == 47) with _ | _
    ·have hZ' : (l.getD (p + 2 + i + 1) 0 != 47) = true := by unfold bne; rw [hZ]; rfl
     have hn := hf.next hlt (by rw [hA, hZ]; rfl)
     simp -implicitDefEqProofs only [go_sem, w3, d3, Int.toNat_natCast, hlt, hlt0, b42', hA', b47', hZ']
     exact ⟨by omega, ⟨hn, by omega⟩, Wk.pick (Nat.le_refl _) (by simp [go_sem, Picks]; omega)⟩
    ·have hZ' : (l.getD (p + 2 + i + 1) 0 != 47) = false := by unfold bne; rw [hZ]; rfl
     have hE : findEnd (l.drop (p + 2)) = some i := by rw [hf, vH hlt (by rw [hA, hZ]; rfl)]; simp
     rw [hE] at hstp
     obtain ⟨s1, s2, s3⟩ := st _ hg hstp
     simp -implicitDefEqProofs only [go_sem, w3, d3, d4, Int.toNat_natCast, hlt, hlt0, b42', hA', b47', hZ', w4]
     exact ⟨by omega, p + (i + 4), _, Wk.pick (by simp) (by simp [go_sem]), by omega, by omega, s3, rfl⟩
  ·have d3 : decide (((p + 2 + i + 1 : Nat) : Int) < (l.length : Int)) = false := decide_eq_false (by omega)
   have d4 : decide (((p + 2 + i + 1 : Nat) : Int) >= (l.length : Int)) = true := decide_eq_true (by omega)
   have hE : findEnd (l.drop (p + 2)) = none := by rw [hf, wF (by omega)]; rfl
   rw [hE] at hstp
   have e := skL_bad (a := p) hg hstp
   simp -implicitDefEqProofs only [go_sem, w3, d3, d4]
   exact aX (Nat.le_refl _) (by rw [e])
def LxOk (s : Stp) (a : Nat) (y : Lx) (ok : Bool) : Prop := match s with
 | .lex d n t k => ok = true /\ y = ⟨d, n, t, a, a + k⟩
 | _ => ok = false
theorem bO {s : Stp} {a : Nat} {h : List AObj} (y : Lx) (ok : Bool) (hs : LxOk s a y ok) : ∃ v h', Wk GL 0 [(0, .tup [.agg [.i y.kind, .i y.n, .str y.s, .i y.a, .i y.e], .b ok])] h [(0, v)] h' /\ ∃ y ok, ARes.val v = .val (.tup [encLx y, .b ok]) /\ LxOk s a y ok :=
 ⟨_, _, Wk.refl (Nat.zero_le _), y, ok, rfl, hs⟩
theorem h60 {l : List UInt8} {a : Nat} (hl : l.length < 2 ^ 30) (ha : a < l.length) (hg : isGap (l.drop a) = false) (h : List AObj) :
  AC Tryz.prog GL (.fn 60) [.str l, .i a] h fun r h' => Keep All h h' /\ ∃ y ok, r = .val (.tup [encLx y, .b ok]) /\ LxOk (stp (l.drop a)) a y ok := by
 suffices h0 : AC Tryz.prog GL (.fn 60) [.str l, .i a] [] fun r _ => ∃ y ok, r = .val (.tup [encLx y, .b ok]) /\ LxOk (stp (l.drop a)) a y ok by
  refine aJ hC (kJ (by simp [go_sem]) h0 h) ?_
  rintro x h' ⟨r0, h0, ⟨y, ok, rfl, hy⟩, rfl, rfl⟩
  exact ⟨Keep.app _ _ _, y, ok, by simp [go_sem, renR], hy⟩
 refine k60.call (by simp) ?_
 have w1 : IntKind.i64.wrap ((a : Int) + 1) = ((a + 1 : Nat) : Int) := by rw [aK _ (by omega)]; simp
 have b34 : ∀ c : UInt8, ((c.toNat : Int) == 34) = (c == 34) := fun c => bJ c 34
 have b39 : ∀ c : UInt8, ((c.toNat : Int) == 39) = (c == 39) := fun c => bJ c 39
 have hd := bE ha
 have hstp := congrArg stp hd
 rw [stp.eq_2] at hstp
 have hge := congrArg isGap hd
 rw [hg, isGap.eq_2] at hge
 obtain ⟨g1, g23⟩ := Bool.or_eq_false_iff.1 hge.symm
 obtain ⟨g2, g3⟩ := Bool.or_eq_false_iff.1 g23
 simp only [g1, g2, g3, Bool.false_eq_true, if_false, <- hd] at hstp
 have dis := kP (p := fun c => !(isSign c && (isDigit c || isSmall c || isLarge c || isSym c))) (by kernel_rfl) (l.getD a 0)
 have dis2 := kP (p := fun c => !(isSmall c && isLarge c)) (by kernel_rfl) (l.getD a 0)
 simp -implicitDefEqProofs only [go_sem, c60, r60, Int.toNat_natCast, ha, w1]
 generalize hc : l.getD a 0 = c at *
 by_cases h34 : c = 34
 ·subst h34
  have hn : ((34 : UInt8).toNat : Int) = 34 := rfl
  have n1 : ((34 : Int) == 34) = true := rfl
  have n2 : ((34 : Int) == 39) = false := rfl
  have e : stp (l.drop a) = stpStr (l.drop (a + 1)) := by rw [hstp]; rfl
  rw [e]
  simp -implicitDefEqProofs only [go_sem, hn, n1]
  refine aC hC (h97s hl ha hc) ?_
  unfold refStr stpStr
  rcases hq : qStr (l.drop (a + 1)) with _ | ⟨t, k⟩
  ·have z0 : decide ((0 : Int) > 0) = false := rfl
   simp -implicitDefEqProofs only [go_sem, n2, z0]
   exact bO ⟨5, 0, [], a, 0⟩ false rfl
  ·by_cases hb : t.length > 255
   ·have z0 : decide ((0 : Int) > 0) = false := rfl
    simp only [hb, if_true]
    simp -implicitDefEqProofs only [go_sem, n2, z0]
    exact bO ⟨5, 0, [], a, 0⟩ false rfl
   ·have z0 : decide (((a + 1 + k : Nat) : Int) > 0) = true := decide_eq_true (by omega)
    simp only [hb, if_false]
    simp -implicitDefEqProofs only [go_sem, n2, z0]
    exact bO ⟨5, 0, t, a, a + 1 + k⟩ true ⟨rfl, by rw [Nat.add_assoc, Nat.add_comm 1 k]⟩
 by_cases h39 : c = 39
 ·subst h39
  have hn : ((39 : UInt8).toNat : Int) = 39 := rfl
  have n1 : ((39 : Int) == 39) = true := rfl
  have n2 : ((39 : Int) == 34) = false := rfl
  have e : stp (l.drop a) = stpQuoted (l.drop (a + 1)) := by rw [hstp]; rfl
  rw [e]
  simp -implicitDefEqProofs only [go_sem, hn, n1, n2]
  refine aC hC (h97n hl ha hc) ?_
  unfold refName stpQuoted
  rcases hq : qName (l.drop (a + 1)) with _ | ⟨t, k⟩
  ·have z0 : decide ((0 : Int) > 0) = false := rfl
   simp -implicitDefEqProofs only [go_sem, n1, z0]
   exact bO ⟨2, 0, [], a, 0⟩ false rfl
  ·by_cases hb : t.length < 1 ∨ t.length > 32
   ·have z0 : decide ((0 : Int) > 0) = false := rfl
    simp only [hb, if_true]
    simp -implicitDefEqProofs only [go_sem, n1, z0]
    exact bO ⟨2, 0, [], a, 0⟩ false rfl
   ·have z0 : decide (((a + 1 + k : Nat) : Int) > 0) = true := decide_eq_true (by omega)
    simp only [hb, if_false]
    simp -implicitDefEqProofs only [go_sem, n1, z0]
    exact bO ⟨2, 0, t, a, a + 1 + k⟩ true ⟨rfl, by rw [Nat.add_assoc, Nat.add_comm 1 k]⟩
 have q34 : (c == 34) = false := by simpa using h34
 have q39 : (c == 39) = false := by simpa using h39
 simp only [q34, q39, Bool.false_eq_true, if_false] at hstp
 simp -implicitDefEqProofs only [go_sem, b34, q34, b39, q39]
 refine aC hC (h98 _ c (by simp)) ?_
 have eN : ([40, 41, 91, 93, 123, 125, 44, 124].any fun x => x == c) = isSign c := rfl
 rw [eN]
 rcases hN : isSign c with _ | _
 rotate_left
 ·rw [hN, Bool.true_and] at dis
  simp only [Bool.not_eq_true', Bool.or_eq_false_iff] at dis
  obtain ⟨⟨⟨d1, d2⟩, d3⟩, d4⟩ := dis
  simp only [hN, d1, d2, d3, d4, Bool.false_eq_true, if_false, if_true] at hstp
  have e1 : (l.drop a).take (a + 1 - a) = [c] := by rw [hd, Nat.add_sub_cancel_left]; rfl
  simp -implicitDefEqProofs only [go_sem, w1, Int.toNat_natCast, e1]
  refine ⟨⟨by omega, by omega, by omega⟩, ?_⟩
  exact bO ⟨6, 0, [c], a, a + 1⟩ true (by rw [hstp]; exact ⟨rfl, rfl⟩)
 simp only [hN, Bool.false_eq_true, if_false] at hstp
 simp -implicitDefEqProofs only [go_sem]
 refine aC hC (h99 c) ?_
 rcases hD : isDigit c with _ | _
 rotate_left
 ·simp only [hD, if_true] at hstp
  have hrl := dD isDigit (l.drop a)
  simp only [List.length_drop] at hrl
  have hdg := qJ (p := isDigit) (l.drop a)
  have tl : ((l.drop a).take (run isDigit (l.drop a))).length = run isDigit (l.drop a) := by simp; omega
  simp -implicitDefEqProofs only [go_sem]
  refine aC hC (h100d a (by omega) (by omega)) ?_
  have hst : stpNum (l.drop a) = if decide (decVal ((l.drop a).take (run isDigit (l.drop a))) > 2147483647) || nmAfter (l.drop (a + run isDigit (l.drop a))) then .bad else .lex 4 (decVal ((l.drop a).take (run isDigit (l.drop a)))) [] (run isDigit (l.drop a)) := by rw [stpNum, List.drop_drop]
  simp -implicitDefEqProofs only [go_sem, Int.toNat_natCast, dO]
  refine ⟨⟨by omega, by omega, by omega⟩, ?_⟩
  generalize hR : (l.drop a).take (run isDigit (l.drop a)) = R at hst tl hdg ⊢
  generalize hn : run isDigit (l.drop a) = n at hst tl hrl ⊢
  refine aC hC (h101 hdg (by omega)) ?_
  by_cases hb : decVal R > 2147483647
  ·rw [decide_eq_true hb, Bool.true_or, if_pos rfl] at hst
   simp only [hb, if_true]
   simp -implicitDefEqProofs only [go_sem]
   exact bO ⟨4, 0, [], a, a + n⟩ false (by rw [hstp, hst]; rfl)
  ·rw [decide_eq_false hb, Bool.false_or] at hst
   simp only [hb, if_false]
   by_cases he : a + n < l.length
   ·have d2 : decide (((a + n : Nat) : Int) >= (l.length : Int)) = false := decide_eq_false (by omega)
    rw [bE he, nmAfter] at hst
    simp -implicitDefEqProofs only [go_sem, d2, Int.toNat_natCast, he]
    refine aC hC (h102 _) ?_
    rcases hW : isName (l.getD (a + n) 0) with _ | _
    ·rw [hW, if_neg (by simp)] at hst
     simp -implicitDefEqProofs only [go_sem]
     exact bO ⟨4, decVal R, [], a, a + n⟩ true (by rw [hstp, hst]; exact ⟨rfl, rfl⟩)
    ·rw [hW, if_pos rfl] at hst
     simp -implicitDefEqProofs only [go_sem]
     exact bO ⟨4, decVal R, [], a, a + n⟩ false (by rw [hstp, hst]; rfl)
   ·have d2 : decide (((a + n : Nat) : Int) >= (l.length : Int)) = true := decide_eq_true (by omega)
    rw [List.drop_of_length_le (show l.length <= a + n by omega), nmAfter, if_neg (by simp)] at hst
    simp -implicitDefEqProofs only [go_sem, d2]
    exact bO ⟨4, decVal R, [], a, a + n⟩ true (by rw [hstp, hst]; exact ⟨rfl, rfl⟩)
 simp only [hD, Bool.false_eq_true, if_false] at hstp
 simp -implicitDefEqProofs only [go_sem]
 refine aC hC (h103 c) ?_
 rcases hS : isSmall c with _ | _
 rotate_left
 ·simp only [hS, if_true] at hstp
  have hL : isLarge c = false := by rw [hS] at dis2; simpa using dis2
  simp -implicitDefEqProofs only [go_sem]
  have hrl := dD isName (l.drop a)
  simp only [List.length_drop] at hrl
  refine aC hC (h100w a (by omega) (by omega)) ?_
  have tl : ((l.drop a).take (run isName (l.drop a))).length = run isName (l.drop a) := by simp; omega
  simp -implicitDefEqProofs only [go_sem, Int.toNat_natCast, dO]
  refine ⟨⟨by omega, by omega, by omega⟩, ?_⟩
  refine aC hC (h104 c) ?_
  have hst : ∀ k, stpWord (l.drop a) k = if run isName (l.drop a) > 32 then .bad else .lex k 0 ((l.drop a).take (run isName (l.drop a))) (run isName (l.drop a)) := fun k => rfl
  generalize hR : (l.drop a).take (run isName (l.drop a)) = R at hst tl ⊢
  generalize hn : run isName (l.drop a) = n at hst tl hrl ⊢
  by_cases hb : n > 32
  ·have d1 : decide ((R.length : Int) <= 32) = false := decide_eq_false (by omega)
   rw [hL]
   simp -implicitDefEqProofs only [go_sem, d1]
   exact bO ⟨_, 0, R, a, a + n⟩ false (by rw [hstp, hst, if_pos hb]; rfl)
  ·have d1 : decide ((R.length : Int) <= 32) = true := decide_eq_true (by omega)
   rw [hL]
   simp -implicitDefEqProofs only [go_sem, d1]
   exact bO ⟨_, 0, R, a, a + n⟩ true (by rw [hstp, hst, if_neg hb]; exact ⟨rfl, rfl⟩)
 simp only [hS, Bool.false_eq_true, if_false] at hstp
 simp -implicitDefEqProofs only [go_sem]
 refine aC hC (h104 c) ?_
 rcases hL : isLarge c with _ | _
 rotate_left
 ·simp only [hL, if_true] at hstp
  simp -implicitDefEqProofs only [go_sem]
  have hrl := dD isName (l.drop a)
  simp only [List.length_drop] at hrl
  refine aC hC (h100w a (by omega) (by omega)) ?_
  have tl : ((l.drop a).take (run isName (l.drop a))).length = run isName (l.drop a) := by simp; omega
  simp -implicitDefEqProofs only [go_sem, Int.toNat_natCast, dO]
  refine ⟨⟨by omega, by omega, by omega⟩, ?_⟩
  refine aC hC (h104 c) ?_
  have hst : ∀ k, stpWord (l.drop a) k = if run isName (l.drop a) > 32 then .bad else .lex k 0 ((l.drop a).take (run isName (l.drop a))) (run isName (l.drop a)) := fun k => rfl
  generalize hR : (l.drop a).take (run isName (l.drop a)) = R at hst tl ⊢
  generalize hn : run isName (l.drop a) = n at hst tl hrl ⊢
  by_cases hb : n > 32
  ·have d1 : decide ((R.length : Int) <= 32) = false := decide_eq_false (by omega)
   rw [hL]
   simp -implicitDefEqProofs only [go_sem, d1]
   exact bO ⟨_, 0, R, a, a + n⟩ false (by rw [hstp, hst, if_pos hb]; rfl)
  ·have d1 : decide ((R.length : Int) <= 32) = true := decide_eq_true (by omega)
   rw [hL]
   simp -implicitDefEqProofs only [go_sem, d1]
   exact bO ⟨_, 0, R, a, a + n⟩ true (by rw [hstp, hst, if_neg hb]; exact ⟨rfl, rfl⟩)
 simp only [hL, Bool.false_eq_true, if_false] at hstp
 simp -implicitDefEqProofs only [go_sem]
 refine aC hC (h105 c) ?_
 rcases hY : isSym c with _ | _
 ·simp only [hY, Bool.false_eq_true, if_false] at hstp
  simp -implicitDefEqProofs only [go_sem]
  exact bO ⟨0, 0, [], a, a + 1⟩ false (by rw [hstp]; rfl)
 simp only [hY, if_true] at hstp
 have hrl := dD isSym (l.drop a)
 simp only [List.length_drop] at hrl
 simp -implicitDefEqProofs only [go_sem]
 refine aC hC (h100s a (by omega) (by omega)) ?_
 have tl : ((l.drop a).take (run isSym (l.drop a))).length = run isSym (l.drop a) := by simp; omega
 simp -implicitDefEqProofs only [go_sem, Int.toNat_natCast, dO]
 refine ⟨⟨by omega, by omega, by omega⟩, ?_⟩
 have hst : stpSym (l.drop a) = if run isSym (l.drop a) > 32 then .bad else .lex (if ((l.drop a).take (run isSym (l.drop a)) == [46] && endAfter (l.drop (a + run isSym (l.drop a)))) = true then 7 else 1) 0 ((l.drop a).take (run isSym (l.drop a))) (run isSym (l.drop a)) := by rw [stpSym, List.drop_drop]
 generalize hR : (l.drop a).take (run isSym (l.drop a)) = R at hst tl ⊢
 generalize hn : run isSym (l.drop a) = n at hst tl hrl ⊢
 rcases hp : (R == [46]) with _ | _
 ·rw [hp, Bool.false_and] at hst
  simp -implicitDefEqProofs only [go_sem]
  by_cases hb : n > 32
  ·have d1 : decide ((R.length : Int) <= 32) = false := decide_eq_false (by omega)
   simp -implicitDefEqProofs only [go_sem, d1]
   exact bO ⟨_, 0, R, a, a + n⟩ false (by rw [hstp, hst, if_pos hb]; rfl)
  ·have d1 : decide ((R.length : Int) <= 32) = true := decide_eq_true (by omega)
   simp -implicitDefEqProofs only [go_sem, d1]
   exact bO ⟨_, 0, R, a, a + n⟩ true (by rw [hstp, hst, if_neg hb]; exact ⟨rfl, rfl⟩)
 ·by_cases he : a + n < l.length
  ·have d2 : decide (((a + n : Nat) : Int) >= (l.length : Int)) = false := decide_eq_false (by omega)
   rw [hp, bE he, endAfter] at hst
   simp -implicitDefEqProofs only [go_sem, d2, Int.toNat_natCast, he]
   refine aC hC (h96 _) ?_
   rcases hB : isBlank (l.getD (a + n) 0) with _ | _
   ·rcases hC37 : (((l.getD (a + n) 0).toNat : Int) == 37) with _ | _
    ·rw [hB, hC37] at hst
     simp -implicitDefEqProofs only [go_sem, Int.toNat_natCast, he, hC37]
     by_cases hb : n > 32
     ·have d1 : decide ((R.length : Int) <= 32) = false := decide_eq_false (by omega)
      simp -implicitDefEqProofs only [go_sem, d1]
      exact bO ⟨_, 0, R, a, a + n⟩ false (by rw [hstp, hst, if_pos hb]; rfl)
     ·have d1 : decide ((R.length : Int) <= 32) = true := decide_eq_true (by omega)
      simp -implicitDefEqProofs only [go_sem, d1]
      exact bO ⟨_, 0, R, a, a + n⟩ true (by rw [hstp, hst, if_neg hb]; exact ⟨rfl, rfl⟩)
    ·rw [hB, hC37] at hst
     simp -implicitDefEqProofs only [go_sem, Int.toNat_natCast, he, hC37]
     by_cases hb : n > 32
     ·have d1 : decide ((R.length : Int) <= 32) = false := decide_eq_false (by omega)
      simp -implicitDefEqProofs only [go_sem, d1]
      exact bO ⟨_, 0, R, a, a + n⟩ false (by rw [hstp, hst, if_pos hb]; rfl)
     ·have d1 : decide ((R.length : Int) <= 32) = true := decide_eq_true (by omega)
      simp -implicitDefEqProofs only [go_sem, d1]
      exact bO ⟨_, 0, R, a, a + n⟩ true (by rw [hstp, hst, if_neg hb]; exact ⟨rfl, rfl⟩)
   ·rw [hB, Bool.true_or] at hst
    simp -implicitDefEqProofs only [go_sem]
    by_cases hb : n > 32
    ·have d1 : decide ((R.length : Int) <= 32) = false := decide_eq_false (by omega)
     simp -implicitDefEqProofs only [go_sem, d1]
     exact bO ⟨_, 0, R, a, a + n⟩ false (by rw [hstp, hst, if_pos hb]; rfl)
    ·have d1 : decide ((R.length : Int) <= 32) = true := decide_eq_true (by omega)
     simp -implicitDefEqProofs only [go_sem, d1]
     exact bO ⟨_, 0, R, a, a + n⟩ true (by rw [hstp, hst, if_neg hb]; exact ⟨rfl, rfl⟩)
  ·have d2 : decide (((a + n : Nat) : Int) >= (l.length : Int)) = true := decide_eq_true (by omega)
   rw [hp, List.drop_of_length_le (show l.length <= a + n by omega), endAfter] at hst
   simp -implicitDefEqProofs only [go_sem, d2]
   by_cases hb : n > 32
   ·have d1 : decide ((R.length : Int) <= 32) = false := decide_eq_false (by omega)
    simp -implicitDefEqProofs only [go_sem, d1]
    exact bO ⟨_, 0, R, a, a + n⟩ false (by rw [hstp, hst, if_pos hb]; rfl)
   ·have d1 : decide ((R.length : Int) <= 32) = true := decide_eq_true (by omega)
    simp -implicitDefEqProofs only [go_sem, d1]
    exact bO ⟨_, 0, R, a, a + n⟩ true (by rw [hstp, hst, if_neg hb]; exact ⟨rfl, rfl⟩)
theorem sk_lex : ∀ (n : Nat) (m : List UInt8) (a : Nat), m.length <= n -> ∃ k, (skL m a).1 = a + k /\ k <= m.length /\ ((skL m a).2 = false -> lexL m a = .error (a + k)) /\ ((skL m a).2 = true -> lexL m a = lexL (m.drop k) (a + k) /\ isGap (m.drop k) = false)
 | n, m, a, hn => by
  rcases hg : isGap m with _ | _
  ·rw [nH hg]
   refine ⟨0, rfl, Nat.zero_le _, ?_, ?_⟩
   ·intro e; cases e
   ·intro _; exact ⟨rfl, hg⟩
  ·have hne := nV hg
   have hs := dS hne
   rcases stp_gap hg with ⟨k, hk⟩ | hk
   ·rw [hk, Stp.len] at hs
    match n, hn with
    | 0, hn => exact absurd (List.eq_nil_of_length_eq_zero (by omega)) hne
    | n + 1, hn =>
     obtain ⟨k2, e1, e2, e3, e4⟩ := sk_lex n (m.drop k) (a + k) (by simp; omega)
     rw [skL_on hg hk, eM hne, hk]
     simp only
     simp only [List.length_drop] at e2
     refine ⟨k + k2, by rw [e1]; omega, by omega, fun e => by rw [e3 e, Nat.add_assoc], fun e => ?_⟩
     have := e4 e
     rw [List.drop_drop] at this
     rw [<- Nat.add_assoc]
     exact this
   ·rw [skL_bad hg hk]
    refine ⟨0, rfl, Nat.zero_le _, ?_, ?_⟩
    ·intro _; rw [eM hne, hk]; rfl
    ·intro e; cases e
theorem pre_gap {l : List UInt8} {a k : Nat} {ls : List Lx} (h : lexL l 0 = pre ls (lexL (l.drop a) a)) (hs : lexL (l.drop a) a = lexL ((l.drop a).drop k) (a + k)) : lexL l 0 = pre ls (lexL (l.drop (a + k)) (a + k)) := by
 rw [h, hs, List.drop_drop]
theorem h19 (l : List UInt8) : Pure (PC GL) 19 [.str l] (lexV l) := by
 refine aN (by simp [go_sem]) (bd_lexV l) ?_
 refine k19.call (by simp) ?_
 by_cases hl : l.length > 20000
 ·have d1 : decide ((l.length : Int) > 20000) = true := decide_eq_true (by omega)
  have ev : lexV l = .tup [.sl 5 [], .i 0, .i 2] := by rw [lexV, lexOut, if_pos hl]
  simp -implicitDefEqProofs only [go_sem, c19, r19, d1]
  rw [ev]
  exact aO (by simp [wkr, wkrs]) (by simp [go_sem])
 have d1 : decide ((l.length : Int) > 20000) = false := decide_eq_false (by omega)
 simp -implicitDefEqProofs only [go_sem, c19, r19, d1]
 refine cK hC (fun _ (p : Nat × List Lx × Nat) => [(0, .str l), (5, .own p.2.2 5 (p.2.1.map encLx)), (6, .i (p.1 : Nat))]) (fun j p h' => j <= p.1 /\ p.1 <= l.length /\ p.2.1.length <= p.1 /\ lexL l 0 = pre p.2.1 (lexL (l.drop p.1) p.1) /\ h'[p.2.2]? = some (.spare 44 5)) l.length ⟨(0, [], 0), _, Wk.pick (by simp) (by simp [go_sem]), by simp, by simp, by simp, by simp [pre]; cases lexL l 0 <;> rfl, rfl⟩ fun j p h1 hj ⟨p1, p2, p3, p4, p5⟩ => ?_
 obtain ⟨p, ls, b⟩ := p
 simp only at p1 p2 p3 p4 p5
 have hlb := aL p5
 obtain ⟨k, e1, e2, e3, e4⟩ := sk_lex _ (l.drop p) p (Nat.le_refl _)
 simp only [List.length_drop] at e2
 have hsk := h59 (GL := GL) (l := l) p (by omega) p2
 rw [e1] at hsk
 have er : lexL l 0 = .error (p + k) -> lexV l = .tup [.sl 5 [], .i (p + k : Nat), .i 20] := fun e => by rw [lexV, lexOut, if_neg hl, e]
 simp -implicitDefEqProofs only [go_sem]
 refine aC hC hsk ?_
 rcases hok : (skL (l.drop p) p).2 with _ | _
 ·have ev := er (by rw [p4, e3 hok]; rfl)
  simp -implicitDefEqProofs only [go_sem]
  rw [ev]
  exact aO (by simp [wkr, wkrs]) (by simp [go_sem])
 obtain ⟨e5, e6⟩ := e4 hok
 have p6 := pre_gap p4 e5
 rw [List.drop_drop] at e6
 by_cases hq : p + k < l.length
 rotate_left
 ·have d2 : decide (((p + k : Nat) : Int) >= (l.length : Int)) = true := decide_eq_true (by omega)
  have hz : lexL l 0 = .ok ls := by rw [p6, List.drop_of_length_le (show l.length <= p + k by omega), kD]; simp [pre]
  by_cases h8 : ls.length > 8000
  ·have d3 : decide ((ls.length : Int) > 8000) = true := decide_eq_true (by omega)
   have ev : lexV l = .tup [.sl 5 [], .i 0, .i 2] := by rw [lexV, lexOut, if_neg hl, hz]; simp only; rw [if_pos h8]
   simp -implicitDefEqProofs only [go_sem, d2, List.length_map, d3]
   rw [ev]
   exact aO (by simp [wkr, wkrs]) (by simp [go_sem])
  ·have d3 : decide ((ls.length : Int) > 8000) = false := decide_eq_false (by omega)
   have ev : lexV l = .tup [.sl 5 (ls.map encLx), .i 0, .i 0] := by rw [lexV, lexOut, if_neg hl, hz]; simp only; rw [if_neg h8]
   simp -implicitDefEqProofs only [go_sem, d2, List.length_map, d3]
   rw [ev]
   exact aO (by simp [wkr, wkrs]) (by simp [go_sem])
 have d2 : decide (((p + k : Nat) : Int) >= (l.length : Int)) = false := decide_eq_false (by omega)
 have hne : l.drop (p + k) ≠ [] := by rw [bE hq]; simp
 have hsl := dS hne
 simp only [List.length_drop] at hsl
 simp -implicitDefEqProofs only [go_sem, d2]
 refine aJ hC (h60 (by omega) hq e6 h1) fun x h2 ⟨hk, y, ok, ex, hy⟩ => ?_
 subst ex
 have p5q := hk.got p5
 have hlb2 := aL p5q
 cases hs : stp (l.drop (p + k)) with
 | bad =>
  rw [hs] at hy
  cases hy
  have ev := er (pre_bad p6 hne hs)
  simp -implicitDefEqProofs only [go_sem, encLx]
  rw [ev]
  exact aO (by simp [wkr, wkrs]) (by simp [go_sem])
 | skip m =>
  exfalso
  rw [bE hq] at hs e6
  rw [isGap] at e6
  obtain ⟨g1, g23⟩ := Bool.or_eq_false_iff.1 e6
  obtain ⟨g2, g3⟩ := Bool.or_eq_false_iff.1 g23
  rw [stp] at hs
  simp only [g1, g2, g3, Bool.false_eq_true, if_false] at hs
  unfold stpNum stpWord stpSym stpQuoted stpStr at hs
  repeat' split at hs
  all_goals first | cases hs | (split at hs <;> cases hs)
 | lex d n t m =>
  rw [hs] at hy hsl
  obtain ⟨rfl, rfl⟩ := hy
  rw [Stp.len] at hsl
  have p7 := pre_lex p6 hne hs
  have p5q_g := fun l => aF (l := l) p5q
  have p5q_s := fun o l => aG (l := l) p5q o
  have p5q_e := fun o l => aD (o := o) (l := l) p5q
  have p5q_h := fun o => aH (o := o) p5q
  simp -implicitDefEqProofs only [go_sem, encLx, List.append_assoc, dB, p5q_g, p5q_s, List.length_map, List.length_singleton, dY]
  refine ⟨by omega, ?_⟩
  exact ⟨by omega, (p + k + m, ls ++ [⟨d, n, t, (p + k : Nat), (p + k + m : Nat)⟩], h2.length + 2), _, Wk.pick (by simp) (by simp [go_sem, encLx]), by simp; omega, by simp; omega, by simp; omega, p7, by simp⟩
theorem h20 (ls : List Lx) (hl : ls.length < 2 ^ 40) : Pure (PC GL) 20 [.sl 5 (ls.map encLx), .sl 5 (ls.map encLx)] (.b true) := by
 refine aN (by simp [go_sem]) (by simp [go_sem]) ?_
 refine k20.call (by simp) ?_
 have z : ((ls.length : Int) != (ls.length : Int)) = false := by simp
 simp -implicitDefEqProofs only [go_sem, c20, r20, List.length_map, z]
 refine eE hC (fun j => True) (fun j => [(5, .i (j : Nat))]) [0, 1] ls.length trivial ?_ ?_
 ·exact Wk.pick (Nat.le_refl _) (by simp [go_sem, Picks])
 ·intro j hj _
  have w1 : IntKind.i64.wrap ((j : Int) + 1) = ((j + 1 : Nat) : Int) := by rw [aK _ (by omega)]; omega
  by_cases hlt : j < ls.length
  ·have d1 : decide ((j : Int) < (ls.length : Int)) = true := decide_eq_true (by omega)
   have eg : (ls.map encLx).getD j .any = encLx ls[j] := by simp [List.getD, hlt]
   have q : (!(ls[j].kind == ls[j].kind && (ls[j].n == ls[j].n && (ls[j].s == ls[j].s && ((ls[j].a : Int) == (ls[j].a : Int) && (ls[j].e : Int) == (ls[j].e : Int)))))) = false := by simp
   simp -implicitDefEqProofs only [go_sem, List.length_map, d1, Int.toNat_natCast, hlt, eg, encLx, q, w1]
   exact Wk.pick (Nat.le_refl _) (by simp [go_sem, Picks])
  ·have d1 : decide ((j : Int) < (ls.length : Int)) = false := decide_eq_false (by omega)
   simp -implicitDefEqProofs only [go_sem, List.length_map, d1]
   exact aX (Nat.le_refl _) rfl
theorem h3 (hG : GLok GL) (s : Str) : Pure (PC GL) 3 [.str s] (.b true) := by
 refine aN (by simp [go_sem]) (by simp [go_sem]) ?_
 refine k3.call (by simp) ?_
 simp -implicitDefEqProofs only [go_sem, c3, r3]
 refine aC hC (sane_ok hG) ?_
 simp -implicitDefEqProofs only [go_sem]
 refine aC hC (h18 hG s) ?_
 have h19' := h19 (GL := GL) s
 unfold lexV at h19' ⊢
 rcases hz : lexOut s with ⟨e, n⟩ | ls
 ·rw [hz] at h19'
  simp -implicitDefEqProofs only [go_sem]
  refine aC hC h19' ?_
  have h20' := h20 (GL := GL) [] (by simp)
  simp -implicitDefEqProofs only [go_sem]
  refine aC hC h20' ?_
  simp -implicitDefEqProofs only [go_sem, beq_self_eq_true]
  exact aR (bM _) rfl
 ·rw [hz] at h19'
  obtain ⟨hls, -⟩ := qD hz
  have h20' := h20 (GL := GL) ls (by have := hls.1; omega)
  simp -implicitDefEqProofs only [go_sem]
  refine aC hC h19' ?_
  simp -implicitDefEqProofs only [go_sem]
  refine aC hC h20' ?_
  simp -implicitDefEqProofs only [go_sem, beq_self_eq_true]
  exact aR (bM _) rfl
end Go.Rip
