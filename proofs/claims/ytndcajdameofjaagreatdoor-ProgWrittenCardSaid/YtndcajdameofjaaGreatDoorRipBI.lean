/- The reader of programs: a clause, walked. -/
import Derived.Test.YtndcajdameofjaaGreatDoorProg
import Derived.KernelRfl
import Derived.Test.YtndcajdameofjaaGreatDoorRipBH
import Derived.Test.YtndcajdameofjaaGreatDoorRipAI
import Derived.Test.YtndcajdameofjaaGreatDoorRipAU
namespace Go.Rip
open Go Go.Proofs
set_option maxRecDepth 100000
attribute [local irreducible] Pure
theorem keep4 {h : List AObj} {a : Nat} {X : AObj} (o2 : h[a]? = some (.spare 68 5)) {h' : List AObj} (hk : Keep RdK h' h) : Keep RdK h' (h.set a X) := by
 refine ⟨by have := hk.1; simp; omega, fun i o hi hn => ?_⟩
 have h1 := hk.2 i o hi hn
 have ik : a ≠ i := by rintro rfl; rw [o2] at h1; cases h1; exact hn (.inr (.inr (.inr rfl)))
 rw [aF ik]; exact h1
theorem lO {r r1 : Rd} {s : Sym} (h : r.begin s = some r1) : r1 = ⟨r.procs ++ [⟨s.name, s.arity, []⟩], r.mark⟩ := by
 rw [Rd.begin] at h
 split at h
 ·cases h; rfl
 ·cases h
set_option maxHeartbeats 4000000 in
theorem h196 (r : Rd) (t : Tm) (ht : t.size < 2 ^ 27) (hs : t.strs) (hl : r.procs.length < 2 ^ 40) (k : Nat) (h : List AObj) (hr : RdAt r k h) :
  AC Tryz.prog GLs (.fn 196) [.ref k 0, enc t] h fun x h' => Keep RdK h h' /\ match r.clause t with
   | some r' => x = .val (.tup []) /\ RdAt r' k h'
   | none => ∃ n, x = .panic (wrongV n) := by
 obtain ⟨m, b, fr, n, L, o1, o2, o3, hPL, hla⟩ := hr.s
 have q182 := h182 (GL := GLs) t neckB 2
 obtain ⟨s1, s2, s3⟩ := oZ hs
 obtain ⟨z1, z2, z3⟩ := vT (t := t)
 obtain ⟨rc, hrc⟩ : ∃ rc, r.clause t = rc := ⟨_, rfl⟩
 rw [hrc]
 rw [Rd.clause] at hrc
 obtain ⟨H, hH⟩ : ∃ H, t.split.1 = H := ⟨_, rfl⟩
 obtain ⟨G, hG⟩ : ∃ G, t.split.2.1 = G := ⟨_, rfl⟩
 obtain ⟨B, hB⟩ : ∃ B, t.split.2.2 = B := ⟨_, rfl⟩
 rw [hH, hG, hB] at hrc
 rw [hH] at s1 z1
 rw [hG] at s2 z2
 rw [hB] at s3 z3
 obtain ⟨A1, hA1⟩ : ∃ A, atomT trueB = A := ⟨_, rfl⟩
 obtain ⟨A2, hA2⟩ : ∃ A, atomT trueB = A := ⟨_, rfl⟩
 have q1 := h108 (GL := GLs) trueB
 have q2 := h108 (GL := GLs) trueB
 rw [hA1] at q1
 rw [hA2] at q2
 have z1 : H.size < 2 ^ 28 := by omega
 have z2 : G.size < 2 ^ 28 := by omega
 have z3 : B.size < 2 ^ 28 := by omega
 refine k196.call (by simp) ?_
 have o1_g := fun l => aC (l := l) o1
 have o1_s := fun o l => aE (l := l) o1 o
 have o1_e := fun o l => aD (o := o) (l := l) o1
 have o1_h := fun o => aJ (o := o) o1
 simp -implicitDefEqProofs only [go_sem, c196, r196]
 refine aG hC q1 ?_
 simp -implicitDefEqProofs only [go_sem]
 refine aG hC q2 ?_
 simp -implicitDefEqProofs only [go_sem, aO, bI, List.append_assoc]
 refine aG hC q182 ?_
 rcases hf : t.isFun neckB 2 with _ | _
 have e : t.split = (t, atomT trueB, atomT trueB) := by rw [Tm.split, hf]; rfl
 rw [e] at hH hG hB
 have hG := (hA1.symm.trans hG).symm
 have hB := (hA2.symm.trans hB).symm
 have hH := Eq.symm hH
 clear e hs ht hf hA1 hA2 q182 q1 q2
 simp only at hH
 subst A1 A2 t
 simp -implicitDefEqProofs only [go_sem, aO]
 rotate_left
 obtain ⟨-, hl2⟩ := dH hf
 rcases ht' : t.l with _ | ⟨u, _ | ⟨v, _ | ⟨z, rest⟩⟩⟩
 ·rw [ht'] at hl2; simp at hl2
 ·rw [ht'] at hl2; simp at hl2
 rotate_left
 ·rw [ht'] at hl2; simp at hl2; omega
 rotate_left
 have a0 : t.at0 = u := by rw [Tm.at0, ht']; rfl
 have a1 : t.at1 = v := by rw [Tm.at1, ht']; rfl
 have q182' := h182 (GL := GLs) v [124] 2
 simp -implicitDefEqProofs only [go_sem, aO, bI, sO, tW, Nat.reduceAdd, List.getD_cons_zero, List.getD_cons_succ, gV, lD]
 refine aG hC q182' ?_
 rcases hf2 : v.isFun [124] 2 with _ | _
 have e : t.split = (u, atomT trueB, v) := by rw [Tm.split, if_pos hf, a1, hf2, if_neg (by simp), a0]
 rw [e] at hH hG hB
 have hG := (hA1.symm.trans hG).symm
 have hB := Eq.symm hB
 have hH := Eq.symm hH
 clear e hs ht hf hf2 hA1 hA2 q182 q182' q1 q2 a0 a1 hl2
 simp only at hH hB
 subst A1 v u
 simp -implicitDefEqProofs only [go_sem, aO]
 rotate_left
 obtain ⟨-, hl3⟩ := dH hf2
 rcases hv' : v.l with _ | ⟨x, _ | ⟨y, _ | ⟨z, rest⟩⟩⟩
 ·rw [hv'] at hl3; simp at hl3
 ·rw [hv'] at hl3; simp at hl3
 rotate_left
 ·rw [hv'] at hl3; simp at hl3; omega
 rotate_left
 rotate_left
 have e : t.split = (u, x, y) := by
  have b0 : v.at0 = x := by rw [Tm.at0, hv']; rfl
  have b1 : v.at1 = y := by rw [Tm.at1, hv']; rfl
  rw [Tm.split, if_pos hf, a1, if_pos hf2, a0, b0, b1]
 rw [e] at hH hG hB
 have hG := Eq.symm hG
 have hB := Eq.symm hB
 have hH := Eq.symm hH
 clear e hs ht hf hf2 hA1 hA2 q182 q182' q1 q2 a0 a1 hl2 hl3
 simp only at hH hB hG
 simp -implicitDefEqProofs only [go_sem, aO, bI, sO, tW, Nat.reduceAdd, List.getD_cons_zero, List.getD_cons_succ, gV, lD]
 subst x y u
 all_goals
  have q25 := h25 (GL := GLs) H.sym
  simp only [encSym, Tm.sym] at q25
  refine aG hC (h234 H) ?_
  rcases hi : H.isSym with _ | _
  ·have bad : rc = none := by rw [<- hrc, hi]; rfl
   simp -implicitDefEqProofs only [go_sem, aO, bI, List.append_assoc, encSym, Tm.sym]
   refine aR hC (h114 false k _ (o1_g _)) fun x h' hx => ?_
   obtain ⟨rfl, hx⟩ := hx
   rcases hx with ⟨h0, -⟩ | ⟨-, n', rfl⟩
   ·cases h0
   simp -implicitDefEqProofs only [go_sem]
   exact aZ (by simp) ⟨Keep.app _ _ _, by rw [bad]; exact ⟨_, rfl⟩⟩
  simp -implicitDefEqProofs only [go_sem, aO, bI, List.append_assoc, encSym, Tm.sym]
  refine aG hC q25 ?_
  rcases hres : Sym.res ⟨H.s, (H.l.length : Int)⟩ with _ | _
  rotate_left
  ·have bad : rc = none := by rw [<- hrc, hi, if_neg (by simp [Tm.sym, hres])]
   simp -implicitDefEqProofs only [go_sem, Bool.not_true]
   refine aR hC (h114 false k _ (o1_g _)) fun x h' hx => ?_
   obtain ⟨rfl, hx⟩ := hx
   rcases hx with ⟨h0, -⟩ | ⟨-, n', rfl⟩
   ·cases h0
   simp -implicitDefEqProofs only [go_sem]
   exact aZ (by simp) ⟨Keep.app _ _ _, by rw [bad]; exact ⟨_, rfl⟩⟩
  have hrc : ((r.open ⟨H.s, H.l.length⟩).bind fun r' => r'.add ⟨r.mark, 0, H.l, G.parted, B.parted⟩) = rc := by rw [<- hrc, hi, if_pos (by simp [Tm.sym, hres])]; rfl
  simp -implicitDefEqProofs only [go_sem, Bool.not_false]
  refine aR hC (h114 true k _ (o1_g _)) fun x hp hx => ?_
  have hkp : Keep RdK h hp := by rw [hx.1]; exact Keep.app _ _ _
  have hr0 : RdAt r k hp := by rw [hx.1]; exact hr.app _
  have u4 : hp[h.length + 1]? = some (.cells 24 [.v (.int .i64 H.kind), .v (.int .i64 H.n), .str H.s, .sl 4 (H.l.map enc)]) := by rw [hx.1]; exact aO h _ 1
  have u5 : hp[h.length + 2]? = some (.cells 24 [.v (.int .i64 G.kind), .v (.int .i64 G.n), .str G.s, .sl 4 (G.l.map enc)]) := by rw [hx.1]; exact aO h _ 2
  have u6 : hp[h.length + 3]? = some (.cells 24 [.v (.int .i64 B.kind), .v (.int .i64 B.n), .str B.s, .sl 4 (B.l.map enc)]) := by rw [hx.1]; exact aO h _ 3
  have u7 : hp[h.length + 4]? = some (.cells 26 [.str H.s, .i H.l.length]) := by rw [hx.1]; exact aO h _ 4
  rcases hx.2 with ⟨-, rfl⟩ | ⟨h0, -⟩
  rotate_left
  ·cases h0
  clear hx o1 o2 o3 hPL hla hr o1_g o1_s o1_e o1_h q25
  obtain ⟨m, b, fr, n, L, o1, o2, o3, hPL, hla⟩ := hr0.s
  have hLl := hPL.len
  by_cases hps : r.procs = []
  ·have hL0 : L = [] := List.eq_nil_of_length_eq_zero (by rw [hLl, hps]; rfl)
   subst hL0
   have wm : IntKind.i64.wrap (((0 : Nat) : Int) - 1) = -1 := rfl
   have dm : decide ((-1 : Int) < 0) = true := rfl
   rw [gZ] at o1
   have o1_g := fun l => aC (l := l) o1
   have o1_s := fun o l => aE (l := l) o1 o
   have o1_e := fun o l => aD (o := o) (l := l) o1
   have o1_h := fun o => aJ (o := o) o1
   have u4_g := fun l => aC (l := l) u4
   have u4_s := fun o l => aE (l := l) u4 o
   have u4_e := fun o l => aD (o := o) (l := l) u4
   have u4_h := fun o => aJ (o := o) u4
   have u5_g := fun l => aC (l := l) u5
   have u5_s := fun o l => aE (l := l) u5 o
   have u5_e := fun o l => aD (o := o) (l := l) u5
   have u5_h := fun o => aJ (o := o) u5
   have u6_g := fun l => aC (l := l) u6
   have u6_s := fun o l => aE (l := l) u6 o
   have u6_e := fun o l => aD (o := o) (l := l) u6
   have u6_h := fun o => aJ (o := o) u6
   have u7_g := fun l => aC (l := l) u7
   have u7_s := fun o l => aE (l := l) u7 o
   have u7_e := fun o l => aD (o := o) (l := l) u7
   have u7_h := fun o => aJ (o := o) u7
   have ho : r.open ⟨H.s, H.l.length⟩ = r.begin ⟨H.s, H.l.length⟩ := by rw [Rd.open, hps]; rfl
   rw [ho] at hrc
   simp -implicitDefEqProofs only [go_sem, o1, u7, wm, dm]
   refine aR hC (h246 r ⟨H.s, H.l.length⟩ ((bS H).1 s1).1 hl k hp hr0) fun x hq ⟨hkq, hx⟩ => ?_
   have hk1 : Keep RdK h hq := hkp.trans hkq
   have hk1b := hkq
   rcases hbg : r.begin ⟨H.s, H.l.length⟩ with _ | r1
   ·rw [hbg] at hx hrc
    obtain ⟨n', rfl⟩ := hx
    have bad : rc = none := hrc.symm
    simp -implicitDefEqProofs only [go_sem]
    exact aZ hk1.1 ⟨hk1, by rw [bad]; exact ⟨_, rfl⟩⟩
   rw [hbg] at hx hrc
   have hrc : r1.add ⟨r.mark, 0, H.l, G.parted, B.parted⟩ = rc := hrc
   obtain ⟨rfl, hr1⟩ := hx
   have er := lO hbg
   have hmk : r1.mark = r.mark := by rw [er]
   have hne1 : r1.procs ≠ [] := by rw [er]; simp
   have hl1 : r1.procs.length = r.procs.length + 1 := by rw [er]; simp
   have v4 := hkq.get u4 (dB (by decide))
   have v5 := hkq.get u5 (dB (by decide))
   have v6 := hkq.get u6 (dB (by decide))
   obtain ⟨m1, b1, fr1, n1, L1, p1, p2, p3, hPL1, hla1⟩ := hr1.s
   obtain ⟨qs1, q1, M1, x1, f1, f2, f3, f4⟩ := hPL1.last hne1
   have hM1 := f4.len
   have hl1' := congrArg List.length f1
   simp only [List.length_append, List.length_singleton] at hl1'
   have w9 : IntKind.i64.wrap ((-1 : Int) + 1) = (M1.length : Int) := by rw [aP _ (by omega)]; rw [hps] at hl1; simp at hl1; omega
   have eL1 : L1.length = M1.length + 1 := by rw [f2]; simp
   have hLne1 : L1 ≠ [] := by rw [f2]; simp
   have p3 := p3.resolve_left hLne1
   rw [bZ hLne1, eL1] at p1
   rw [f2] at p3
   clear hk1b
   have p1_g := fun l => aC (l := l) p1
   have p1_s := fun o l => aE (l := l) p1 o
   have p1_e := fun o l => aD (o := o) (l := l) p1
   have p1_h := fun o => aJ (o := o) p1
   have v4_g := fun l => aC (l := l) v4
   have v4_s := fun o l => aE (l := l) v4 o
   have v4_e := fun o l => aD (o := o) (l := l) v4
   have v4_h := fun o => aJ (o := o) v4
   have v5_g := fun l => aC (l := l) v5
   have v5_s := fun o l => aE (l := l) v5 o
   have v5_e := fun o l => aD (o := o) (l := l) v5
   have v5_h := fun o => aJ (o := o) v5
   have v6_g := fun l => aC (l := l) v6
   have v6_s := fun o l => aE (l := l) v6 o
   have v6_e := fun o l => aD (o := o) (l := l) v6
   have v6_h := fun o => aJ (o := o) v6
   simp -implicitDefEqProofs only [go_sem, w9, p1, v4, v5, v6]
   refine aU hC (h129 (GL := GLs) G (by omega) _) fun y g2 ⟨hkg, a1, ha1, hy, hA1⟩ => ?_
   subst hy
   have p1a := hkg.got p1
   have v4a := hkg.got v4
   have v6a := hkg.got v6
   have p1a_g := fun l => aC (l := l) p1a
   have p1a_s := fun o l => aE (l := l) p1a o
   have p1a_e := fun o l => aD (o := o) (l := l) p1a
   have p1a_h := fun o => aJ (o := o) p1a
   have v4a_g := fun l => aC (l := l) v4a
   have v4a_s := fun o l => aE (l := l) v4a o
   have v4a_e := fun o l => aD (o := o) (l := l) v4a
   have v4a_h := fun o => aJ (o := o) v4a
   have v6a_g := fun l => aC (l := l) v6a
   have v6a_s := fun o l => aE (l := l) v6a o
   have v6a_e := fun o l => aD (o := o) (l := l) v6a
   have v6a_h := fun o => aJ (o := o) v6a
   simp -implicitDefEqProofs only [go_sem, p1a, v4a, v6a]
   refine aU hC (h129 (GL := GLs) B (by omega) _) fun y g3 ⟨hkB, a2, ha2, hy, hA2⟩ => ?_
   subst hy
   have hk3 : Keep RdK h g3 := hk1.trans (hkg.of_all.trans hkB.of_all)
   have p1b := hkB.got p1a
   have v4b := hkB.got v4a
   have v5b := hkB.got (hkg.got v5)
   have v6b := hkB.got v6a
   have p3b := hkB.got (hkg.got p3)
   have hr3 := hr1
   clear p1 v4 v5 v6 p1a v4a v6a p1_g p1_s p1_e p1_h v4_g v4_s v4_e v4_h v5_g v5_s v5_e v5_h v6_g v6_s v6_e v6_h p1a_g p1a_s p1a_e p1a_h v4a_g v4a_s v4a_e v4a_h v6a_g v6a_s v6a_e v6a_h
   have p1b_g := fun l => aC (l := l) p1b
   have p1b_s := fun o l => aE (l := l) p1b o
   have p1b_e := fun o l => aD (o := o) (l := l) p1b
   have p1b_h := fun o => aJ (o := o) p1b
   have v4b_g := fun l => aC (l := l) v4b
   have v4b_s := fun o l => aE (l := l) v4b o
   have v4b_e := fun o l => aD (o := o) (l := l) v4b
   have v4b_h := fun o => aJ (o := o) v4b
   have v5b_g := fun l => aC (l := l) v5b
   have v5b_s := fun o l => aE (l := l) v5b o
   have v5b_e := fun o l => aD (o := o) (l := l) v5b
   have v5b_h := fun o => aJ (o := o) v5b
   have v6b_g := fun l => aC (l := l) v6b
   have v6b_s := fun o l => aE (l := l) v6b o
   have v6b_e := fun o l => aD (o := o) (l := l) v6b
   have v6b_h := fun o => aJ (o := o) v6b
   have p3b_g := fun l => aC (l := l) p3b
   have p3b_s := fun o l => aE (l := l) p3b o
   have p3b_e := fun o l => aD (o := o) (l := l) p3b
   have p3b_h := fun o => aJ (o := o) p3b
   have hsz : sizes (Cl.parts ⟨r1.mark, 0, H.l, G.parted, B.parted⟩) < 2 ^ 30 := by
    have t1 := cU G
    have t2 := cU B
    have t3 := bE H
    simp only [Cl.parts, bB]; omega
   have hss : strss (Cl.parts ⟨r1.mark, 0, H.l, G.parted, B.parted⟩) := by
    simp only [Cl.parts, cF]
    exact ⟨((bS H).1 s1).2, cE G s2, cE B s3⟩
   rw [<- hmk] at hrc
   obtain ⟨c, hcc⟩ : ∃ c : Cl, ⟨r1.mark, 0, H.l, G.parted, B.parted⟩ = c := ⟨_, rfl⟩
   have q47 : Pure (PC GLs) 47 [.agg [.i r1.mark, .i 0, .sl 4 (H.l.map enc), .sl 4 (G.parted.map enc), .sl 4 (B.parted.map enc)]] (.tup [encCl c.nR, .i c.nE]) := by
    rw [<- hcc]; exact h47 _ hsz hss
   rw [hcc] at hrc
   have hgl1 : r1.procs.getLast? = some q1 := by rw [f1]; simp
   have hdl1 : r1.procs.dropLast = qs1 := by rw [f1]; simp
   have hadd : r1.add c = if c.nOk && decide (q1.clauses.length < 32) then some ⟨qs1 ++ [⟨q1.name, q1.arity, q1.clauses ++ [c.normal]⟩], 0⟩ else none := by rw [Rd.add, hgl1, hdl1]
   rw [hadd] at hrc
   simp only [encCl] at q47
   simp -implicitDefEqProofs only [go_sem, p1b, v4b]
   refine dC q47 ?_ ?_
   ·simp [fzs, fzGs, fzG, cY, <- dL]
   rcases hno : c.nOk with _ | _
   ·have e0 : (c.nE == 0) = false := by rw [Cl.nE, hno]; rfl
    have bad : rc = none := by rw [<- hrc, hno]; rfl
    simp -implicitDefEqProofs only [go_sem, p1b_g, v4b_g, v5b_g, v6b_g, e0]
    refine aR hC (h114 false k _ (p1b_g _)) fun x h' hx => ?_
    obtain ⟨rfl, hx⟩ := hx
    rcases hx with ⟨h0, -⟩ | ⟨-, n', rfl⟩
    ·cases h0
    simp -implicitDefEqProofs only [go_sem]
    exact aZ (by have := hk3.1; simp; omega) ⟨hk3.trans (Keep.app _ _ _), by rw [bad]; exact ⟨_, rfl⟩⟩
   have e0 : (c.nE == 0) = true := by rw [Cl.nE, hno]; rfl
   have eR : c.nR = c.normal := by rw [Cl.nR, hno]; rfl
   rw [hno, Bool.true_and] at hrc
   rw [eR]
   have bm1 : bounds (M1.length : Int) (M1.length + 1) = True := by simp [bounds]; omega
   have et1 : (M1 ++ [prV q1 x1]).take (M1.length + 1) = M1 ++ [prV q1 x1] := List.take_of_length_le (by simp)
   have nb1 : Nat.ble (M1.length + 1) (M1.length + 1) = true := cV _
   have gl1 : (M1 ++ [prV q1 x1])[M1.length]? = some (.agg [.str q1.name, .i q1.arity, x1]) := by simp [prV]
   have sl1 : ∀ w : AV, (M1 ++ [prV q1 x1]).set M1.length w = M1 ++ [w] := fun w => by simp
   have p2b := hkB.got (hkg.got p2)
   have hkb : k ≠ b1 := aN p1b p3b (by simp)
   have hkm : k ≠ m1 := aN p1b p2b (by simp)
   have hmb : m1 ≠ b1 := aN p2b p3b (by simp)
   have k2 : ∀ o l, (g3.set b1 o ++ l)[k]? = some (.cells 145 [.vec b1 3 (M1.length + 1), .mp m1, .i r1.mark, .i fr1, .i n1]) := fun o l => aW p1b p3b (by simp)
   have k3 : ∀ o y l, (g3.set b1 o ++ l).set k y = (g3.set b1 o).set k y ++ l := fun o y l => cK (by simpa using aH p1b)
   rcases f3 with ⟨rfl, hc0⟩ | ⟨a, rfl⟩
   ·rw [hc0] at hrc
    have d32 : decide (((0 : Nat) : Int) < 32) = true := rfl
    simp -implicitDefEqProofs only [go_sem, p1b_g, v4b_g, v5b_g, v6b_g, p3b_g, e0, bm1, et1, nb1, gl1, List.length_append, List.length_singleton, Nat.reduceAdd, d32]
    refine aR hC (h114 true k _ (p1b_g _)) fun x h' hx => ?_
    obtain ⟨rfl, hx⟩ := hx
    rcases hx with ⟨-, rfl⟩ | ⟨h0, -⟩
    rotate_left
    ·cases h0
    simp -implicitDefEqProofs only [go_sem, List.append_assoc, p1b_g, p3b_g, p3b_s, bm1, et1, nb1, gl1, List.length_append, List.length_singleton, Nat.reduceMul, Nat.reduceAdd, cP]
    refine ⟨by decide, ?_⟩
    rw [sl1]
    simp -implicitDefEqProofs only [go_sem, k2, k3]
    refine ⟨_, _, Wk.refl (by have := hk3.1; simp; omega), gM (by rw [aF hkb.symm]; exact p1b) (kM p3b hk3), ?_⟩
    rw [<- hrc, if_pos (by simp)]
    refine ⟨rfl, ⟨m1, b1, fr1, n1, M1 ++ [prV ⟨q1.name, q1.arity, [c.normal]⟩ (.own (g3.length + 2) 5 [encCl c.normal])], ?_, ?_, .inr ?_, PL.app f4 ⟨⟨_, rfl, .inr ⟨_, rfl⟩⟩, trivial⟩, fun s n a l e => ?_⟩⟩
    ·rw [List.getElem?_append_left (by simpa using aH p1b), List.getElem?_set_self (by simpa using aH p1b), cG]
    ·rw [List.getElem?_append_left (by simpa using aH p2b), aF hkm, aF hmb.symm, p2b, f1]
     simp [Pr.sym]
    ·rw [List.getElem?_append_left (by simpa using aH p3b), aF hkb, List.getElem?_set_self (by simpa using aH p3b)]
     simp [prV, encCl]
    ·simp [prV] at e
     obtain ⟨-, -, rfl, -⟩ := e
     rw [List.getElem?_append_right (by simp)]
     simp
   ·have ga := hla1 (.str q1.name) (.i q1.arity) a (q1.clauses.map encCl) (by rw [f2]; simp [prV])
    by_cases h32 : q1.clauses.length < 32
    ·have d32 : decide ((q1.clauses.length : Int) < 32) = true := decide_eq_true (by omega)
     simp -implicitDefEqProofs only [go_sem, p1b_g, v4b_g, v5b_g, v6b_g, p3b_g, e0, bm1, et1, nb1, gl1, List.length_append, List.length_singleton, Nat.reduceAdd, d32]
     have gab := hkB.got (hkg.got ga)
     have hab : a ≠ b1 := aN gab p3b (by simp)
     have hak : a ≠ k := aN gab p1b (by simp)
     have ham : a ≠ m1 := aN gab p2b (by simp)
     have gab_g := fun l => aC (l := l) gab
     have gab_s := fun o l => aE (l := l) gab o
     have gab_e := fun o l => aD (o := o) (l := l) gab
     have gab_h := fun o => aJ (o := o) gab
     have j1 : ∀ l, (g3.set a .dead ++ l)[k]? = some (.cells 145 [.vec b1 3 (M1.length + 1), .mp m1, .i r1.mark, .i fr1, .i n1]) := fun l => aW p1b gab (by simp)
     have j2 : ∀ l, (g3.set a .dead ++ l)[b1]? = some (.buf 60 3 (M1 ++ [prV q1 (.own a 5 (q1.clauses.map encCl))])) := fun l => aW p3b gab (by simp)
     have j3 : ∀ o l, (g3.set a .dead ++ l).set b1 o = (g3.set a .dead).set b1 o ++ l := fun o l => cK (by simpa using aH p3b)
     have j4 : ∀ o l, ((g3.set a .dead).set b1 o ++ l)[k]? = some (.cells 145 [.vec b1 3 (M1.length + 1), .mp m1, .i r1.mark, .i fr1, .i n1]) := fun o l => by
      rw [List.getElem?_append_left (by simpa using aH p1b), aF hkb.symm, aF hak]; exact p1b
     have j5 : ∀ o y l, ((g3.set a .dead).set b1 o ++ l).set k y = ((g3.set a .dead).set b1 o).set k y ++ l := fun o y l => cK (by simpa using aH p1b)
     have j6 : ∀ l, (g3.set a .dead ++ l)[g3.length]? = l[0]? := fun l => cM _ _ _ _
     refine aR hC (h114 true k _ (p1b_g _)) fun x h' hx => ?_
     obtain ⟨rfl, hx⟩ := hx
     rcases hx with ⟨-, rfl⟩ | ⟨h0, -⟩
     rotate_left
     ·cases h0
     simp -implicitDefEqProofs only [go_sem, List.append_assoc, p1b_g, p3b_g, gab_g, gab_s, bm1, et1, nb1, gl1, List.length_append, List.length_singleton, Nat.reduceAdd, cP, j1, j2, j3, j4, j5]
     rw [sl1]
     refine ⟨by omega, _, _, Wk.refl (by have := hk3.1; simp; omega), gM (by rw [aF hkb.symm, aF hak]; exact p1b) (kM (by rw [aF hab]; exact p3b) (keep4 gab hk3)), ?_⟩
     rw [<- hrc, if_pos (by simp; omega)]
     refine ⟨rfl, ⟨m1, b1, fr1, n1, M1 ++ [prV ⟨q1.name, q1.arity, q1.clauses ++ [c.normal]⟩ (.own (g3.length + 2) 5 ((q1.clauses ++ [c.normal]).map encCl))], ?_, ?_, .inr ?_, PL.app f4 ⟨⟨_, rfl, .inr ⟨_, rfl⟩⟩, trivial⟩, fun s n a l e => ?_⟩⟩
     ·rw [List.getElem?_append_left (by simpa using aH p1b), List.getElem?_set_self (by simpa using aH p1b), cG]
     ·rw [List.getElem?_append_left (by simpa using aH p2b), aF hkm, aF hmb.symm, aF ham, p2b, f1]
      simp [Pr.sym]
     ·rw [List.getElem?_append_left (by simpa using aH p3b), aF hkb, List.getElem?_set_self (by simpa using aH p3b)]
      simp [prV, encCl]
     ·simp [prV] at e
      obtain ⟨-, -, rfl, -⟩ := e
      rw [List.getElem?_append_right (by simp)]
      simp
    ·have d32 : decide ((q1.clauses.length : Int) < 32) = false := decide_eq_false (by omega)
     simp -implicitDefEqProofs only [go_sem, p1b_g, v4b_g, v5b_g, v6b_g, p3b_g, e0, bm1, et1, nb1, gl1, List.length_append, List.length_singleton, Nat.reduceAdd, d32]
     have bad : rc = none := by rw [<- hrc, if_neg (by simp; omega)]
     refine aR hC (h114 false k _ (p1b_g _)) fun x h' hx => ?_
     obtain ⟨rfl, hx⟩ := hx
     rcases hx with ⟨h0, -⟩ | ⟨-, n', rfl⟩
     ·cases h0
     simp -implicitDefEqProofs only [go_sem]
     exact aZ (by have := hk3.1; simp; omega) ⟨hk3.trans (Keep.app _ _ _), by rw [bad]; exact ⟨_, rfl⟩⟩
  ·obtain ⟨qs, q, M, x, e1, e2, e3, e4⟩ := hPL.last hps
   have hM := e4.len
   have eLM : L.length = M.length + 1 := by rw [e2]; simp
   have wl : IntKind.i64.wrap (((M.length + 1 : Nat) : Int) - 1) = (M.length : Int) := by rw [aP _ (by omega)]; omega
   have dl : decide ((M.length : Int) < 0) = false := decide_eq_false (by omega)
   have hLne : L ≠ [] := by rw [e2]; simp
   have o3 := o3.resolve_left hLne
   have bm : bounds (M.length : Int) (M.length + 1) = True := by simp [bounds]; omega
   rw [bZ hLne, eLM] at o1
   rw [e2] at o3
   have o1_g := fun l => aC (l := l) o1
   have o1_s := fun o l => aE (l := l) o1 o
   have o1_e := fun o l => aD (o := o) (l := l) o1
   have o1_h := fun o => aJ (o := o) o1
   have u4_g := fun l => aC (l := l) u4
   have u4_s := fun o l => aE (l := l) u4 o
   have u4_e := fun o l => aD (o := o) (l := l) u4
   have u4_h := fun o => aJ (o := o) u4
   have u5_g := fun l => aC (l := l) u5
   have u5_s := fun o l => aE (l := l) u5 o
   have u5_e := fun o l => aD (o := o) (l := l) u5
   have u5_h := fun o => aJ (o := o) u5
   have u6_g := fun l => aC (l := l) u6
   have u6_s := fun o l => aE (l := l) u6 o
   have u6_e := fun o l => aD (o := o) (l := l) u6
   have u6_h := fun o => aJ (o := o) u6
   have u7_g := fun l => aC (l := l) u7
   have u7_s := fun o l => aE (l := l) u7 o
   have u7_e := fun o l => aD (o := o) (l := l) u7
   have u7_h := fun o => aJ (o := o) u7
   have et : (M ++ [prV q x]).take (M.length + 1) = M ++ [prV q x] := List.take_of_length_le (by simp)
   have nb : Nat.ble (M.length + 1) (M.length + 1) = true := cV _
   have gl : (M ++ [prV q x])[M.length]? = some (.agg [.str q.name, .i q.arity, x]) := by simp [prV]
   have o3_g := fun l => aC (l := l) o3
   have o3_s := fun o l => aE (l := l) o3 o
   have o3_e := fun o l => aD (o := o) (l := l) o3
   have o3_h := fun o => aJ (o := o) o3
   simp -implicitDefEqProofs only [go_sem, o1, u7, o3, wl, dl, bm, et, nb, gl, List.length_append, List.length_singleton]
   have hgl : r.procs.getLast? = some q := by rw [e1]; simp
   by_cases hn : q.name = H.s
   ·by_cases ha : q.arity = H.l.length
    ·have ho : r.open ⟨H.s, H.l.length⟩ = some r := by
      rw [Rd.open, hgl]
      simp only [Pr.sym, hn, ha, if_true]
     have b1 : (q.name == H.s) = true := by simp [hn]
     have b2 : (q.arity != (H.l.length : Int)) = false := by simp [ha]
     rw [ho] at hrc
     simp -implicitDefEqProofs only [go_sem, b1, b2, Bool.not_true, Bool.not_false, o1, u4, u5, u6, u7, o3, bm, et, nb, gl, List.length_append, List.length_singleton, Nat.reduceAdd]
     have hrc : r.add ⟨r.mark, 0, H.l, G.parted, B.parted⟩ = rc := hrc
     have hk1 := hkp
     have hk1b := hkp
     have hmk : r.mark = r.mark := rfl
     have v4 := u4
     have v5 := u5
     have v6 := u6
     have hl1 := congrArg List.length e1
     obtain ⟨m1, b1, fr1, n1, L1, p1, p2, p3, hPL1, hla1⟩ := hr0.s
     obtain ⟨qs1, q1, M1, x1, f1, f2, f3, f4⟩ := hPL1.last hps
     have hM1 := f4.len
     have hl1' := congrArg List.length f1
     simp only [List.length_append, List.length_singleton] at hl1 hl1'
     have hr1 := hr0
     have w9 : (M.length : Int) = (M1.length : Int) := by omega
     have eL1 : L1.length = M1.length + 1 := by rw [f2]; simp
     have hLne1 : L1 ≠ [] := by rw [f2]; simp
     have p3 := p3.resolve_left hLne1
     rw [bZ hLne1, eL1] at p1
     rw [f2] at p3
     clear hk1b
     have p1_g := fun l => aC (l := l) p1
     have p1_s := fun o l => aE (l := l) p1 o
     have p1_e := fun o l => aD (o := o) (l := l) p1
     have p1_h := fun o => aJ (o := o) p1
     have v4_g := fun l => aC (l := l) v4
     have v4_s := fun o l => aE (l := l) v4 o
     have v4_e := fun o l => aD (o := o) (l := l) v4
     have v4_h := fun o => aJ (o := o) v4
     have v5_g := fun l => aC (l := l) v5
     have v5_s := fun o l => aE (l := l) v5 o
     have v5_e := fun o l => aD (o := o) (l := l) v5
     have v5_h := fun o => aJ (o := o) v5
     have v6_g := fun l => aC (l := l) v6
     have v6_s := fun o l => aE (l := l) v6 o
     have v6_e := fun o l => aD (o := o) (l := l) v6
     have v6_h := fun o => aJ (o := o) v6
     simp -implicitDefEqProofs only [go_sem, w9]
     refine aU hC (h129 (GL := GLs) G (by omega) _) fun y g2 ⟨hkg, a1, ha1, hy, hA1⟩ => ?_
     subst hy
     have p1a := hkg.got p1
     have v4a := hkg.got v4
     have v6a := hkg.got v6
     have p1a_g := fun l => aC (l := l) p1a
     have p1a_s := fun o l => aE (l := l) p1a o
     have p1a_e := fun o l => aD (o := o) (l := l) p1a
     have p1a_h := fun o => aJ (o := o) p1a
     have v4a_g := fun l => aC (l := l) v4a
     have v4a_s := fun o l => aE (l := l) v4a o
     have v4a_e := fun o l => aD (o := o) (l := l) v4a
     have v4a_h := fun o => aJ (o := o) v4a
     have v6a_g := fun l => aC (l := l) v6a
     have v6a_s := fun o l => aE (l := l) v6a o
     have v6a_e := fun o l => aD (o := o) (l := l) v6a
     have v6a_h := fun o => aJ (o := o) v6a
     simp -implicitDefEqProofs only [go_sem, p1a, v4a, v6a]
     refine aU hC (h129 (GL := GLs) B (by omega) _) fun y g3 ⟨hkB, a2, ha2, hy, hA2⟩ => ?_
     subst hy
     have hk3 : Keep RdK h g3 := hk1.trans (hkg.of_all.trans hkB.of_all)
     have p1b := hkB.got p1a
     have v4b := hkB.got v4a
     have v5b := hkB.got (hkg.got v5)
     have v6b := hkB.got v6a
     have p3b := hkB.got (hkg.got p3)
     have hr3 := hr1
     clear p1 v4 v5 v6 p1a v4a v6a p1_g p1_s p1_e p1_h v4_g v4_s v4_e v4_h v5_g v5_s v5_e v5_h v6_g v6_s v6_e v6_h p1a_g p1a_s p1a_e p1a_h v4a_g v4a_s v4a_e v4a_h v6a_g v6a_s v6a_e v6a_h
     have p1b_g := fun l => aC (l := l) p1b
     have p1b_s := fun o l => aE (l := l) p1b o
     have p1b_e := fun o l => aD (o := o) (l := l) p1b
     have p1b_h := fun o => aJ (o := o) p1b
     have v4b_g := fun l => aC (l := l) v4b
     have v4b_s := fun o l => aE (l := l) v4b o
     have v4b_e := fun o l => aD (o := o) (l := l) v4b
     have v4b_h := fun o => aJ (o := o) v4b
     have v5b_g := fun l => aC (l := l) v5b
     have v5b_s := fun o l => aE (l := l) v5b o
     have v5b_e := fun o l => aD (o := o) (l := l) v5b
     have v5b_h := fun o => aJ (o := o) v5b
     have v6b_g := fun l => aC (l := l) v6b
     have v6b_s := fun o l => aE (l := l) v6b o
     have v6b_e := fun o l => aD (o := o) (l := l) v6b
     have v6b_h := fun o => aJ (o := o) v6b
     have p3b_g := fun l => aC (l := l) p3b
     have p3b_s := fun o l => aE (l := l) p3b o
     have p3b_e := fun o l => aD (o := o) (l := l) p3b
     have p3b_h := fun o => aJ (o := o) p3b
     have hsz : sizes (Cl.parts ⟨r.mark, 0, H.l, G.parted, B.parted⟩) < 2 ^ 30 := by
      have t1 := cU G
      have t2 := cU B
      have t3 := bE H
      simp only [Cl.parts, bB]; omega
     have hss : strss (Cl.parts ⟨r.mark, 0, H.l, G.parted, B.parted⟩) := by
      simp only [Cl.parts, cF]
      exact ⟨((bS H).1 s1).2, cE G s2, cE B s3⟩
     rw [<- hmk] at hrc
     obtain ⟨c, hcc⟩ : ∃ c : Cl, ⟨r.mark, 0, H.l, G.parted, B.parted⟩ = c := ⟨_, rfl⟩
     have q47 : Pure (PC GLs) 47 [.agg [.i r.mark, .i 0, .sl 4 (H.l.map enc), .sl 4 (G.parted.map enc), .sl 4 (B.parted.map enc)]] (.tup [encCl c.nR, .i c.nE]) := by
      rw [<- hcc]; exact h47 _ hsz hss
     rw [hcc] at hrc
     have hgl1 : r.procs.getLast? = some q1 := by rw [f1]; simp
     have hdl1 : r.procs.dropLast = qs1 := by rw [f1]; simp
     have hadd : r.add c = if c.nOk && decide (q1.clauses.length < 32) then some ⟨qs1 ++ [⟨q1.name, q1.arity, q1.clauses ++ [c.normal]⟩], 0⟩ else none := by rw [Rd.add, hgl1, hdl1]
     rw [hadd] at hrc
     simp only [encCl] at q47
     simp -implicitDefEqProofs only [go_sem, p1b, v4b]
     refine dC q47 ?_ ?_
     ·simp [fzs, fzGs, fzG, cY, <- dL]
     rcases hno : c.nOk with _ | _
     ·have e0 : (c.nE == 0) = false := by rw [Cl.nE, hno]; rfl
      have bad : rc = none := by rw [<- hrc, hno]; rfl
      simp -implicitDefEqProofs only [go_sem, p1b_g, v4b_g, v5b_g, v6b_g, e0]
      refine aR hC (h114 false k _ (p1b_g _)) fun x h' hx => ?_
      obtain ⟨rfl, hx⟩ := hx
      rcases hx with ⟨h0, -⟩ | ⟨-, n', rfl⟩
      ·cases h0
      simp -implicitDefEqProofs only [go_sem]
      exact aZ (by have := hk3.1; simp; omega) ⟨hk3.trans (Keep.app _ _ _), by rw [bad]; exact ⟨_, rfl⟩⟩
     have e0 : (c.nE == 0) = true := by rw [Cl.nE, hno]; rfl
     have eR : c.nR = c.normal := by rw [Cl.nR, hno]; rfl
     rw [hno, Bool.true_and] at hrc
     rw [eR]
     have bm1 : bounds (M1.length : Int) (M1.length + 1) = True := by simp [bounds]; omega
     have et1 : (M1 ++ [prV q1 x1]).take (M1.length + 1) = M1 ++ [prV q1 x1] := List.take_of_length_le (by simp)
     have nb1 : Nat.ble (M1.length + 1) (M1.length + 1) = true := cV _
     have gl1 : (M1 ++ [prV q1 x1])[M1.length]? = some (.agg [.str q1.name, .i q1.arity, x1]) := by simp [prV]
     have sl1 : ∀ w : AV, (M1 ++ [prV q1 x1]).set M1.length w = M1 ++ [w] := fun w => by simp
     have p2b := hkB.got (hkg.got p2)
     have hkb : k ≠ b1 := aN p1b p3b (by simp)
     have hkm : k ≠ m1 := aN p1b p2b (by simp)
     have hmb : m1 ≠ b1 := aN p2b p3b (by simp)
     have k2 : ∀ o l, (g3.set b1 o ++ l)[k]? = some (.cells 145 [.vec b1 3 (M1.length + 1), .mp m1, .i r.mark, .i fr1, .i n1]) := fun o l => aW p1b p3b (by simp)
     have k3 : ∀ o y l, (g3.set b1 o ++ l).set k y = (g3.set b1 o).set k y ++ l := fun o y l => cK (by simpa using aH p1b)
     rcases f3 with ⟨rfl, hc0⟩ | ⟨a, rfl⟩
     ·rw [hc0] at hrc
      have d32 : decide (((0 : Nat) : Int) < 32) = true := rfl
      simp -implicitDefEqProofs only [go_sem, p1b_g, v4b_g, v5b_g, v6b_g, p3b_g, e0, bm1, et1, nb1, gl1, List.length_append, List.length_singleton, Nat.reduceAdd, d32]
      refine aR hC (h114 true k _ (p1b_g _)) fun x h' hx => ?_
      obtain ⟨rfl, hx⟩ := hx
      rcases hx with ⟨-, rfl⟩ | ⟨h0, -⟩
      rotate_left
      ·cases h0
      simp -implicitDefEqProofs only [go_sem, List.append_assoc, p1b_g, p3b_g, p3b_s, bm1, et1, nb1, gl1, List.length_append, List.length_singleton, Nat.reduceMul, Nat.reduceAdd, cP]
      refine ⟨by decide, ?_⟩
      rw [sl1]
      simp -implicitDefEqProofs only [go_sem, k2, k3]
      refine ⟨_, _, Wk.refl (by have := hk3.1; simp; omega), gM (by rw [aF hkb.symm]; exact p1b) (kM p3b hk3), ?_⟩
      rw [<- hrc, if_pos (by simp)]
      refine ⟨rfl, ⟨m1, b1, fr1, n1, M1 ++ [prV ⟨q1.name, q1.arity, [c.normal]⟩ (.own (g3.length + 2) 5 [encCl c.normal])], ?_, ?_, .inr ?_, PL.app f4 ⟨⟨_, rfl, .inr ⟨_, rfl⟩⟩, trivial⟩, fun s n a l e => ?_⟩⟩
      ·rw [List.getElem?_append_left (by simpa using aH p1b), List.getElem?_set_self (by simpa using aH p1b), cG]
      ·rw [List.getElem?_append_left (by simpa using aH p2b), aF hkm, aF hmb.symm, p2b, f1]
       simp [Pr.sym]
      ·rw [List.getElem?_append_left (by simpa using aH p3b), aF hkb, List.getElem?_set_self (by simpa using aH p3b)]
       simp [prV, encCl]
      ·simp [prV] at e
       obtain ⟨-, -, rfl, -⟩ := e
       rw [List.getElem?_append_right (by simp)]
       simp
     ·have ga := hla1 (.str q1.name) (.i q1.arity) a (q1.clauses.map encCl) (by rw [f2]; simp [prV])
      by_cases h32 : q1.clauses.length < 32
      ·have d32 : decide ((q1.clauses.length : Int) < 32) = true := decide_eq_true (by omega)
       simp -implicitDefEqProofs only [go_sem, p1b_g, v4b_g, v5b_g, v6b_g, p3b_g, e0, bm1, et1, nb1, gl1, List.length_append, List.length_singleton, Nat.reduceAdd, d32]
       have gab := hkB.got (hkg.got ga)
       have hab : a ≠ b1 := aN gab p3b (by simp)
       have hak : a ≠ k := aN gab p1b (by simp)
       have ham : a ≠ m1 := aN gab p2b (by simp)
       have gab_g := fun l => aC (l := l) gab
       have gab_s := fun o l => aE (l := l) gab o
       have gab_e := fun o l => aD (o := o) (l := l) gab
       have gab_h := fun o => aJ (o := o) gab
       have j1 : ∀ l, (g3.set a .dead ++ l)[k]? = some (.cells 145 [.vec b1 3 (M1.length + 1), .mp m1, .i r.mark, .i fr1, .i n1]) := fun l => aW p1b gab (by simp)
       have j2 : ∀ l, (g3.set a .dead ++ l)[b1]? = some (.buf 60 3 (M1 ++ [prV q1 (.own a 5 (q1.clauses.map encCl))])) := fun l => aW p3b gab (by simp)
       have j3 : ∀ o l, (g3.set a .dead ++ l).set b1 o = (g3.set a .dead).set b1 o ++ l := fun o l => cK (by simpa using aH p3b)
       have j4 : ∀ o l, ((g3.set a .dead).set b1 o ++ l)[k]? = some (.cells 145 [.vec b1 3 (M1.length + 1), .mp m1, .i r.mark, .i fr1, .i n1]) := fun o l => by
        rw [List.getElem?_append_left (by simpa using aH p1b), aF hkb.symm, aF hak]; exact p1b
       have j5 : ∀ o y l, ((g3.set a .dead).set b1 o ++ l).set k y = ((g3.set a .dead).set b1 o).set k y ++ l := fun o y l => cK (by simpa using aH p1b)
       have j6 : ∀ l, (g3.set a .dead ++ l)[g3.length]? = l[0]? := fun l => cM _ _ _ _
       refine aR hC (h114 true k _ (p1b_g _)) fun x h' hx => ?_
       obtain ⟨rfl, hx⟩ := hx
       rcases hx with ⟨-, rfl⟩ | ⟨h0, -⟩
       rotate_left
       ·cases h0
       simp -implicitDefEqProofs only [go_sem, List.append_assoc, p1b_g, p3b_g, gab_g, gab_s, bm1, et1, nb1, gl1, List.length_append, List.length_singleton, Nat.reduceAdd, cP, j1, j2, j3, j4, j5]
       rw [sl1]
       refine ⟨by omega, _, _, Wk.refl (by have := hk3.1; simp; omega), gM (by rw [aF hkb.symm, aF hak]; exact p1b) (kM (by rw [aF hab]; exact p3b) (keep4 gab hk3)), ?_⟩
       rw [<- hrc, if_pos (by simp; omega)]
       refine ⟨rfl, ⟨m1, b1, fr1, n1, M1 ++ [prV ⟨q1.name, q1.arity, q1.clauses ++ [c.normal]⟩ (.own (g3.length + 2) 5 ((q1.clauses ++ [c.normal]).map encCl))], ?_, ?_, .inr ?_, PL.app f4 ⟨⟨_, rfl, .inr ⟨_, rfl⟩⟩, trivial⟩, fun s n a l e => ?_⟩⟩
       ·rw [List.getElem?_append_left (by simpa using aH p1b), List.getElem?_set_self (by simpa using aH p1b), cG]
       ·rw [List.getElem?_append_left (by simpa using aH p2b), aF hkm, aF hmb.symm, aF ham, p2b, f1]
        simp [Pr.sym]
       ·rw [List.getElem?_append_left (by simpa using aH p3b), aF hkb, List.getElem?_set_self (by simpa using aH p3b)]
        simp [prV, encCl]
       ·simp [prV] at e
        obtain ⟨-, -, rfl, -⟩ := e
        rw [List.getElem?_append_right (by simp)]
        simp
      ·have d32 : decide ((q1.clauses.length : Int) < 32) = false := decide_eq_false (by omega)
       simp -implicitDefEqProofs only [go_sem, p1b_g, v4b_g, v5b_g, v6b_g, p3b_g, e0, bm1, et1, nb1, gl1, List.length_append, List.length_singleton, Nat.reduceAdd, d32]
       have bad : rc = none := by rw [<- hrc, if_neg (by simp; omega)]
       refine aR hC (h114 false k _ (p1b_g _)) fun x h' hx => ?_
       obtain ⟨rfl, hx⟩ := hx
       rcases hx with ⟨h0, -⟩ | ⟨-, n', rfl⟩
       ·cases h0
       simp -implicitDefEqProofs only [go_sem]
       exact aZ (by have := hk3.1; simp; omega) ⟨hk3.trans (Keep.app _ _ _), by rw [bad]; exact ⟨_, rfl⟩⟩
    ·have ho : r.open ⟨H.s, H.l.length⟩ = r.begin ⟨H.s, H.l.length⟩ := by
      rw [Rd.open, hgl]
      simp only [Pr.sym, Sym.mk.injEq, ha, and_false, if_false]
     have b1 : (q.name == H.s) = true := by simp [hn]
     have b2 : (q.arity != (H.l.length : Int)) = true := by simp [ha]
     rw [ho] at hrc
     simp -implicitDefEqProofs only [go_sem, b1, b2, Bool.not_true, Bool.not_false, o1, u7, o3, bm, et, nb, gl, List.length_append, List.length_singleton, Nat.reduceAdd]
     refine aR hC (h246 r ⟨H.s, H.l.length⟩ ((bS H).1 s1).1 hl k hp hr0) fun x hq ⟨hkq, hx⟩ => ?_
     have hk1 : Keep RdK h hq := hkp.trans hkq
     have hk1b := hkq
     rcases hbg : r.begin ⟨H.s, H.l.length⟩ with _ | r1
     ·rw [hbg] at hx hrc
      obtain ⟨n', rfl⟩ := hx
      have bad : rc = none := hrc.symm
      simp -implicitDefEqProofs only [go_sem]
      exact aZ hk1.1 ⟨hk1, by rw [bad]; exact ⟨_, rfl⟩⟩
     rw [hbg] at hx hrc
     have hrc : r1.add ⟨r.mark, 0, H.l, G.parted, B.parted⟩ = rc := hrc
     obtain ⟨rfl, hr1⟩ := hx
     have er := lO hbg
     have hmk : r1.mark = r.mark := by rw [er]
     have hne1 : r1.procs ≠ [] := by rw [er]; simp
     have hl1 : r1.procs.length = r.procs.length + 1 := by rw [er]; simp
     have v4 := hkq.get u4 (dB (by decide))
     have v5 := hkq.get u5 (dB (by decide))
     have v6 := hkq.get u6 (dB (by decide))
     obtain ⟨m1, b1, fr1, n1, L1, p1, p2, p3, hPL1, hla1⟩ := hr1.s
     obtain ⟨qs1, q1, M1, x1, f1, f2, f3, f4⟩ := hPL1.last hne1
     have hM1 := f4.len
     have hl1' := congrArg List.length f1
     simp only [List.length_append, List.length_singleton] at hl1'
     have w9 : IntKind.i64.wrap ((M.length : Int) + 1) = (M1.length : Int) := by
      have hl2 := congrArg List.length e1
      simp only [List.length_append, List.length_singleton] at hl2
      rw [aP _ (by omega)]; omega
     have eL1 : L1.length = M1.length + 1 := by rw [f2]; simp
     have hLne1 : L1 ≠ [] := by rw [f2]; simp
     have p3 := p3.resolve_left hLne1
     rw [bZ hLne1, eL1] at p1
     rw [f2] at p3
     clear hk1b
     have p1_g := fun l => aC (l := l) p1
     have p1_s := fun o l => aE (l := l) p1 o
     have p1_e := fun o l => aD (o := o) (l := l) p1
     have p1_h := fun o => aJ (o := o) p1
     have v4_g := fun l => aC (l := l) v4
     have v4_s := fun o l => aE (l := l) v4 o
     have v4_e := fun o l => aD (o := o) (l := l) v4
     have v4_h := fun o => aJ (o := o) v4
     have v5_g := fun l => aC (l := l) v5
     have v5_s := fun o l => aE (l := l) v5 o
     have v5_e := fun o l => aD (o := o) (l := l) v5
     have v5_h := fun o => aJ (o := o) v5
     have v6_g := fun l => aC (l := l) v6
     have v6_s := fun o l => aE (l := l) v6 o
     have v6_e := fun o l => aD (o := o) (l := l) v6
     have v6_h := fun o => aJ (o := o) v6
     simp -implicitDefEqProofs only [go_sem, w9, p1, v4, v5, v6]
     refine aU hC (h129 (GL := GLs) G (by omega) _) fun y g2 ⟨hkg, a1, ha1, hy, hA1⟩ => ?_
     subst hy
     have p1a := hkg.got p1
     have v4a := hkg.got v4
     have v6a := hkg.got v6
     have p1a_g := fun l => aC (l := l) p1a
     have p1a_s := fun o l => aE (l := l) p1a o
     have p1a_e := fun o l => aD (o := o) (l := l) p1a
     have p1a_h := fun o => aJ (o := o) p1a
     have v4a_g := fun l => aC (l := l) v4a
     have v4a_s := fun o l => aE (l := l) v4a o
     have v4a_e := fun o l => aD (o := o) (l := l) v4a
     have v4a_h := fun o => aJ (o := o) v4a
     have v6a_g := fun l => aC (l := l) v6a
     have v6a_s := fun o l => aE (l := l) v6a o
     have v6a_e := fun o l => aD (o := o) (l := l) v6a
     have v6a_h := fun o => aJ (o := o) v6a
     simp -implicitDefEqProofs only [go_sem, p1a, v4a, v6a]
     refine aU hC (h129 (GL := GLs) B (by omega) _) fun y g3 ⟨hkB, a2, ha2, hy, hA2⟩ => ?_
     subst hy
     have hk3 : Keep RdK h g3 := hk1.trans (hkg.of_all.trans hkB.of_all)
     have p1b := hkB.got p1a
     have v4b := hkB.got v4a
     have v5b := hkB.got (hkg.got v5)
     have v6b := hkB.got v6a
     have p3b := hkB.got (hkg.got p3)
     have hr3 := hr1
     clear p1 v4 v5 v6 p1a v4a v6a p1_g p1_s p1_e p1_h v4_g v4_s v4_e v4_h v5_g v5_s v5_e v5_h v6_g v6_s v6_e v6_h p1a_g p1a_s p1a_e p1a_h v4a_g v4a_s v4a_e v4a_h v6a_g v6a_s v6a_e v6a_h
     have p1b_g := fun l => aC (l := l) p1b
     have p1b_s := fun o l => aE (l := l) p1b o
     have p1b_e := fun o l => aD (o := o) (l := l) p1b
     have p1b_h := fun o => aJ (o := o) p1b
     have v4b_g := fun l => aC (l := l) v4b
     have v4b_s := fun o l => aE (l := l) v4b o
     have v4b_e := fun o l => aD (o := o) (l := l) v4b
     have v4b_h := fun o => aJ (o := o) v4b
     have v5b_g := fun l => aC (l := l) v5b
     have v5b_s := fun o l => aE (l := l) v5b o
     have v5b_e := fun o l => aD (o := o) (l := l) v5b
     have v5b_h := fun o => aJ (o := o) v5b
     have v6b_g := fun l => aC (l := l) v6b
     have v6b_s := fun o l => aE (l := l) v6b o
     have v6b_e := fun o l => aD (o := o) (l := l) v6b
     have v6b_h := fun o => aJ (o := o) v6b
     have p3b_g := fun l => aC (l := l) p3b
     have p3b_s := fun o l => aE (l := l) p3b o
     have p3b_e := fun o l => aD (o := o) (l := l) p3b
     have p3b_h := fun o => aJ (o := o) p3b
     have hsz : sizes (Cl.parts ⟨r1.mark, 0, H.l, G.parted, B.parted⟩) < 2 ^ 30 := by
      have t1 := cU G
      have t2 := cU B
      have t3 := bE H
      simp only [Cl.parts, bB]; omega
     have hss : strss (Cl.parts ⟨r1.mark, 0, H.l, G.parted, B.parted⟩) := by
      simp only [Cl.parts, cF]
      exact ⟨((bS H).1 s1).2, cE G s2, cE B s3⟩
     rw [<- hmk] at hrc
     obtain ⟨c, hcc⟩ : ∃ c : Cl, ⟨r1.mark, 0, H.l, G.parted, B.parted⟩ = c := ⟨_, rfl⟩
     have q47 : Pure (PC GLs) 47 [.agg [.i r1.mark, .i 0, .sl 4 (H.l.map enc), .sl 4 (G.parted.map enc), .sl 4 (B.parted.map enc)]] (.tup [encCl c.nR, .i c.nE]) := by
      rw [<- hcc]; exact h47 _ hsz hss
     rw [hcc] at hrc
     have hgl1 : r1.procs.getLast? = some q1 := by rw [f1]; simp
     have hdl1 : r1.procs.dropLast = qs1 := by rw [f1]; simp
     have hadd : r1.add c = if c.nOk && decide (q1.clauses.length < 32) then some ⟨qs1 ++ [⟨q1.name, q1.arity, q1.clauses ++ [c.normal]⟩], 0⟩ else none := by rw [Rd.add, hgl1, hdl1]
     rw [hadd] at hrc
     simp only [encCl] at q47
     simp -implicitDefEqProofs only [go_sem, p1b, v4b]
     refine dC q47 ?_ ?_
     ·simp [fzs, fzGs, fzG, cY, <- dL]
     rcases hno : c.nOk with _ | _
     ·have e0 : (c.nE == 0) = false := by rw [Cl.nE, hno]; rfl
      have bad : rc = none := by rw [<- hrc, hno]; rfl
      simp -implicitDefEqProofs only [go_sem, p1b_g, v4b_g, v5b_g, v6b_g, e0]
      refine aR hC (h114 false k _ (p1b_g _)) fun x h' hx => ?_
      obtain ⟨rfl, hx⟩ := hx
      rcases hx with ⟨h0, -⟩ | ⟨-, n', rfl⟩
      ·cases h0
      simp -implicitDefEqProofs only [go_sem]
      exact aZ (by have := hk3.1; simp; omega) ⟨hk3.trans (Keep.app _ _ _), by rw [bad]; exact ⟨_, rfl⟩⟩
     have e0 : (c.nE == 0) = true := by rw [Cl.nE, hno]; rfl
     have eR : c.nR = c.normal := by rw [Cl.nR, hno]; rfl
     rw [hno, Bool.true_and] at hrc
     rw [eR]
     have bm1 : bounds (M1.length : Int) (M1.length + 1) = True := by simp [bounds]; omega
     have et1 : (M1 ++ [prV q1 x1]).take (M1.length + 1) = M1 ++ [prV q1 x1] := List.take_of_length_le (by simp)
     have nb1 : Nat.ble (M1.length + 1) (M1.length + 1) = true := cV _
     have gl1 : (M1 ++ [prV q1 x1])[M1.length]? = some (.agg [.str q1.name, .i q1.arity, x1]) := by simp [prV]
     have sl1 : ∀ w : AV, (M1 ++ [prV q1 x1]).set M1.length w = M1 ++ [w] := fun w => by simp
     have p2b := hkB.got (hkg.got p2)
     have hkb : k ≠ b1 := aN p1b p3b (by simp)
     have hkm : k ≠ m1 := aN p1b p2b (by simp)
     have hmb : m1 ≠ b1 := aN p2b p3b (by simp)
     have k2 : ∀ o l, (g3.set b1 o ++ l)[k]? = some (.cells 145 [.vec b1 3 (M1.length + 1), .mp m1, .i r1.mark, .i fr1, .i n1]) := fun o l => aW p1b p3b (by simp)
     have k3 : ∀ o y l, (g3.set b1 o ++ l).set k y = (g3.set b1 o).set k y ++ l := fun o y l => cK (by simpa using aH p1b)
     rcases f3 with ⟨rfl, hc0⟩ | ⟨a, rfl⟩
     ·rw [hc0] at hrc
      have d32 : decide (((0 : Nat) : Int) < 32) = true := rfl
      simp -implicitDefEqProofs only [go_sem, p1b_g, v4b_g, v5b_g, v6b_g, p3b_g, e0, bm1, et1, nb1, gl1, List.length_append, List.length_singleton, Nat.reduceAdd, d32]
      refine aR hC (h114 true k _ (p1b_g _)) fun x h' hx => ?_
      obtain ⟨rfl, hx⟩ := hx
      rcases hx with ⟨-, rfl⟩ | ⟨h0, -⟩
      rotate_left
      ·cases h0
      simp -implicitDefEqProofs only [go_sem, List.append_assoc, p1b_g, p3b_g, p3b_s, bm1, et1, nb1, gl1, List.length_append, List.length_singleton, Nat.reduceMul, Nat.reduceAdd, cP]
      refine ⟨by decide, ?_⟩
      rw [sl1]
      simp -implicitDefEqProofs only [go_sem, k2, k3]
      refine ⟨_, _, Wk.refl (by have := hk3.1; simp; omega), gM (by rw [aF hkb.symm]; exact p1b) (kM p3b hk3), ?_⟩
      rw [<- hrc, if_pos (by simp)]
      refine ⟨rfl, ⟨m1, b1, fr1, n1, M1 ++ [prV ⟨q1.name, q1.arity, [c.normal]⟩ (.own (g3.length + 2) 5 [encCl c.normal])], ?_, ?_, .inr ?_, PL.app f4 ⟨⟨_, rfl, .inr ⟨_, rfl⟩⟩, trivial⟩, fun s n a l e => ?_⟩⟩
      ·rw [List.getElem?_append_left (by simpa using aH p1b), List.getElem?_set_self (by simpa using aH p1b), cG]
      ·rw [List.getElem?_append_left (by simpa using aH p2b), aF hkm, aF hmb.symm, p2b, f1]
       simp [Pr.sym]
      ·rw [List.getElem?_append_left (by simpa using aH p3b), aF hkb, List.getElem?_set_self (by simpa using aH p3b)]
       simp [prV, encCl]
      ·simp [prV] at e
       obtain ⟨-, -, rfl, -⟩ := e
       rw [List.getElem?_append_right (by simp)]
       simp
     ·have ga := hla1 (.str q1.name) (.i q1.arity) a (q1.clauses.map encCl) (by rw [f2]; simp [prV])
      by_cases h32 : q1.clauses.length < 32
      ·have d32 : decide ((q1.clauses.length : Int) < 32) = true := decide_eq_true (by omega)
       simp -implicitDefEqProofs only [go_sem, p1b_g, v4b_g, v5b_g, v6b_g, p3b_g, e0, bm1, et1, nb1, gl1, List.length_append, List.length_singleton, Nat.reduceAdd, d32]
       have gab := hkB.got (hkg.got ga)
       have hab : a ≠ b1 := aN gab p3b (by simp)
       have hak : a ≠ k := aN gab p1b (by simp)
       have ham : a ≠ m1 := aN gab p2b (by simp)
       have gab_g := fun l => aC (l := l) gab
       have gab_s := fun o l => aE (l := l) gab o
       have gab_e := fun o l => aD (o := o) (l := l) gab
       have gab_h := fun o => aJ (o := o) gab
       have j1 : ∀ l, (g3.set a .dead ++ l)[k]? = some (.cells 145 [.vec b1 3 (M1.length + 1), .mp m1, .i r1.mark, .i fr1, .i n1]) := fun l => aW p1b gab (by simp)
       have j2 : ∀ l, (g3.set a .dead ++ l)[b1]? = some (.buf 60 3 (M1 ++ [prV q1 (.own a 5 (q1.clauses.map encCl))])) := fun l => aW p3b gab (by simp)
       have j3 : ∀ o l, (g3.set a .dead ++ l).set b1 o = (g3.set a .dead).set b1 o ++ l := fun o l => cK (by simpa using aH p3b)
       have j4 : ∀ o l, ((g3.set a .dead).set b1 o ++ l)[k]? = some (.cells 145 [.vec b1 3 (M1.length + 1), .mp m1, .i r1.mark, .i fr1, .i n1]) := fun o l => by
        rw [List.getElem?_append_left (by simpa using aH p1b), aF hkb.symm, aF hak]; exact p1b
       have j5 : ∀ o y l, ((g3.set a .dead).set b1 o ++ l).set k y = ((g3.set a .dead).set b1 o).set k y ++ l := fun o y l => cK (by simpa using aH p1b)
       have j6 : ∀ l, (g3.set a .dead ++ l)[g3.length]? = l[0]? := fun l => cM _ _ _ _
       refine aR hC (h114 true k _ (p1b_g _)) fun x h' hx => ?_
       obtain ⟨rfl, hx⟩ := hx
       rcases hx with ⟨-, rfl⟩ | ⟨h0, -⟩
       rotate_left
       ·cases h0
       simp -implicitDefEqProofs only [go_sem, List.append_assoc, p1b_g, p3b_g, gab_g, gab_s, bm1, et1, nb1, gl1, List.length_append, List.length_singleton, Nat.reduceAdd, cP, j1, j2, j3, j4, j5]
       rw [sl1]
       refine ⟨by omega, _, _, Wk.refl (by have := hk3.1; simp; omega), gM (by rw [aF hkb.symm, aF hak]; exact p1b) (kM (by rw [aF hab]; exact p3b) (keep4 gab hk3)), ?_⟩
       rw [<- hrc, if_pos (by simp; omega)]
       refine ⟨rfl, ⟨m1, b1, fr1, n1, M1 ++ [prV ⟨q1.name, q1.arity, q1.clauses ++ [c.normal]⟩ (.own (g3.length + 2) 5 ((q1.clauses ++ [c.normal]).map encCl))], ?_, ?_, .inr ?_, PL.app f4 ⟨⟨_, rfl, .inr ⟨_, rfl⟩⟩, trivial⟩, fun s n a l e => ?_⟩⟩
       ·rw [List.getElem?_append_left (by simpa using aH p1b), List.getElem?_set_self (by simpa using aH p1b), cG]
       ·rw [List.getElem?_append_left (by simpa using aH p2b), aF hkm, aF hmb.symm, aF ham, p2b, f1]
        simp [Pr.sym]
       ·rw [List.getElem?_append_left (by simpa using aH p3b), aF hkb, List.getElem?_set_self (by simpa using aH p3b)]
        simp [prV, encCl]
       ·simp [prV] at e
        obtain ⟨-, -, rfl, -⟩ := e
        rw [List.getElem?_append_right (by simp)]
        simp
      ·have d32 : decide ((q1.clauses.length : Int) < 32) = false := decide_eq_false (by omega)
       simp -implicitDefEqProofs only [go_sem, p1b_g, v4b_g, v5b_g, v6b_g, p3b_g, e0, bm1, et1, nb1, gl1, List.length_append, List.length_singleton, Nat.reduceAdd, d32]
       have bad : rc = none := by rw [<- hrc, if_neg (by simp; omega)]
       refine aR hC (h114 false k _ (p1b_g _)) fun x h' hx => ?_
       obtain ⟨rfl, hx⟩ := hx
       rcases hx with ⟨h0, -⟩ | ⟨-, n', rfl⟩
       ·cases h0
       simp -implicitDefEqProofs only [go_sem]
       exact aZ (by have := hk3.1; simp; omega) ⟨hk3.trans (Keep.app _ _ _), by rw [bad]; exact ⟨_, rfl⟩⟩
   ·have ho : r.open ⟨H.s, H.l.length⟩ = r.begin ⟨H.s, H.l.length⟩ := by
     rw [Rd.open, hgl]
     simp only [Pr.sym, Sym.mk.injEq, hn, false_and, if_false]
    have b1 : (q.name == H.s) = false := by simp [hn]
    rw [ho] at hrc
    simp -implicitDefEqProofs only [go_sem, b1, Bool.not_false, Bool.not_true, u7]
    refine aR hC (h246 r ⟨H.s, H.l.length⟩ ((bS H).1 s1).1 hl k hp hr0) fun x hq ⟨hkq, hx⟩ => ?_
    have hk1 : Keep RdK h hq := hkp.trans hkq
    have hk1b := hkq
    rcases hbg : r.begin ⟨H.s, H.l.length⟩ with _ | r1
    ·rw [hbg] at hx hrc
     obtain ⟨n', rfl⟩ := hx
     have bad : rc = none := hrc.symm
     simp -implicitDefEqProofs only [go_sem]
     exact aZ hk1.1 ⟨hk1, by rw [bad]; exact ⟨_, rfl⟩⟩
    rw [hbg] at hx hrc
    have hrc : r1.add ⟨r.mark, 0, H.l, G.parted, B.parted⟩ = rc := hrc
    obtain ⟨rfl, hr1⟩ := hx
    have er := lO hbg
    have hmk : r1.mark = r.mark := by rw [er]
    have hne1 : r1.procs ≠ [] := by rw [er]; simp
    have hl1 : r1.procs.length = r.procs.length + 1 := by rw [er]; simp
    have v4 := hkq.get u4 (dB (by decide))
    have v5 := hkq.get u5 (dB (by decide))
    have v6 := hkq.get u6 (dB (by decide))
    obtain ⟨m1, b1, fr1, n1, L1, p1, p2, p3, hPL1, hla1⟩ := hr1.s
    obtain ⟨qs1, q1, M1, x1, f1, f2, f3, f4⟩ := hPL1.last hne1
    have hM1 := f4.len
    have hl1' := congrArg List.length f1
    simp only [List.length_append, List.length_singleton] at hl1'
    have w9 : IntKind.i64.wrap ((M.length : Int) + 1) = (M1.length : Int) := by
     have hl2 := congrArg List.length e1
     simp only [List.length_append, List.length_singleton] at hl2
     rw [aP _ (by omega)]; omega
    have eL1 : L1.length = M1.length + 1 := by rw [f2]; simp
    have hLne1 : L1 ≠ [] := by rw [f2]; simp
    have p3 := p3.resolve_left hLne1
    rw [bZ hLne1, eL1] at p1
    rw [f2] at p3
    clear hk1b
    have p1_g := fun l => aC (l := l) p1
    have p1_s := fun o l => aE (l := l) p1 o
    have p1_e := fun o l => aD (o := o) (l := l) p1
    have p1_h := fun o => aJ (o := o) p1
    have v4_g := fun l => aC (l := l) v4
    have v4_s := fun o l => aE (l := l) v4 o
    have v4_e := fun o l => aD (o := o) (l := l) v4
    have v4_h := fun o => aJ (o := o) v4
    have v5_g := fun l => aC (l := l) v5
    have v5_s := fun o l => aE (l := l) v5 o
    have v5_e := fun o l => aD (o := o) (l := l) v5
    have v5_h := fun o => aJ (o := o) v5
    have v6_g := fun l => aC (l := l) v6
    have v6_s := fun o l => aE (l := l) v6 o
    have v6_e := fun o l => aD (o := o) (l := l) v6
    have v6_h := fun o => aJ (o := o) v6
    simp -implicitDefEqProofs only [go_sem, w9, p1, v4, v5, v6]
    refine aU hC (h129 (GL := GLs) G (by omega) _) fun y g2 ⟨hkg, a1, ha1, hy, hA1⟩ => ?_
    subst hy
    have p1a := hkg.got p1
    have v4a := hkg.got v4
    have v6a := hkg.got v6
    have p1a_g := fun l => aC (l := l) p1a
    have p1a_s := fun o l => aE (l := l) p1a o
    have p1a_e := fun o l => aD (o := o) (l := l) p1a
    have p1a_h := fun o => aJ (o := o) p1a
    have v4a_g := fun l => aC (l := l) v4a
    have v4a_s := fun o l => aE (l := l) v4a o
    have v4a_e := fun o l => aD (o := o) (l := l) v4a
    have v4a_h := fun o => aJ (o := o) v4a
    have v6a_g := fun l => aC (l := l) v6a
    have v6a_s := fun o l => aE (l := l) v6a o
    have v6a_e := fun o l => aD (o := o) (l := l) v6a
    have v6a_h := fun o => aJ (o := o) v6a
    simp -implicitDefEqProofs only [go_sem, p1a, v4a, v6a]
    refine aU hC (h129 (GL := GLs) B (by omega) _) fun y g3 ⟨hkB, a2, ha2, hy, hA2⟩ => ?_
    subst hy
    have hk3 : Keep RdK h g3 := hk1.trans (hkg.of_all.trans hkB.of_all)
    have p1b := hkB.got p1a
    have v4b := hkB.got v4a
    have v5b := hkB.got (hkg.got v5)
    have v6b := hkB.got v6a
    have p3b := hkB.got (hkg.got p3)
    have hr3 := hr1
    clear p1 v4 v5 v6 p1a v4a v6a p1_g p1_s p1_e p1_h v4_g v4_s v4_e v4_h v5_g v5_s v5_e v5_h v6_g v6_s v6_e v6_h p1a_g p1a_s p1a_e p1a_h v4a_g v4a_s v4a_e v4a_h v6a_g v6a_s v6a_e v6a_h
    have p1b_g := fun l => aC (l := l) p1b
    have p1b_s := fun o l => aE (l := l) p1b o
    have p1b_e := fun o l => aD (o := o) (l := l) p1b
    have p1b_h := fun o => aJ (o := o) p1b
    have v4b_g := fun l => aC (l := l) v4b
    have v4b_s := fun o l => aE (l := l) v4b o
    have v4b_e := fun o l => aD (o := o) (l := l) v4b
    have v4b_h := fun o => aJ (o := o) v4b
    have v5b_g := fun l => aC (l := l) v5b
    have v5b_s := fun o l => aE (l := l) v5b o
    have v5b_e := fun o l => aD (o := o) (l := l) v5b
    have v5b_h := fun o => aJ (o := o) v5b
    have v6b_g := fun l => aC (l := l) v6b
    have v6b_s := fun o l => aE (l := l) v6b o
    have v6b_e := fun o l => aD (o := o) (l := l) v6b
    have v6b_h := fun o => aJ (o := o) v6b
    have p3b_g := fun l => aC (l := l) p3b
    have p3b_s := fun o l => aE (l := l) p3b o
    have p3b_e := fun o l => aD (o := o) (l := l) p3b
    have p3b_h := fun o => aJ (o := o) p3b
    have hsz : sizes (Cl.parts ⟨r1.mark, 0, H.l, G.parted, B.parted⟩) < 2 ^ 30 := by
     have t1 := cU G
     have t2 := cU B
     have t3 := bE H
     simp only [Cl.parts, bB]; omega
    have hss : strss (Cl.parts ⟨r1.mark, 0, H.l, G.parted, B.parted⟩) := by
     simp only [Cl.parts, cF]
     exact ⟨((bS H).1 s1).2, cE G s2, cE B s3⟩
    rw [<- hmk] at hrc
    obtain ⟨c, hcc⟩ : ∃ c : Cl, ⟨r1.mark, 0, H.l, G.parted, B.parted⟩ = c := ⟨_, rfl⟩
    have q47 : Pure (PC GLs) 47 [.agg [.i r1.mark, .i 0, .sl 4 (H.l.map enc), .sl 4 (G.parted.map enc), .sl 4 (B.parted.map enc)]] (.tup [encCl c.nR, .i c.nE]) := by
     rw [<- hcc]; exact h47 _ hsz hss
    rw [hcc] at hrc
    have hgl1 : r1.procs.getLast? = some q1 := by rw [f1]; simp
    have hdl1 : r1.procs.dropLast = qs1 := by rw [f1]; simp
    have hadd : r1.add c = if c.nOk && decide (q1.clauses.length < 32) then some ⟨qs1 ++ [⟨q1.name, q1.arity, q1.clauses ++ [c.normal]⟩], 0⟩ else none := by rw [Rd.add, hgl1, hdl1]
    rw [hadd] at hrc
    simp only [encCl] at q47
    simp -implicitDefEqProofs only [go_sem, p1b, v4b]
    refine dC q47 ?_ ?_
    ·simp [fzs, fzGs, fzG, cY, <- dL]
    rcases hno : c.nOk with _ | _
    ·have e0 : (c.nE == 0) = false := by rw [Cl.nE, hno]; rfl
     have bad : rc = none := by rw [<- hrc, hno]; rfl
     simp -implicitDefEqProofs only [go_sem, p1b_g, v4b_g, v5b_g, v6b_g, e0]
     refine aR hC (h114 false k _ (p1b_g _)) fun x h' hx => ?_
     obtain ⟨rfl, hx⟩ := hx
     rcases hx with ⟨h0, -⟩ | ⟨-, n', rfl⟩
     ·cases h0
     simp -implicitDefEqProofs only [go_sem]
     exact aZ (by have := hk3.1; simp; omega) ⟨hk3.trans (Keep.app _ _ _), by rw [bad]; exact ⟨_, rfl⟩⟩
    have e0 : (c.nE == 0) = true := by rw [Cl.nE, hno]; rfl
    have eR : c.nR = c.normal := by rw [Cl.nR, hno]; rfl
    rw [hno, Bool.true_and] at hrc
    rw [eR]
    have bm1 : bounds (M1.length : Int) (M1.length + 1) = True := by simp [bounds]; omega
    have et1 : (M1 ++ [prV q1 x1]).take (M1.length + 1) = M1 ++ [prV q1 x1] := List.take_of_length_le (by simp)
    have nb1 : Nat.ble (M1.length + 1) (M1.length + 1) = true := cV _
    have gl1 : (M1 ++ [prV q1 x1])[M1.length]? = some (.agg [.str q1.name, .i q1.arity, x1]) := by simp [prV]
    have sl1 : ∀ w : AV, (M1 ++ [prV q1 x1]).set M1.length w = M1 ++ [w] := fun w => by simp
    have p2b := hkB.got (hkg.got p2)
    have hkb : k ≠ b1 := aN p1b p3b (by simp)
    have hkm : k ≠ m1 := aN p1b p2b (by simp)
    have hmb : m1 ≠ b1 := aN p2b p3b (by simp)
    have k2 : ∀ o l, (g3.set b1 o ++ l)[k]? = some (.cells 145 [.vec b1 3 (M1.length + 1), .mp m1, .i r1.mark, .i fr1, .i n1]) := fun o l => aW p1b p3b (by simp)
    have k3 : ∀ o y l, (g3.set b1 o ++ l).set k y = (g3.set b1 o).set k y ++ l := fun o y l => cK (by simpa using aH p1b)
    rcases f3 with ⟨rfl, hc0⟩ | ⟨a, rfl⟩
    ·rw [hc0] at hrc
     have d32 : decide (((0 : Nat) : Int) < 32) = true := rfl
     simp -implicitDefEqProofs only [go_sem, p1b_g, v4b_g, v5b_g, v6b_g, p3b_g, e0, bm1, et1, nb1, gl1, List.length_append, List.length_singleton, Nat.reduceAdd, d32]
     refine aR hC (h114 true k _ (p1b_g _)) fun x h' hx => ?_
     obtain ⟨rfl, hx⟩ := hx
     rcases hx with ⟨-, rfl⟩ | ⟨h0, -⟩
     rotate_left
     ·cases h0
     simp -implicitDefEqProofs only [go_sem, List.append_assoc, p1b_g, p3b_g, p3b_s, bm1, et1, nb1, gl1, List.length_append, List.length_singleton, Nat.reduceMul, Nat.reduceAdd, cP]
     refine ⟨by decide, ?_⟩
     rw [sl1]
     simp -implicitDefEqProofs only [go_sem, k2, k3]
     refine ⟨_, _, Wk.refl (by have := hk3.1; simp; omega), gM (by rw [aF hkb.symm]; exact p1b) (kM p3b hk3), ?_⟩
     rw [<- hrc, if_pos (by simp)]
     refine ⟨rfl, ⟨m1, b1, fr1, n1, M1 ++ [prV ⟨q1.name, q1.arity, [c.normal]⟩ (.own (g3.length + 2) 5 [encCl c.normal])], ?_, ?_, .inr ?_, PL.app f4 ⟨⟨_, rfl, .inr ⟨_, rfl⟩⟩, trivial⟩, fun s n a l e => ?_⟩⟩
     ·rw [List.getElem?_append_left (by simpa using aH p1b), List.getElem?_set_self (by simpa using aH p1b), cG]
     ·rw [List.getElem?_append_left (by simpa using aH p2b), aF hkm, aF hmb.symm, p2b, f1]
      simp [Pr.sym]
     ·rw [List.getElem?_append_left (by simpa using aH p3b), aF hkb, List.getElem?_set_self (by simpa using aH p3b)]
      simp [prV, encCl]
     ·simp [prV] at e
      obtain ⟨-, -, rfl, -⟩ := e
      rw [List.getElem?_append_right (by simp)]
      simp
    ·have ga := hla1 (.str q1.name) (.i q1.arity) a (q1.clauses.map encCl) (by rw [f2]; simp [prV])
     by_cases h32 : q1.clauses.length < 32
     ·have d32 : decide ((q1.clauses.length : Int) < 32) = true := decide_eq_true (by omega)
      simp -implicitDefEqProofs only [go_sem, p1b_g, v4b_g, v5b_g, v6b_g, p3b_g, e0, bm1, et1, nb1, gl1, List.length_append, List.length_singleton, Nat.reduceAdd, d32]
      have gab := hkB.got (hkg.got ga)
      have hab : a ≠ b1 := aN gab p3b (by simp)
      have hak : a ≠ k := aN gab p1b (by simp)
      have ham : a ≠ m1 := aN gab p2b (by simp)
      have gab_g := fun l => aC (l := l) gab
      have gab_s := fun o l => aE (l := l) gab o
      have gab_e := fun o l => aD (o := o) (l := l) gab
      have gab_h := fun o => aJ (o := o) gab
      have j1 : ∀ l, (g3.set a .dead ++ l)[k]? = some (.cells 145 [.vec b1 3 (M1.length + 1), .mp m1, .i r1.mark, .i fr1, .i n1]) := fun l => aW p1b gab (by simp)
      have j2 : ∀ l, (g3.set a .dead ++ l)[b1]? = some (.buf 60 3 (M1 ++ [prV q1 (.own a 5 (q1.clauses.map encCl))])) := fun l => aW p3b gab (by simp)
      have j3 : ∀ o l, (g3.set a .dead ++ l).set b1 o = (g3.set a .dead).set b1 o ++ l := fun o l => cK (by simpa using aH p3b)
      have j4 : ∀ o l, ((g3.set a .dead).set b1 o ++ l)[k]? = some (.cells 145 [.vec b1 3 (M1.length + 1), .mp m1, .i r1.mark, .i fr1, .i n1]) := fun o l => by
       rw [List.getElem?_append_left (by simpa using aH p1b), aF hkb.symm, aF hak]; exact p1b
      have j5 : ∀ o y l, ((g3.set a .dead).set b1 o ++ l).set k y = ((g3.set a .dead).set b1 o).set k y ++ l := fun o y l => cK (by simpa using aH p1b)
      have j6 : ∀ l, (g3.set a .dead ++ l)[g3.length]? = l[0]? := fun l => cM _ _ _ _
      refine aR hC (h114 true k _ (p1b_g _)) fun x h' hx => ?_
      obtain ⟨rfl, hx⟩ := hx
      rcases hx with ⟨-, rfl⟩ | ⟨h0, -⟩
      rotate_left
      ·cases h0
      simp -implicitDefEqProofs only [go_sem, List.append_assoc, p1b_g, p3b_g, gab_g, gab_s, bm1, et1, nb1, gl1, List.length_append, List.length_singleton, Nat.reduceAdd, cP, j1, j2, j3, j4, j5]
      rw [sl1]
      refine ⟨by omega, _, _, Wk.refl (by have := hk3.1; simp; omega), gM (by rw [aF hkb.symm, aF hak]; exact p1b) (kM (by rw [aF hab]; exact p3b) (keep4 gab hk3)), ?_⟩
      rw [<- hrc, if_pos (by simp; omega)]
      refine ⟨rfl, ⟨m1, b1, fr1, n1, M1 ++ [prV ⟨q1.name, q1.arity, q1.clauses ++ [c.normal]⟩ (.own (g3.length + 2) 5 ((q1.clauses ++ [c.normal]).map encCl))], ?_, ?_, .inr ?_, PL.app f4 ⟨⟨_, rfl, .inr ⟨_, rfl⟩⟩, trivial⟩, fun s n a l e => ?_⟩⟩
      ·rw [List.getElem?_append_left (by simpa using aH p1b), List.getElem?_set_self (by simpa using aH p1b), cG]
      ·rw [List.getElem?_append_left (by simpa using aH p2b), aF hkm, aF hmb.symm, aF ham, p2b, f1]
       simp [Pr.sym]
      ·rw [List.getElem?_append_left (by simpa using aH p3b), aF hkb, List.getElem?_set_self (by simpa using aH p3b)]
       simp [prV, encCl]
      ·simp [prV] at e
       obtain ⟨-, -, rfl, -⟩ := e
       rw [List.getElem?_append_right (by simp)]
       simp
     ·have d32 : decide ((q1.clauses.length : Int) < 32) = false := decide_eq_false (by omega)
      simp -implicitDefEqProofs only [go_sem, p1b_g, v4b_g, v5b_g, v6b_g, p3b_g, e0, bm1, et1, nb1, gl1, List.length_append, List.length_singleton, Nat.reduceAdd, d32]
      have bad : rc = none := by rw [<- hrc, if_neg (by simp; omega)]
      refine aR hC (h114 false k _ (p1b_g _)) fun x h' hx => ?_
      obtain ⟨rfl, hx⟩ := hx
      rcases hx with ⟨h0, -⟩ | ⟨-, n', rfl⟩
      ·cases h0
      simp -implicitDefEqProofs only [go_sem]
      exact aZ (by have := hk3.1; simp; omega) ⟨hk3.trans (Keep.app _ _ _), by rw [bad]; exact ⟨_, rfl⟩⟩
theorem h113 (r : Rd) (t : Tm) (ht : t.size < 2 ^ 27) (hs : t.strs) (hl : r.procs.length < 2 ^ 40) (k : Nat) (h : List AObj) (hr : RdAt r k h) :
  AC Tryz.prog GLs (.fn 113) [.ref k 0, enc t] h fun x h' => Keep RdK h h' /\ match r.read t with
   | some r' => x = .val (.tup []) /\ RdAt r' k h'
   | none => ∃ n, x = .panic (wrongV n) := by
 obtain ⟨m, b, fr, n, L, o1, o2, o3, hPL, hla⟩ := hr.s
 have q1 := h190 (GL := GLs) t otherB
 have q2 := h190 (GL := GLs) t altB
 have q3 := h182 (GL := GLs) t neckB 1
 have hrd : r.read t = if (t.isAtom otherB || t.isAtom altB) = true then (if (r.mark == 0) = true then some ⟨r.procs, if t.s = altB then 2 else 1⟩ else none) else if t.isFun neckB 1 = true then r.decl t.at0 else r.clause t := rfl
 refine k113.call (by simp) ?_
 have o1_g := fun l => aC (l := l) o1
 have o1_s := fun o l => aE (l := l) o1 o
 have o1_e := fun o l => aD (o := o) (l := l) o1
 have o1_h := fun o => aJ (o := o) o1
 simp -implicitDefEqProofs only [go_sem, c113, r113]
 refine aG hC q1 ?_
 by_cases hoa : (t.isAtom otherB || t.isAtom altB) = true
 ·rw [if_pos hoa] at hrd
  have hkm : k ≠ m := aN o1 o2 (by simp)
  rcases ho : t.isAtom otherB with _ | _
  simp -implicitDefEqProofs only [go_sem]
  refine aG hC q2 ?_
  have ha : t.isAtom altB = true := by rw [ho] at hoa; simpa using hoa
  rw [ha]
  all_goals
   rcases hm : (r.mark == 0) with _ | _
   ·have bad : r.read t = none := by rw [hrd, hm]; rfl
    simp -implicitDefEqProofs only [go_sem, o1_g, hm]
    refine aR hC (h114 false k _ (o1_g _)) fun x h' hx => ?_
    obtain ⟨rfl, hx⟩ := hx
    rcases hx with ⟨h0, -⟩ | ⟨-, n', rfl⟩
    ·cases h0
    simp -implicitDefEqProofs only [go_sem]
    exact aZ (by simp) ⟨Keep.app _ _ _, by rw [bad]; exact ⟨_, rfl⟩⟩
   rw [hm, if_pos rfl] at hrd
   simp -implicitDefEqProofs only [go_sem, o1_g, hm]
   refine aR hC (h114 true k _ (o1_g _)) fun x h' hx => ?_
   obtain ⟨rfl, hx⟩ := hx
   rcases hx with ⟨-, rfl⟩ | ⟨h0, -⟩
   rotate_left
   ·cases h0
   have w1 : ∀ X Y l, (h.set k X ++ l).set k Y = h.set k Y ++ l := fun X Y l => by rw [cK (by simpa using aH o1), List.set_set]
   have w2 : ∀ Y l, (h.set k Y ++ l)[k]? = some Y := fun Y l => by rw [List.getElem?_append_left (by simpa using aH o1), List.getElem?_set_self (aH o1)]
   have fin1 : ∀ mk : Int, (if t.s = altB then 2 else 1) = mk -> ∀ l, Keep RdK h (h.set k (.cells 145 [vecA b 3 L, .mp m, .i mk, .i n, .i n]) ++ l) /\ RdAt ⟨r.procs, if t.s = altB then 2 else 1⟩ k (h.set k (.cells 145 [vecA b 3 L, .mp m, .i mk, .i n, .i n]) ++ l) := fun mk e l => by
    refine ⟨gM o1 (Keep.refl _ _), ⟨m, b, n, n, L, ?_, ?_, ?_, hPL, fun s n a l' e' => ?_⟩⟩
    ·rw [w2, e]
    ·exact aC (by rw [aF hkm]; exact o2)
    ·refine o3.imp id fun o3 => aC ?_
     rw [aF (aN o1 o3 (by simp))]; exact o3
    ·have := hla s n a l' e'
     refine aC ?_
     rw [aF (aN o1 this (by simp))]; exact this
   rw [hrd]
   rcases he : (t.s == altB) with _ | _
   ·have e1 : (if t.s = altB then (2 : Int) else 1) = 1 := if_neg (by simpa using he)
    simp -implicitDefEqProofs only [go_sem, cM, o1_g, o1_s, o1_e, w1, he]
    exact ⟨_, _, Wk.refl (by simp), (fin1 _ e1 _).1, rfl, (fin1 _ e1 _).2⟩
   ·have e1 : (if t.s = altB then (2 : Int) else 1) = 2 := if_pos (by simpa using he)
    simp -implicitDefEqProofs only [go_sem, cM, o1_g, o1_s, o1_e, w1, he]
    exact ⟨_, _, Wk.refl (by simp), (fin1 _ e1 _).1, rfl, (fin1 _ e1 _).2⟩
 ·rw [if_neg hoa] at hrd
  simp only [Bool.or_eq_true, not_or, Bool.not_eq_true] at hoa
  rw [hoa.1]
  simp -implicitDefEqProofs only [go_sem]
  refine aG hC q2 ?_
  rw [hoa.2]
  simp -implicitDefEqProofs only [go_sem]
  refine aG hC q3 ?_
  rcases hf : t.isFun neckB 1 with _ | _
  ·rw [if_neg (by rw [hf]; simp)] at hrd
   simp -implicitDefEqProofs only [go_sem]
   refine aR hC (h196 r t ht hs hl k _ (hr.app _)) fun x h' ⟨hk, hx⟩ => ?_
   have hk' : Keep RdK h h' := Keep.left hk
   rw [hrd]
   rcases hb : r.clause t with _ | r'
   ·rw [hb] at hx
    obtain ⟨n', rfl⟩ := hx
    simp -implicitDefEqProofs only [go_sem]
    exact aZ hk'.1 ⟨hk', _, rfl⟩
   ·rw [hb] at hx
    obtain ⟨rfl, hr'⟩ := hx
    simp -implicitDefEqProofs only [go_sem]
    exact ⟨_, _, Wk.refl hk'.1, hk', rfl, hr'⟩
  ·rw [if_pos hf] at hrd
   obtain ⟨-, hl2⟩ := dH hf
   rcases ht' : t.l with _ | ⟨u, _ | ⟨v, rest⟩⟩
   ·rw [ht'] at hl2; simp at hl2
   ·have a0 : t.at0 = u := by rw [Tm.at0, ht']; rfl
    have hu : u.strs := bJ ((bS t).1 hs).2 _ (by rw [ht']; simp)
    have bnd01 : bounds 0 1 = True := by simp [bounds]
    rw [a0] at hrd
    simp -implicitDefEqProofs only [go_sem, bnd01, Nat.reduceAdd, List.getD_cons_zero, gV]
    refine aR hC (h195 r u hu hl k _ (hr.app _)) fun x h' ⟨hk, hx⟩ => ?_
    have hk' : Keep RdK h h' := Keep.left hk
    rw [hrd]
    rcases hb : r.decl u with _ | r'
    ·rw [hb] at hx
     obtain ⟨n', rfl⟩ := hx
     simp -implicitDefEqProofs only [go_sem]
     exact aZ hk'.1 ⟨hk', _, rfl⟩
    ·rw [hb] at hx
     obtain ⟨rfl, hr'⟩ := hx
     simp -implicitDefEqProofs only [go_sem]
     exact ⟨_, _, Wk.refl hk'.1, hk', rfl, hr'⟩
   ·rw [ht'] at hl2; simp at hl2; omega
end Go.Rip
namespace Go.Rip
open Go Go.Proofs
set_option maxRecDepth 100000
def da29 : List ACode := [.region [E1 2 (.alloc 37 [.v (.slice none 0 0)]), E1 3 (.alloc 3 [.v (.int .i64 0)]), E1 4 (.alloc 39 [.v (.int .i64 0)])], RG [MV 9 T0, E1 10 (.call 110 [T9, .c (.fn (.func 111) [] [])]), MV 5 T10] (RG [MV 11 T5, E1 12 (.bin .geq .no T11 (CI 0))] (.cond T12 (RG [E1 13 (.build [.v (.slice none 0 0)] []), MV 14 T5, E0 (.store 1 T2 T13), E0 (.store 1 T3 T14), E0 (.store 1 T4 (CI 3))] .ret) .skip))]
def de29 : List AEnt := [E1 15 (.mkFunc 112 [] [T2, T3, T4])]
def c29 : ACode :=
 RG [E1 16 .mkMap, E1 17 (.build [.v (.slice none 0 0), .v (.map none), .v (.int .i64 0), .v (.int .i64 0), .v (.int .i64 0)] [(1, 1, T16)]), E1 18 (.box 145 T17), MV 6 T18] (.seq (RG [MV 19 T0, E1 20 (.len .sl T19), MV 21 (CI 0)] (.block 0 (.loop (RG [E1 22 (.bin .lss .no T21 T20)] (.seq (.cond T22 .skip (.exit 0)) (.seq (.block 1 (RG [MV 23 T21, E1 24 (IA 4 T19 T21), E1 25 (LT 4 T24), E1 8 (.alloc 24 [.v (.int .i64 0), .v (.int .i64 0), .str [], .v (.slice none 0 0)]), MV 7 T23, E0 (.store 4 T8 T25)] (RG [MV 26 T6, MV 27 T7, E1 28 (.nilCheck T26), E1 29 (FA 4 T28), E0 (.store 1 T29 T27)] (.region [MV 30 T6, E1 31 (LT 4 T8), E1 32 (.call 113 [T30, T31])])))) (.region [E1 33 (.bin .add .no T21 (CI 1)), MV 21 T33]))))))) (RG [MV 34 T6, MV 35 T6, E1 36 (.nilCheck T35), E1 37 (FA 3 T36), E1 38 (LD T37), E1 39 (.nilCheck T34), E1 40 (FA 4 T39), E0 (.store 1 T40 T38)] (RG [MV 41 T6, MV 42 T6, E1 43 (.nilCheck T42), E1 44 (FA 2 T43), E1 45 (LD T44), E1 46 (.bin .eql .no T45 (CI 0)),
  E1 47 (.call 114 [T41, T46])] (.seq (RG [MV 48 T6, E1 49 (.nilCheck T48), E1 50 (FA 0 T49), E1 51 (LT 1 T50), E1 52 (.call 32 [T51]), E1 53 (.bin .neq .no T52 (CI 0))] (.cond T53 (RG [E1 54 (.build [.v (.slice none 0 0)] []), E0 (.store 1 T2 T54), E0 (.store 1 T3 (CI 0)), E0 (.store 1 T4 (CI 5))] .ret) .skip)) (RG [MV 55 T6, E1 56 (.nilCheck T55), E1 57 (FA 0 T56), E1 58 (LT 1 T57), E0 (.store 1 T2 T58), E0 (.store 1 T3 (CI 0)), E0 (.store 1 T4 (CI 0))] .ret)))))
def r29 : List ARet := [.cell 2 true 1, .cell 3 false 1, .cell 4 false 1]
def c112 : ACode :=
 RG [MV 7 T3, E1 8 (.bin .neq .nil T7 (.c (.v (.nilIface))))] (.cond T8 (RG [MV 10 T3, E1 11 (.tyAssert 141 (.agg [.v (.int .i64 0), .v (.int .i64 0)]) true T10), MV 9 T11, E1 12 (.extract T9 0), E1 13 (.extract T9 1), E1 4 (.alloc 141 [.v (.int .i64 0), .v (.int .i64 0)]), E0 (.store 2 T4 T12), MV 5 T13] (.seq (RG [MV 14 T5, E1 15 (.un .not T14)] (.cond T15 (.region [MV 16 T3, E0 (.panic T16)]) .skip)) (.region [E1 17 (.build [.v (.slice none 0 0)] []), E1 18 (FA 0 T4), E1 19 (LD T18), E1 20 (FA 1 T4), E1 21 (LD T20), E0 (.store 1 T0 T17), E0 (.chk (some 21) (LD T20)), E0 (.chk (some 19) (LD T18)), E0 (.store 1 T1 T19), E0 (.chk (some 21) (LD T20)), E0 (.store 1 T2 T21)]))) .skip)
theorem D29 : mkD Tryz.prog 29 = some ⟨da29, de29, 15, c29, r29, 59⟩ := by kernel_rfl
theorem K112 : mkK Tryz.prog 112 = some (6, 3, c112, 22) := by kernel_rfl
end Go.Rip
namespace Go.Rip
open Go Go.Proofs
def PrFit (q : Pr) : Prop := q.name.length <= 32 /\ q.clauses.length <= 32 /\ ∀ c ∈ q.clauses, sizes c.parts < 2 ^ 30 /\ strss c.parts
def RdFit (r : Rd) : Prop := r.procs.length <= 64 /\ ∀ q ∈ r.procs, PrFit q
theorem jO {s : List UInt8} (h : nameOk s = true) : s.length <= 32 := by
 simp only [nameOk, Bool.and_eq_true, decide_eq_true_eq] at h
 exact h.2.1
theorem lQ {r r' : Rd} {s : Sym} (h : RdFit r) (e : r.begin s = some r') : RdFit r' := by
 rw [Rd.begin] at e
 split at e
 ·rename_i hc
  simp only [Bool.and_eq_true, decide_eq_true_eq] at hc
  cases e
  refine ⟨by simp; omega, fun q hq => ?_⟩
  rcases List.mem_append.1 hq with hq | hq
  ·exact h.2 q hq
  ·rw [List.mem_singleton.1 hq]
   exact ⟨jO hc.2.2.2.1, by simp, fun c hc => by cases hc⟩
 ·cases e
theorem vS {c : Cl} (hn : c.nOk = true) (hs : strss c.parts) : sizes c.normal.parts < 2 ^ 30 /\ strss c.normal.parts := by
 rw [Cl.normal, rE, wV]
 refine ⟨?_, kY fun x hx => vB _ _ (bJ hs x hx)⟩
 have h1 := qE (idx0 (varsOf c.parts)) c.parts
 simp only [Cl.nOk, Cl.shaped, Bool.and_eq_true, Bool.not_eq_true', decide_eq_false_iff_not] at hn
 omega
theorem open_fit {r r' : Rd} {s : Sym} (h : RdFit r) (e : r.open s = some r') : RdFit r' := by
 rw [Rd.open] at e
 split at e
 ·split at e
  ·cases e; exact h
  ·exact lQ h e
 ·exact lQ h e
theorem add_fit {r r' : Rd} {c : Cl} (h : RdFit r) (hs : strss c.parts) (e : r.add c = some r') : RdFit r' := by
 rw [Rd.add] at e
 split at e
 ·rename_i q hq
  split at e
  ·rename_i hc
   simp only [Bool.and_eq_true, decide_eq_true_eq] at hc
   cases e
   have hqm := List.mem_of_getLast? hq
   have hq0 := h.2 q hqm
   have hl : 0 < r.procs.length := List.length_pos_of_mem hqm
   refine ⟨by have := h.1; simp; omega, fun x hx => ?_⟩
   rcases List.mem_append.1 hx with hx | hx
   ·exact h.2 x ((List.dropLast_sublist r.procs).subset hx)
   ·rw [List.mem_singleton.1 hx]
    refine ⟨hq0.1, by simp; omega, fun d hd => ?_⟩
    rcases List.mem_append.1 hd with hd | hd
    ·exact hq0.2.2 d hd
    ·rw [List.mem_singleton.1 hd]; exact vS hc.1 hs
  ·cases e
 ·cases e
theorem uS {r r' : Rd} {t : Tm} (h : RdFit r) (ht : t.strs) (e : r.read t = some r') : RdFit r' := by
 rw [Rd.read] at e
 split at e
 ·split at e
  ·cases e; exact h
  ·cases e
 ·split at e
  ·rw [Rd.decl] at e
   split at e
   ·exact lQ h e
   ·cases e
  ·rw [Rd.clause] at e
   split at e
   ·rw [Option.bind_eq_some_iff] at e
    obtain ⟨r1, e1, e2⟩ := e
    obtain ⟨s1, s2, s3⟩ := oZ ht
    refine add_fit (open_fit h e1) ?_ e2
    simp only [Cl.parts, cF]
    exact ⟨((bS _).1 s1).2, cE _ s2, cE _ s3⟩
   ·cases e
theorem fit_fits {r : Rd} (h : RdFit r) : Pg.fits ⟨r.procs⟩ :=
 ⟨by have := h.1; simp only; omega, fun q hq => by have := (h.2 q hq).1; omega, fun q hq => by have := (h.2 q hq).2.1; omega, fun q hq c hc => (h.2 q hq).2.2 c hc⟩
theorem vJ {l : List Tm} {j : Nat} (hj : j < l.length) (r : Rd) : readL (l.take (j + 1)) r = (readL (l.take j) r).bind fun r' => r'.read l[j] := by
 rw [List.take_succ_eq_append_getElem hj, fN]
 congr 1
 funext r'
 rw [readL]
 cases r'.read l[j] <;> rfl
theorem wR {l : List Tm} {j : Nat} {r : Rd} (h : readL (l.take j) r = none) : readL l r = none := by
 rw [<- List.take_append_drop j l, fN, h]; rfl
theorem RdAt.at {r : Rd} {k : Nat} {h : List AObj} {p kn mk fr : AV} {n n' : Int} (hr : RdAt r k h) (o : h[k]? = some (.cells 145 [p, kn, mk, fr, .i n])) : RdAt r k (h.set k (.cells 145 [p, kn, mk, fr, .i n'])) := by
 obtain ⟨m, b, fr', n0, L, o1, o2, o3, hp, hl⟩ := hr.s
 rw [o1] at o
 cases o
 refine ⟨⟨m, b, fr', n', L, aJ o1, ?_, ?_, hp, fun s n a l' e => ?_⟩⟩
 ·rw [aF (aN o1 o2 (by simp))]; exact o2
 ·refine o3.imp id fun o3 => ?_
  rw [aF (aN o1 o3 (by simp))]; exact o3
 ·have := hl s n a l' e
  rw [aF (aN o1 this (by simp))]; exact this
theorem PX.wd {q : Pr} {x : AV} (h : PX q x) : Wd (prV q x) (encPr q) := by
 rcases h with ⟨rfl, hc⟩ | ⟨a, rfl⟩
 ·rw [encPr, hc]
  exact Wd.agg ⟨Wd.rfl _, Wd.rfl _, Wd.nil, trivial⟩
 ·exact Wd.agg ⟨Wd.rfl _, Wd.rfl _, Wd.fz (Wds.rfl _), trivial⟩
theorem PL.wds : ∀ {ps : List Pr} {L : List AV}, PL ps L -> Wds L (ps.map encPr)
 | [], [], _ => trivial
 | _ :: _, _ :: _, h => by
  obtain ⟨⟨x, rfl, hx⟩, h2⟩ := h
  exact ⟨hx.wd, PL.wds h2⟩
end Go.Rip
namespace Go.Rip
open Go Go.Proofs
set_option maxRecDepth 100000
variable {GL : Glob}
attribute [local irreducible] Pure
theorem h110v (l : List Tm) (hl : l.length < 2 ^ 30) (k : Nat) (h : List AObj) (hk : h[k]? = some (.buf 24 4 (l.map enc))) :
  Gives (PC GL) 110 [.vec k 4 l.length, .fn (.func 208) [] []] h fun y h' => h' = h /\ ((y = .i (-1) /\ l.any Tm.isT = false) ∨ ∃ i : Nat, ∃ hi : i < l.length, y = .i i /\ (l.take i).any Tm.isT = false /\ l[i].isT = true) := by
 refine k110.gives (by simp) ?_
 simp -implicitDefEqProofs only [go_sem, c110, r110]
 refine bH hC (fun j (_ : Unit) => [(8, .i j), (7, .i l.length), (0, .vec k 4 l.length), (1, .fn (.func 208) [] [])]) (fun j _ h' => h' = h /\ (l.take j).any Tm.isT = false) l.length ?_ fun j _ h' hj ⟨e1, hI⟩ => ?_
 ·exact ⟨(), _, Wk.pick (Nat.le_refl _) (by simp [go_sem]), rfl, rfl⟩
 subst e1
 simp -implicitDefEqProofs only [go_sem]
 refine aK (fun hlt => ?_) (fun hlt => ?_)
 ·have hlt := aM hlt
  have g1 := fO hlt Tm.isT
  have w5 : IntKind.i64.wrap ((j : Int) + 1) = (j : Int) + 1 := aP _ (by omega)
  have et : (l.map enc).take l.length = l.map enc := List.take_of_length_le (by simp)
  have gx : (l.map enc)[j]? = some (enc l[j]) := by simp [hlt]
  simp -implicitDefEqProofs only [go_sem, hlt, hk, cV, List.length_map, et, bnd hlt, gx]
  refine aG hC (h208 l[j]) ?_
  simp -implicitDefEqProofs only [go_sem]
  refine aK (fun hx => ?_) (fun hx => ?_)
  ·simp -implicitDefEqProofs only [go_sem, hx]
   exact aY (Nat.le_refl _) ⟨rfl, .inr ⟨j, hlt, rfl, hI, hx⟩⟩
  ·simp -implicitDefEqProofs only [go_sem, hx]
   exact ⟨(), _, Wk.pick (Nat.le_refl _) (by simp [go_sem, w5]), rfl, by rw [g1, hI, hx]; rfl⟩
 ·have hge := aL hlt
  rw [aT hge] at hI
  simp -implicitDefEqProofs only [go_sem, hlt]
  exact aY (Nat.le_refl _) ⟨rfl, .inl ⟨rfl, hI⟩⟩
def DelAt (l : List Tm) (j i : Nat) (L : List Tm) : Prop := i < j /\ j <= l.length /\ L.length = l.length /\ L.take i = noT (l.take j) /\ L.drop j = l.drop j
theorem DelAt.skip {l L : List Tm} {i j : Nat} (h : DelAt l j i L) (hj : j < l.length) (ht : l[j].isT = true) : DelAt l (j + 1) i L := by
 obtain ⟨h1, h2, h3, h4, h5⟩ := h
 refine ⟨by omega, by omega, h3, ?_, ?_⟩
 ·rw [h4, List.take_succ_eq_append_getElem hj, kW]
  simp [noT, ht]
 ·rw [<- List.drop_drop, h5, List.drop_drop]
theorem DelAt.keep {l L : List Tm} {i j : Nat} (h : DelAt l j i L) (hj : j < l.length) (ht : l[j].isT = false) : DelAt l (j + 1) (i + 1) (L.set i l[j]) := by
 obtain ⟨h1, h2, h3, h4, h5⟩ := h
 refine ⟨by omega, by omega, by simpa using h3, ?_, ?_⟩
 ·rw [List.take_succ_eq_append_getElem (by simp; omega), List.take_set_of_le (Nat.le_refl _), h4, List.take_succ_eq_append_getElem hj, kW]
  simp [noT, ht]
 ·rw [List.drop_set_of_lt (by omega), <- List.drop_drop, h5, List.drop_drop]
theorem DelAt.get {l L : List Tm} {i j : Nat} (h : DelAt l j i L) (hj : j < l.length) : L[j]? = some l[j] := by
 have := congrArg (fun x => x[0]?) h.2.2.2.2
 simpa [hj] using this
theorem DelAt.init {l : List Tm} {i : Nat} (hi : i < l.length) (h0 : (l.take i).any Tm.isT = false) (h1 : l[i].isT = true) : DelAt l (i + 1) i l := by
 refine ⟨by omega, by omega, rfl, ?_, rfl⟩
 rw [List.take_succ_eq_append_getElem hi, kW]
 have e : noT (l.take i) = l.take i := by
  rw [noT, List.filter_eq_self]
  intro x hx
  have := List.any_eq_false.1 h0 x hx
  simpa using this
 rw [e]
 simp [noT, h1]
theorem h206 (l : List Tm) (hl : l.length < 2 ^ 30) (k : Nat) (h : List AObj) (hk : h[k]? = some (.buf 24 4 (l.map enc))) :
  Gives (PC GL) 206 [.vec k 4 l.length, .fn (.func 208) [] []] h fun y h' => y = .sl 4 ((noT l).map enc) /\ Keep (fun i _ => i = k) h h' := by
 have hkl := aH hk
 refine k206.gives (by simp) ?_
 simp -implicitDefEqProofs only [go_sem, c206, r206]
 refine aU hC (h110v l hl k h hk) fun y h' ⟨e, hy⟩ => ?_
 subst e
 rcases hy with ⟨rfl, hno⟩ | ⟨i, hi, rfl, h0, h1⟩
 ·have e : ((-1 : Int) == -1) = true := rfl
  have en : noT l = l := by
   rw [noT, List.filter_eq_self]
   intro x hx
   have := List.any_eq_false.1 hno x hx
   simpa using this
  simp -implicitDefEqProofs only [go_sem, e]
  exact nY hk (Nat.le_refl _) (by simp) ⟨by rw [en, List.take_of_length_le (by simp)], (Keep.set _ hk rfl).trans (Keep.app _ _ _)⟩
 ·have e : ((i : Int) == -1) = false := by simp
  have w1 : IntKind.i64.wrap ((i : Int) + 1) = ((i + 1 : Nat) : Int) := by rw [aP _ (by omega)]; simp
  simp -implicitDefEqProofs only [go_sem, e, w1]
  refine bH hC (fun t (a : Nat × List Tm) => [(6, .i ((i + 1 + t : Nat) : Int)), (5, .i a.1), (0, .vec k 4 l.length), (1, .fn (.func 208) [] [])]) (fun t a h2 => DelAt l (i + 1 + t) a.1 a.2 /\ Keep (fun i _ => i = k) h' h2 /\ h2[k]? = some (.buf 24 4 (a.2.map enc))) (l.length - (i + 1)) ?_ fun t a h2 ht ⟨hd, hk2, hb⟩ => ?_
  ·exact ⟨(i, l), _, Wk.pick (Nat.le_refl _) (by simp [go_sem]), DelAt.init hi h0 h1, Keep.refl _ _, hk⟩
  obtain ⟨c, L⟩ := a
  simp only at hd hb
  have hd' := hd
  obtain ⟨d1, d2, d3, d4, d5⟩ := hd'
  have hkl2 := hk2.1
  simp -implicitDefEqProofs only [go_sem]
  have hb_g := fun l => aC (l := l) hb
  have hb_s := fun o l => aE (l := l) hb o
  have hb_e := fun o l => aD (o := o) (l := l) hb
  have hb_h := fun o => aJ (o := o) hb
  by_cases hlt : i + 1 + t < l.length
  ·have dl : decide (((i + 1 + t : Nat) : Int) < (l.length : Int)) = true := decide_eq_true (by omega)
   have et : (L.map enc).take l.length = L.map enc := List.take_of_length_le (by simp; omega)
   have nb : Nat.ble l.length L.length = true := by rw [Nat.ble_eq]; omega
   have hj : i + 1 + t < L.length := by omega
   have hg : L[i + 1 + t] = l[i + 1 + t] := by
    have := hd.get hlt
    rw [List.getElem?_eq_getElem hj] at this
    exact Option.some.inj this
   have w2 : IntKind.i64.wrap (((i + 1 + t : Nat) : Int) + 1) = ((i + 1 + (t + 1) : Nat) : Int) := by rw [aP _ (by omega)]; omega
   have w3 : IntKind.i64.wrap ((c : Int) + 1) = ((c + 1 : Nat) : Int) := by rw [aP _ (by omega)]; simp
   have gx : (L.map enc)[i + 1 + t]? = some (enc l[i + 1 + t]) := by simp [hj, hg]
   simp -implicitDefEqProofs only [go_sem, dl, nb, et, List.length_map, bnd hj, gx, hb]
   refine aG hC (h208 _) ?_
   rcases hT : l[i + 1 + t].isT with _ | _
   ·have hcl : c < L.length := by omega
    have gc : aggOf (enc L[c]) = some [.v (.int .i64 L[c].kind), .v (.int .i64 L[c].n), .str L[c].s, .sl 4 (L[c].l.map enc)] := by rw [fC]; rfl
    have gy : (L.map enc)[c]? = some (enc L[c]) := by simp [hcl]
    simp -implicitDefEqProofs only [go_sem, Bool.not_false, hb_g, hb_s, bnd hcl, gc, gy, nb, et, List.length_map, w2, w3]
    exact ⟨by omega, (c + 1, L.set c l[i + 1 + t]), _, Wk.pick (by simp; omega) (by simp [go_sem]), hd.keep hlt hT, (hk2.trans (Keep.set _ hb rfl)).trans (Keep.app _ _ _), by rw [hb_e]; simp [List.map_set]⟩
   ·simp -implicitDefEqProofs only [go_sem, Bool.not_true, w2]
    exact ⟨by omega, (c, L), _, Wk.pick (by simp; omega) (by simp [go_sem]), by have := hd.skip hlt hT; exact this, hk2.trans (Keep.app _ _ _), hb_g _⟩
  ·have dl : decide (((i + 1 + t : Nat) : Int) < (l.length : Int)) = false := decide_eq_false (by omega)
   simp -implicitDefEqProofs only [go_sem, dl, hb, hb_h]
   have ej : i + 1 + t = l.length := by omega
   rw [ej, List.take_length] at d4
   have ep : (put (L.map enc) c (List.replicate (l.length - c) (.agg [.v (.int .i64 0), .v (.int .i64 0), .str [], .v (.slice none 0 0)]))).take c = (noT l).map enc := by
    rw [put, List.take_left' (by simp; omega), <- d4, List.map_take]
   have el : (put (L.map enc) c (List.replicate (l.length - c) (.agg [.v (.int .i64 0), .v (.int .i64 0), .str [], .v (.slice none 0 0)]))).length = l.length := by
    simp [put]; omega
   rw [ep, el]
   refine ⟨by omega, by omega, by omega, dS (by simp; omega) ?_ ⟨rfl, ((hk2.trans (Keep.set _ hb rfl)).trans (Keep.set (k := k) _ (hb_h _) rfl)).trans (Keep.app _ _ _)⟩⟩
   simp [wkr]
theorem h206e : Pure (PC GL) 206 [.sl 4 [], .fn (.func 208) [] []] (.sl 4 []) := by
 have q := h110 (GL := GL) [] 208 Tm.isT (by simp) (by simp)
 simp only [List.map_nil] at q
 have e0 : idxF Tm.isT [] = -1 := rfl
 rw [e0] at q
 have e : ((-1 : Int) == -1) = true := rfl
 refine k206.pure (by simp) (by simp [go_sem]) (by simp [go_sem]) ?_
 simp -implicitDefEqProofs only [c206, r206, go_sem]
 refine aG hC q ?_
 simp -implicitDefEqProofs only [go_sem, e]
 refine aI ?_ ?_ <;> simp [go_sem]
theorem conj_drop {m : List Tm} {i : Nat} (hi : i + 1 < m.length) : conjT (m.drop i) = funT [44] [m[i], conjT (m.drop (i + 1))] := by
 rw [List.drop_eq_getElem_cons (by omega), List.drop_eq_getElem_cons hi, conjT]
theorem conj_last {m : List Tm} (h : 0 < m.length) : conjT (m.drop (m.length - 1)) = m[m.length - 1] := by
 rw [List.drop_eq_getElem_cons (by omega), List.drop_eq_nil_of_le (by omega), conjT]
theorem h126 (l : List Tm) (hl : sizes l < 2 ^ 30) : Pure (PC GL) 126 [.sl 4 (l.map enc)] (enc (joinT l)) := by
 have h4 := aQ l
 have hn := iQ l
 have q108 := h108 (GL := GL) trueB
 refine k126.pure (by simp) (by simp [go_sem]) (by simp [go_sem]) ?_
 by_cases h0 : l = []
 ·subst h0
  have q1 := h207 (GL := GL) 0 [] (by simp [sizes]) (by omega)
  have q2 := h206e (GL := GL)
  have e : (((0 : Nat) : Int) == 0) = true := rfl
  simp only [List.map_nil] at q1
  simp -implicitDefEqProofs only [go_sem, c126, r126]
  refine aG hC q1 ?_
  simp -implicitDefEqProofs only [go_sem]
  refine aG hC q2 ?_
  simp -implicitDefEqProofs only [go_sem, e]
  refine aG hC q108 ?_
  simp -implicitDefEqProofs only [go_sem]
  refine aI ?_ (by simp [go_sem])
  simp [joinT, noT, conjT, atomT, fC, wkr, wkrs, Tm.kind, Tm.n, Tm.s, Tm.l]
 simp -implicitDefEqProofs only [go_sem, c126, r126]
 refine aU hC (h207v l hl h0 _) fun y h1 ⟨a, ha, hy, hb, hk⟩ => ?_
 subst hy
 have g0 := hk.got (i := 0) rfl
 simp -implicitDefEqProofs only [go_sem]
 refine aU hC (h206 l (by omega) a h1 hb) fun y h2 ⟨hy, hk2⟩ => ?_
 subst hy
 have g2 := hk2.get g0 (by simp at ha; omega)
 have hj : joinT l = conjT (noT l) := rfl
 rw [hj]
 generalize noT l = m at *
 clear hk hk2 g0 hb
 by_cases hm : m = []
 ·subst hm
  have e : (((0 : Nat) : Int) == 0) = true := rfl
  have g2_g := fun l => aC (l := l) g2
  have g2_s := fun o l => aE (l := l) g2 o
  have g2_e := fun o l => aD (o := o) (l := l) g2
  have g2_h := fun o => aJ (o := o) g2
  simp -implicitDefEqProofs only [go_sem, e]
  refine aG hC q108 ?_
  simp -implicitDefEqProofs only [go_sem, g2, g2_h]
  refine aI ?_ (by simp [go_sem])
  simp [conjT, atomT, fC, wkr, wkrs, Tm.kind, Tm.n, Tm.s, Tm.l]
 have hpos : 0 < m.length := List.length_pos_iff.2 hm
 have e : ((m.length : Int) == 0) = false := by simp [hm]
 have w1 : IntKind.i64.wrap ((m.length : Int) - 1) = ((m.length - 1 : Nat) : Int) := by rw [aP _ (by omega)]; omega
 have w2 : IntKind.i64.wrap ((m.length : Int) - 2) = (m.length : Int) - 2 := aP _ (by omega)
 have hlast : m.length - 1 < m.length := by omega
 have g2_g := fun l => aC (l := l) g2
 have g2_s := fun o l => aE (l := l) g2 o
 have g2_e := fun o l => aD (o := o) (l := l) g2
 have g2_h := fun o => aJ (o := o) g2
 simp -implicitDefEqProofs only [go_sem, e, w1, w2, bnd hlast, aS hlast]
 refine bH hC (fun t (_ : Unit) => [(4, .i ((m.length : Int) - 2 - t)), (3, .ref h2.length 0), (0, .sl 4 (m.map enc)), (2, .ref 0 0)])
  (fun t _ h' => h'[0]? = some (.cells 24 [.v (.int .i64 0), .v (.int .i64 0), .str [], .v (.slice none 0 0)]) /\ h'[h2.length]? = some (.cells 24 [.v (.int .i64 (conjT (m.drop (m.length - 1 - t))).kind), .v (.int .i64 (conjT (m.drop (m.length - 1 - t))).n), .str (conjT (m.drop (m.length - 1 - t))).s, .sl 4 ((conjT (m.drop (m.length - 1 - t))).l.map enc)])) (m.length - 1) ?_ fun t _ h3 ht ⟨u1, u2⟩ => ?_
 ·refine ⟨(), _, Wk.pick (Nat.zero_le _) (by simp [go_sem]), g2_g _, ?_⟩
  rw [Nat.sub_zero, conj_last hpos]
  exact eM _ _
 simp -implicitDefEqProofs only [go_sem]
 by_cases hlt : t < m.length - 1
 ·have dl : decide ((m.length : Int) - 2 - t >= 0) = true := decide_eq_true (by omega)
  obtain ⟨i, hi⟩ : ∃ i : Nat, i = m.length - 2 - t := ⟨_, rfl⟩
  have ei : (m.length : Int) - 2 - t = (i : Int) := by omega
  have hil : i < m.length := by omega
  have e1 : m.length - 1 - t = i + 1 := by omega
  have e2 : m.length - 1 - (t + 1) = i := by omega
  have w3 : IntKind.i64.wrap ((i : Int) - 1) = (m.length : Int) - 2 - ((t + 1 : Nat) : Int) := by rw [aP _ (by omega)]; omega
  have q107 := h107 (GL := GL) [44] [m[i], conjT (m.drop (i + 1))]
  rw [<- conj_drop (m := m) (i := i) (by omega)] at q107
  rw [ei] at dl
  rw [e1] at u2
  have u1_g := fun l => aC (l := l) u1
  have u1_s := fun o l => aE (l := l) u1 o
  have u1_e := fun o l => aD (o := o) (l := l) u1
  have u1_h := fun o => aJ (o := o) u1
  have u2_g := fun l => aC (l := l) u2
  have u2_s := fun o l => aE (l := l) u2 o
  have u2_e := fun o l => aD (o := o) (l := l) u2
  have u2_h := fun o => aJ (o := o) u2
  have b02 : Nat.blt 0 2 = true := rfl
  have b12 : Nat.blt 1 2 = true := rfl
  simp -implicitDefEqProofs only [go_sem, ei, dl, bnd hil, aS hil, u2, b02, b12]
  refine dC q107 ?_ ?_
  ·simp [fzs, fzGs, fzG, gC]
  simp -implicitDefEqProofs only [go_sem, u2_g, u2_s, w3]
  refine ⟨by omega, (), _, Wk.pick (Nat.zero_le _) (by simp [go_sem]), ?_, ?_⟩
  ·exact aC (by rw [aF (by have := aH g2; omega)]; exact u1)
  ·rw [e2, u2_e]
 ·have dl : decide ((m.length : Int) - 2 - t >= 0) = false := decide_eq_false (by omega)
  have e1 : m.length - 1 - t = 0 := by omega
  rw [e1, List.drop_zero] at u2
  have u1_g := fun l => aC (l := l) u1
  have u1_s := fun o l => aE (l := l) u1 o
  have u1_e := fun o l => aD (o := o) (l := l) u1
  have u1_h := fun o => aJ (o := o) u1
  have u2_g := fun l => aC (l := l) u2
  have u2_s := fun o l => aE (l := l) u2 o
  have u2_e := fun o l => aD (o := o) (l := l) u2
  have u2_h := fun o => aJ (o := o) u2
  simp -implicitDefEqProofs only [go_sem, dl, u1, u1_h, u2]
  exact aI (cB _) (by simp [go_sem])
theorem headT_ne {s : List UInt8} {l : List Tm} (h : l ≠ []) : headT s l = funT s l := by
 cases l with
 | nil => exact absurd rfl h
 | cons x r => rfl
theorem h194 (s : List UInt8) (l : List Tm) (hl : sizes l < 2 ^ 30) : Pure (PC GL) 194 [.str s, .sl 4 (l.map enc)] (enc (headT s l)) := by
 have q108 := h108 (GL := GL) s
 have q207 := h207 (GL := GL) (sizes l) l (Nat.le_refl _) hl
 have q107 := h107 (GL := GL) s l
 refine k194.pure (by simp) (by simp [go_sem]) (by simp [go_sem]) ?_
 by_cases h0 : l = []
 ·subst h0
  have e : (((0 : Nat) : Int) == 0) = true := rfl
  simp -implicitDefEqProofs only [go_sem, c194, r194, e]
  refine aG hC q108 ?_
  simp -implicitDefEqProofs only [go_sem]
  exact aI (cB (enc (atomT s))) (by simp [go_sem])
 ·have e : ((l.length : Int) == 0) = false := by simp [h0]
  rw [headT_ne h0]
  simp -implicitDefEqProofs only [go_sem, c194, r194, e]
  refine aG hC q207 ?_
  simp -implicitDefEqProofs only [go_sem]
  refine aG hC q107 ?_
  simp -implicitDefEqProofs only [go_sem]
  exact aI (cB _) (by simp [go_sem])
theorem h109 (name : List UInt8) (c : Cl) (hc : sizes c.parts < 2 ^ 30) : Pure (PC GL) 109 [.str name, encCl c] (enc (writT name c)) := by
 have hs : sizes c.head < 2 ^ 30 /\ sizes c.guard < 2 ^ 30 /\ sizes c.body < 2 ^ 30 := by
  simp only [Cl.parts, bB] at hc
  omega
 have q194 := h194 (GL := GL) name c.head hs.1
 have q126g := h126 (GL := GL) c.guard hs.2.1
 have q126b := h126 (GL := GL) c.body hs.2.2
 have q190g := h190 (GL := GL) (joinT c.guard) trueB
 have q190b := h190 (GL := GL) (joinT c.body) trueB
 have b02 : Nat.blt 0 2 = true := rfl
 have b12 : Nat.blt 1 2 = true := rfl
 refine k109.pure (by simp) (by simp [go_sem, encCl]) (by simp [go_sem]) ?_
 rw [writT, Tm.isT, Tm.isT]
 simp -implicitDefEqProofs only [go_sem, c109, r109, encCl]
 refine aG hC q194 ?_
 simp -implicitDefEqProofs only [go_sem]
 refine aG hC q126g ?_
 simp -implicitDefEqProofs only [go_sem]
 refine aG hC q126b ?_
 simp -implicitDefEqProofs only [go_sem]
 refine aG hC q190g ?_
 rcases hg : (joinT c.guard).isAtom trueB with _ | _
 ·have q107 := h107 (GL := GL) [124] [joinT c.guard, joinT c.body]
  have q107' := h107 (GL := GL) [58, 45] [headT name c.head, funT [124] [joinT c.guard, joinT c.body]]
  rw [if_pos rfl]
  simp -implicitDefEqProofs only [go_sem, Bool.not_false, b02, b12]
  refine dC q107 ?_ ?_
  ·simp [fzs, fzGs, fzG, gC]
  simp -implicitDefEqProofs only [go_sem, b02, b12]
  refine dC q107' ?_ ?_
  ·simp [fzs, fzGs, fzG, gC]
  simp -implicitDefEqProofs only [go_sem]
  exact aI (cB _) (by simp [go_sem])
 ·rw [if_neg (by simp)]
  simp -implicitDefEqProofs only [go_sem, Bool.not_true]
  refine aG hC q190b ?_
  rcases hb : (joinT c.body).isAtom trueB with _ | _
  ·have q107 := h107 (GL := GL) [58, 45] [headT name c.head, joinT c.body]
   rw [if_pos rfl]
   simp -implicitDefEqProofs only [go_sem, Bool.not_false, b02, b12]
   refine dC q107 ?_ ?_
   ·simp [fzs, fzGs, fzG, gC]
   simp -implicitDefEqProofs only [go_sem]
   exact aI (cB _) (by simp [go_sem])
  ·rw [if_neg (by simp)]
   simp -implicitDefEqProofs only [go_sem, Bool.not_true]
   exact aI (cB _) (by simp [go_sem])
theorem sG {f : FuncId} {args args' : List AV} {h : List AObj} {R : ARes -> List AObj -> Prop} (hw : Wds args args') (hc : PC GL (.fn f) args' h R) : PC GL (.fn f) args h R :=
 fun E A G w vs hW ha => hc E A G w vs hW (Wds.reps hw ha)
theorem toNat2 : Int.toNat 2 = 2 := rfl
theorem wd_int (n : Int) : Wd (.agg [.v (.int .i64 2), .v (.int .i64 n), .str [], .v (.slice none 0 0)]) (enc (intT n)) := by
 rw [fC]
 exact Wd.agg ⟨Wd.rfl _, Wd.rfl _, Wd.rfl _, Wd.nil, trivial⟩
theorem oG {α β : Type} {l : List α} {j : Nat} (hj : j < l.length) (f : α -> List β) : (l.take (j + 1)).flatMap f = (l.take j).flatMap f ++ f l[j] := by
 rw [List.take_succ_eq_append_getElem hj, List.flatMap_append]; simp
theorem iM {α β : Type} (f : α -> List β) (n : Nat) : ∀ l : List α, (∀ x ∈ l, (f x).length <= n) -> (l.flatMap f).length <= n * l.length
 | [], _ => by simp
 | x :: r, h => by
  have h1 := h x (by simp)
  have h2 := iM f n r fun y hy => h y (by simp [hy])
  rw [List.flatMap_cons, List.length_append, List.length_cons, Nat.mul_succ]; omega
theorem uK (name : List UInt8) (c : Cl) : (clTs name c).length <= 2 := by rw [clTs]; split <;> simp
theorem prTs_len {q : Pr} (h : q.clauses.length <= 32) : (prTs q).length <= 65 := by
 have := iM (clTs q.name) 2 q.clauses fun c _ => uK _ _
 rw [prTs, List.length_cons]; omega
def marksC : AObj := .cells 137 [.str [], .str otherB, .str altB]
theorem h28 (p : Pg) (hp : p.fits) : Pure (PC GLs) 28 [encPg p] (.tup [.sl 4 ((if p.ok then p.terms else []).map enc), .i (okE p.ok)]) := by
 have q32 := h32 p hp
 have hl := hp.l
 simp only [encPg] at q32
 refine k28.pure (by simp) (by simp [go_sem, encPg]) (by simp [go_sem]) ?_
 simp -implicitDefEqProofs only [go_sem, c28, r28, encPg]
 refine aG hC q32 ?_
 rcases hok : p.ok with _ | _
 ·have e : (okE false != 0) = true := rfl
  simp -implicitDefEqProofs only [go_sem, e]
  exact aI (by simp [wkr, wkrs]) (by simp [go_sem])
 have e : (okE true != 0) = false := rfl
 obtain ⟨a1, a2, a3, a4⟩ := iD hok
 simp -implicitDefEqProofs only [go_sem, e]
 refine bH hC (fun j a => [(20, .i j), (19, .i p.procs.length), (18, .sl 3 (p.procs.map encPr)), (6, .own a 4 (((p.procs.take j).flatMap prTs).map enc)), (5, .ref 1 0)])
  (fun j a h' => h'[1]? = some marksC /\ h'[a]? = some (.spare 24 4)) p.procs.length ?_ fun j a h2 hj ⟨g1, ga⟩ => ?_
 ·exact ⟨2, _, (Wk.own_nil 24 4 6 (by simp [go_sem]) (by simp)).trans (Wk.pick (by simp) (by simp [go_sem])), rfl, rfl⟩
 rw [marksC] at g1
 have g1_g := fun l => aC (l := l) g1
 have g1_s := fun o l => aE (l := l) g1 o
 have g1_e := fun o l => aD (o := o) (l := l) g1
 have g1_h := fun o => aJ (o := o) g1
 have ga_g := fun l => aC (l := l) ga
 have ga_s := fun o l => aE (l := l) ga o
 have ga_e := fun o l => aD (o := o) (l := l) ga
 have ga_h := fun o => aJ (o := o) ga
 simp -implicitDefEqProofs only [go_sem]
 refine aK (fun hlt => ?_) (fun hlt => ?_)
 ·have hlt := aM hlt
  have q108 := h108 (GL := GLs) p.procs[j].name
  have q107 := h107 (GL := GLs) [47] [atomT p.procs[j].name, intT p.procs[j].arity]
  have q107' := h107 (GL := GLs) [58, 45] [funT [47] [atomT p.procs[j].name, intT p.procs[j].arity]]
  have b02 : Nat.blt 0 2 = true := rfl
  have b12 : Nat.blt 1 2 = true := rfl
  simp -implicitDefEqProofs only [go_sem, hlt, aS, encPr]
  refine aG hC q108 ?_
  simp -implicitDefEqProofs only [go_sem, List.append_assoc, b02, b12]
  refine sG (args' := [.str [47], .sl 4 ([atomT p.procs[j].name, intT p.procs[j].arity].map enc)]) ⟨Wd.rfl _, Wd.fz ⟨Wd.rfl _, wd_int _, trivial⟩, trivial⟩ (aG hC q107 ?_)
  simp -implicitDefEqProofs only [go_sem, List.append_assoc, cP]
  refine dC q107' ?_ ?_
  ·simp [fzs, fzGs, fzG, gC]
  simp -implicitDefEqProofs only [go_sem, List.append_assoc, cM, ga_g, ga_s, cP]
  have hq := List.getElem_mem hlt
  have hc32 := (fine_iff.1 (a3 _ hq)).2.2.2.2
  have hb1 := iM prTs 65 (p.procs.take j) fun x hx => prTs_len ((fine_iff.1 (a3 x (List.mem_of_mem_take hx))).2.2.2.2)
  have hb2 : (p.procs.take j).length <= 64 := by simp; omega
  refine ⟨by omega, ?_⟩
  refine bH hC (fun i b => [(40, .i i), (39, .i p.procs[j].clauses.length), (38, .sl 5 (p.procs[j].clauses.map encCl)), (6, .own b 4 (((p.procs.take j).flatMap prTs ++ declT p.procs[j] :: (p.procs[j].clauses.take i).flatMap (clTs p.procs[j].name)).map enc)), (8, .ref h2.length 0), (5, .ref 1 0), (20, .i j), (19, .i p.procs.length), (18, .sl 3 (p.procs.map encPr))])
   (fun i b h' => h'[1]? = some marksC /\ h'[b]? = some (.spare 24 4) /\ h'[h2.length]? = some (.cells 60 [.str p.procs[j].name, .i p.procs[j].arity, .sl 5 (p.procs[j].clauses.map encCl)])) p.procs[j].clauses.length ?_ fun i b h3 hi ⟨v1, vb, v2⟩ => ?_
  ·refine ⟨h2.length + 4, _, Wk.pick (Nat.zero_le _) ?_, ?_, ?_, ?_⟩
   ·simp [go_sem, declT]
   ·exact aW g1 ga (by simp [marksC])
   ·rw [cX (by simp)]; simp
   ·rw [cX (by simp)]; simp
  ·rw [marksC] at v1
   have v1_g := fun l => aC (l := l) v1
   have v1_s := fun o l => aE (l := l) v1 o
   have v1_e := fun o l => aD (o := o) (l := l) v1
   have v1_h := fun o => aJ (o := o) v1
   have vb_g := fun l => aC (l := l) vb
   have vb_s := fun o l => aE (l := l) vb o
   have vb_e := fun o l => aD (o := o) (l := l) vb
   have vb_h := fun o => aJ (o := o) vb
   have v2_g := fun l => aC (l := l) v2
   have v2_s := fun o l => aE (l := l) v2 o
   have v2_e := fun o l => aD (o := o) (l := l) v2
   have v2_h := fun o => aJ (o := o) v2
   simp -implicitDefEqProofs only [go_sem]
   refine aK (fun hlt2 => ?_) (fun hlt2 => ?_)
   ·have hlt2 := aM hlt2
    have hcm := List.getElem_mem hlt2
    obtain ⟨el, esh⟩ := nD (a4 _ hq _ hcm).1
    have q109 := h109 (GL := GLs) p.procs[j].name p.procs[j].clauses[i] (hp.t _ hq _ hcm).1
    have hm : 0 <= p.procs[j].clauses[i].mark /\ p.procs[j].clauses[i].mark <= 2 := by
     simp only [Cl.shaped, Cl.bad, Bool.and_eq_true, Bool.not_eq_true', Bool.or_eq_false_iff, decide_eq_false_iff_not] at esh
     omega
    have w5 : IntKind.i64.wrap ((i : Int) + 1) = (i : Int) + 1 := aP _ (by omega)
    have hb3 := iM (clTs p.procs[j].name) 2 (p.procs[j].clauses.take i) fun c _ => uK _ _
    have hb4 : (p.procs[j].clauses.take i).length <= 32 := by simp; omega
    have es := oG hlt2 (clTs p.procs[j].name)
    simp only [encCl] at q109
    by_cases m0 : p.procs[j].clauses[i].mark = 0
    ·have e0 : (p.procs[j].clauses[i].mark != 0) = false := by simp [m0]
     have ec : clTs p.procs[j].name p.procs[j].clauses[i] = [writT p.procs[j].name p.procs[j].clauses[i]] := by rw [clTs, if_pos m0]
     rw [ec] at es
     simp -implicitDefEqProofs only [go_sem, hlt2, aS, encCl, v2_g, e0]
     refine aG hC q109 ?_
     simp -implicitDefEqProofs only [go_sem, List.append_assoc, vb_g, vb_s, cP, w5]
     refine ⟨by omega, h3.length + 2, _, Wk.pick (Nat.zero_le _) ?_, aW v1 vb (by simp [marksC]), ?_, aW v2 vb (by simp)⟩
     ·simp [go_sem, es]
     ·rw [cX (by simp)]; simp
    ·have e0 : (p.procs[j].clauses[i].mark != 0) = true := by simp [m0]
     have ec : clTs p.procs[j].name p.procs[j].clauses[i] = [markT p.procs[j].clauses[i].mark, writT p.procs[j].name p.procs[j].clauses[i]] := by rw [clTs, if_neg m0]
     rw [ec] at es
     rcases (show p.procs[j].clauses[i].mark = 1 ∨ p.procs[j].clauses[i].mark = 2 by omega) with m1 | m1
     all_goals
      rw [m1] at es q109
      have bm1 : bounds (1 : Int) 3 = True := by simp [bounds]
      have bm2 : bounds (2 : Int) 3 = True := by simp [bounds]
      have e1 : ((1 : Int) != 0) = true := rfl
      have e2 : ((2 : Int) != 0) = true := rfl
      simp -implicitDefEqProofs only [go_sem, hlt2, aS, encCl, v1_g, e1, e2, m1, bm1, bm2, lD, toNat2, Nat.mul_one]
      first
       | refine aG hC (h108 otherB) ?_
       | refine aG hC (h108 altB) ?_
      simp -implicitDefEqProofs only [go_sem, List.append_assoc, cM, vb_g, vb_s, cP]
      refine ⟨by omega, ?_⟩
      have v1' : ∀ l, (h3.set b .dead ++ l)[1]? = some (.cells 137 [.str [], .str otherB, .str altB]) := fun l => aW v1 vb (by simp)
      have v2' : ∀ l, (h3.set b .dead ++ l)[h2.length]? = some (.cells 60 [.str p.procs[j].name, .i p.procs[j].arity, .sl 5 (p.procs[j].clauses.map encCl)]) := fun l => aW v2 vb (by simp)
      simp -implicitDefEqProofs only [go_sem, v2']
      refine aG hC q109 ?_
      simp -implicitDefEqProofs only [go_sem, List.append_assoc, mB, vF, cP, w5]
      refine ⟨by omega, (h3.set b .dead).length + 4, _, Wk.pick (Nat.zero_le _) ?_, v1' _, ?_, v2' _⟩
      ·simp [go_sem, es, markT]
      ·rw [cX (by simp)]; simp
   ·have hge := aL hlt2
    have w5 : IntKind.i64.wrap ((j : Int) + 1) = (j : Int) + 1 := aP _ (by omega)
    have es := oG hlt prTs
    rw [aT hge] at *
    simp -implicitDefEqProofs only [go_sem, hlt2, w5]
    exact ⟨b, _, Wk.pick (Nat.zero_le _) (by simp [go_sem, es, prTs]), by rw [marksC]; exact v1, vb⟩
 ·have hge := aL hlt
  simp -implicitDefEqProofs only [go_sem, hlt]
  have ej : p.procs.take j = p.procs := aT hge
  rw [ej]
  exact aI (by simp [wkr, wkrs, Pg.terms, okE]) (by simp [go_sem])
end Go.Rip
