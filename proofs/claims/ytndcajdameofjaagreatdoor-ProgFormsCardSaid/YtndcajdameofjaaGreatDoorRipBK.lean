/- Sorted: the program's way, whole. -/
import Derived.Test.YtndcajdameofjaaGreatDoorRipBJ
import Derived.Test.YtndcajdameofjaaGreatDoorRipBG
import Derived.Test.YtndcajdameofjaaGreatDoorRipBI
import Derived.Test.YtndcajdameofjaaGreatDoorRipAV
import Derived.Test.YtndcajdameofjaaGreatDoorRipBD
namespace Go.Rip
open Go Go.Proofs
set_option maxRecDepth 100000
variable {GL : Glob}
attribute [local irreducible] Pure
theorem kO (S : List Pr) (l : List Int) : l.map (encQ (rkQ S)) = (l.map (rkQ S)).map encPr := by
 rw [List.map_map]; rfl
theorem sort165 {l : List Pr} (hne : 0 < l.length) (hl : l.length < 2 ^ 24) (hn : (l.map Pr.sym).Nodup) (hok : ∀ q ∈ l, nameOk q.name = true) (k : Nat) (h : List AObj) (hk : h[k]? = some (.buf 60 3 (l.map encPr))) :
  Gives (PC GLs) 165 [.vec k 3 l.length, .fn (.func 166) [] []] h fun _ h' => h'[k]? = some (.buf 60 3 ((sortPr l).map encPr)) /\ Keep (fun i _ => i = k) h h' := by
 obtain ⟨l0, h1, h2⟩ := ranks hn
 have hlen : l0.length = l.length := by rw [h1.length_eq, uE]
 have hs := jO hn
 have hsn : ∀ q ∈ sortPr l, nameOk q.name = true := fun q hq => hok q ((cL l).mem_iff.1 hq)
 have hk' : h[k]? = some (.buf 60 3 (l0.map (encQ (rkQ (sortPr l))))) := by rw [kO, h2]; exact hk
 rw [<- hlen]
 refine aR hC (h165 (cmpQ hs hsn) l0 (by omega) (by omega) k h hk') fun x h' ⟨l', p1, p2, p3, p4⟩ => ⟨x, rfl, ?_, p4⟩
 have hl' : l'.length = l0.length := p1.length_eq.symm
 have e : l' = ints l.length := sY (p1.symm.trans h1) (by rw [hl']; exact p2)
 have e2 : (sortPr l).length = l.length := (cL l).length_eq
 rw [p3, kO, e, <- e2, nO]
theorem oP {a : Nat} {l : List Pr} {h : List AObj} {T : TypeId} {s : Nat} {e : Int} (ha : l = [] ∨ h[a]? = some (.buf T s (l.map encPr))) :
  ∃ y h', Wk GLs 0 [(0, .tup [.agg [vecA a 3 (l.map encPr)], .i e])] h [(0, y)] h' /\ h' = [] /\ ARes.val y = ARes.val (.tup [encPg ⟨l⟩, .i e]) := by
 have := fin_vecs (GL := GLs) (a := a) (l := l.map encPr) (h := h) (T := T) (s := s) (e := e) (by simpa using ha) (by exact (free_encPr.bds _ _).symm ▸ trivial) (fun x hx => by obtain ⟨q, -, rfl⟩ := List.mem_map.1 hx; exact fzG_encPr _ _)
 exact this
theorem h77 (p : Pg) (hp : p.small) : Pure (PC GLs) 77 [encPg p] (.tup [encPg p.sorted, .i (okE p.ok)]) := by
 have q32 := h32 p hp.fits
 have hl := hp.l
 simp only [encPg] at q32
 refine k77.pure (by simp) (by simp [go_sem]) (by simp [go_sem]) ?_
 simp -implicitDefEqProofs only [go_sem, c77, r77, encPg]
 refine aC hC q32 ?_
 rcases hok : p.ok with _ | _
 ·have e0 : okE false = 5 := rfl
  have hS : p.sorted = ⟨[]⟩ := by simp [Pg.sorted, hok]
  rw [hS]
  simp -implicitDefEqProofs only [go_sem, e0, bne50]
  exact aD (bL (by simp [wkr, wkrs]) rfl) (by simp [go_sem])
 have e0 : okE true = 0 := rfl
 obtain ⟨hn, hnm⟩ := ok_fine hok
 have hS : p.sorted = ⟨sortPr p.procs⟩ := by simp [Pg.sorted, hok]
 rw [hS]
 simp -implicitDefEqProofs only [go_sem, e0, bne_self_eq_false]
 refine aZ hC (fun j (_ : Nat) => [(17, .i j), (15, .sl 3 (p.procs.map encPr)), (16, .i p.procs.length), (2, .ref 1 0), (5, .ref 2 0)])
  (fun j a h' => h'[1]? = some (.cells 37 [.v (.slice none 0 0)]) /\ h'[2]? = some (.cells 37 [vecA a 3 ((p.procs.take j).map encPr)]) /\ (j = 0 ∨ h'[a]? = some (.buf 60 3 ((p.procs.take j).map encPr)))) p.procs.length ?_ fun j a h2 hj ⟨f1, f2, f3⟩ => ?_
 ·exact ⟨0, _, Wk.pick (Nat.zero_le _) (by simp [go_sem]), rfl, rfl, .inl rfl⟩
 have f1_g := fun l => aE (l := l) f1
 have f1_s := fun o l => aJ (l := l) f1 o
 have f1_e := fun o l => aH (o := o) (l := l) f1
 have f1_h := fun o => aL (o := o) f1
 have f2_g := fun l => aE (l := l) f2
 have f2_s := fun o l => aJ (l := l) f2 o
 have f2_e := fun o l => aH (o := o) (l := l) f2
 have f2_h := fun o => aL (o := o) f2
 simp -implicitDefEqProofs only [go_sem]
 refine aG (fun hlt => ?_) (fun hlt => ?_)
 ·have hlt := aI hlt
  have w5 : IntKind.i64.wrap ((j : Int) + 1) = (j : Int) + 1 := aF _ (by omega)
  have hqs := hp.q _ (List.getElem_mem hlt)
  have hc := hqs.c
  have hs : (p.procs.take (j + 1)).map encPr = (p.procs.take j).map encPr ++ [encPr p.procs[j]] := bI hlt _
  have ll : ((p.procs.take j).map encPr).length = j := by simp; omega
  have q159 := h159 (GL := GLs) p.procs[j] (by omega) fun c hcm => by have := (hqs.t c hcm).1; omega
  have gj := aP (f := encPr) hlt
  obtain ⟨Q, hQ⟩ : ∃ Q, p.procs[j] = Q := ⟨_, rfl⟩
  rw [hQ] at hs q159 gj
  simp only [encPr] at q159 gj
  generalize (p.procs.take j).map encPr = L at *
  have nx : L = [] ∨ h2[a]? = some (.buf 60 3 L) /\ L ≠ [] := by
   rcases f3 with h | h
   ·exact .inl (List.eq_nil_of_length_eq_zero (by omega))
   ·by_cases e : L = []
    ·exact .inl e
    ·exact .inr ⟨h, e⟩
  rcases nx with hL0 | ⟨f5, hne⟩
  ·subst hL0
   have hj0 : j = 0 := ll.symm
   have f2b : h2[2]? = some (.cells 37 [.v (.slice none 0 0)]) := f2
   have f2b_g := fun l => aE (l := l) f2b
   have f2b_s := fun o l => aJ (l := l) f2b o
   have f2b_e := fun o l => aH (o := o) (l := l) f2b
   have f2b_h := fun o => aL (o := o) f2b
   simp -implicitDefEqProofs only [go_sem, hlt, gj, f2b_g]
   refine aC hC q159 ?_
   simp -implicitDefEqProofs only [go_sem, kB, List.append_assoc, f2b_g, f2b_s, w5]
   refine ⟨by simp, h2.length + 2, _, Wk.pick (Nat.zero_le _) (by simp [go_sem]), ?_, ?_, .inr ?_⟩
   ·exact aE (by rw [aN (by omega)]; exact f1)
   ·rw [hs, qQ]; exact f2b_e _ _
   ·rw [List.getElem?_append_right (by simp), hs]; simp [encPr]
  ·have f2b : h2[2]? = some (.cells 37 [.vec a 3 L.length]) := by rw [<- gC hne]; exact f2
   have f5_g := fun l => aE (l := l) f5
   have f5_s := fun o l => aJ (l := l) f5 o
   have f5_e := fun o l => aH (o := o) (l := l) f5
   have f5_h := fun o => aL (o := o) f5
   have f2b_g := fun l => aE (l := l) f2b
   have f2b_s := fun o l => aJ (l := l) f2b o
   have f2b_e := fun o l => aH (o := o) (l := l) f2b
   have f2b_h := fun o => aL (o := o) f2b
   have f2b_f5b := fun o l => bE (o := o) (l := l) f2b f5 (by simp)
   have f2b_f5s := fun o l x => dJ (o := o) (l := l) (x' := x) f2b f5 (by simp)
   have f2b_f5g := fun o l x => cZ (o := o) (l := l) (x' := x) f2b f5 (by simp)
   have f2b_f5k := fun o l x => cY (o := o) (l := l) (x' := x) f2b f5 (by simp)
   simp -implicitDefEqProofs only [go_sem, hlt, gj, f2b_g]
   refine aC hC q159 ?_
   simp -implicitDefEqProofs only [go_sem, kB, List.append_assoc, f5_g, f5_s, f2b_g, f2b_f5b, f2b_f5s, w5]
   refine ⟨⟨by omega, by omega⟩, h2.length + 2, _, Wk.pick (Nat.zero_le _) (by simp [go_sem]), ?_, ?_, .inr ?_⟩
   ·exact aE (by rw [aN (by omega), aN (bS f5 f1 (by simp))]; exact f1)
   ·rw [hs, qQ]; exact f2b_f5g _ _ _
   ·rw [List.getElem?_append_right (by simp), hs]; simp [encPr]
 ·have hge := aK hlt
  rw [aQ hge] at f2 f3
  by_cases h0 : p.procs = []
  ·have f2b : h2[2]? = some (.cells 37 [.v (.slice none 0 0)]) := by rw [f2, h0]; rfl
   have f2b_g := fun l => aE (l := l) f2b
   have f2b_s := fun o l => aJ (l := l) f2b o
   have f2b_e := fun o l => aH (o := o) (l := l) f2b
   have f2b_h := fun o => aL (o := o) f2b
   simp -implicitDefEqProofs only [go_sem, hlt, f2b]
   refine aC hC h165n ?_
   simp -implicitDefEqProofs only [go_sem, f1, f1_h, f2b]
   rw [h0]
   exact aD (bL (by simp [sortPr, wkr, wkrs]) rfl) (by simp [go_sem])
  ·have hpos : 0 < p.procs.length := List.length_pos_iff.2 h0
   have f5 := f3.resolve_left (by omega)
   have f2b : h2[2]? = some (.cells 37 [.vec a 3 p.procs.length]) := by rw [f2, gC (by simpa using h0), List.length_map]
   have f2b_g := fun l => aE (l := l) f2b
   have f2b_s := fun o l => aJ (l := l) f2b o
   have f2b_e := fun o l => aH (o := o) (l := l) f2b
   have f2b_h := fun o => aL (o := o) f2b
   simp -implicitDefEqProofs only [go_sem, hlt, f2b]
   refine aR hC (sort165 hpos (by omega) hn hnm a h2 f5) fun x h3 ⟨g5, hk3⟩ => ?_
   have a1 : a ≠ 1 := by rintro rfl; rw [f1] at f5; cases f5
   have a2 : a ≠ 2 := by rintro rfl; rw [f2b] at f5; cases f5
   have g1 := hk3.get f1 (fun e => a1 e.symm)
   have g2 := hk3.get f2b (fun e => a2 e.symm)
   have g1_g := fun l => aE (l := l) g1
   have g1_s := fun o l => aJ (l := l) g1 o
   have g1_e := fun o l => aH (o := o) (l := l) g1
   have g1_h := fun o => aL (o := o) g1
   have g2_g := fun l => aE (l := l) g2
   have g2_s := fun o l => aJ (l := l) g2 o
   have g2_e := fun o l => aH (o := o) (l := l) g2
   have g2_h := fun o => aL (o := o) g2
   simp -implicitDefEqProofs only [go_sem, g1, g1_h, g2]
   have hsl := (cL p.procs).length_eq
   have hv : AV.vec a 3 p.procs.length = vecA a 3 ((sortPr p.procs).map encPr) := by
    rw [gC (by simp; intro e; rw [e] at hsl; simp at hsl; omega), List.length_map, hsl]
   rw [hv]
   refine oP (T := 60) (s := 3) (.inr ?_)
   rw [aN (fun e => a1 e.symm)]
   exact g5
theorem ltPr_bool (a b : Pr) : ltPr a b = (Op.bytesLess a.name b.name || (a.name == b.name && decide (a.arity < b.arity))) := rfl
theorem uF {l : List Int} {i j : Nat} (h : i ≠ j) : swp l i j = swp l j i := by
 rw [swp, swp, List.set_comm _ _ h]
theorem kK (S : List Pr) {a : Nat} {m : List Int} (h : m ≠ []) : vecA a 3 (m.map (encQ (rkQ S))) = .vec a 3 m.length := by rw [gC (by simpa using h), List.length_map]
theorem h78 (p : Pg) (hp : p.small) : Pure (PC GLs) 78 [encPg p] (.tup [encPg p.sorted, .i (okE p.ok)]) := by
 have q117 := h117 (GL := GLs) p hp.fits
 have hl := hp.l
 simp only [encPg] at q117
 refine k78.pure (by simp) (by simp [go_sem]) (by simp [go_sem]) ?_
 simp -implicitDefEqProofs only [go_sem, c78, r78, encPg]
 refine aC hC q117 ?_
 rcases hok : p.ok with _ | _
 ·have e0 : okE false = 5 := rfl
  have hS : p.sorted = ⟨[]⟩ := by simp [Pg.sorted, hok]
  rw [hS, e0]
  simp -implicitDefEqProofs only [go_sem, Bool.not_false]
  exact aD (bL (by simp [wkr, wkrs]) rfl) (by simp [go_sem])
 have e0 : okE true = 0 := rfl
 obtain ⟨hn, hnm⟩ := ok_fine hok
 have hS : p.sorted = ⟨sortPr p.procs⟩ := by simp [Pg.sorted, hok]
 rw [hS, e0]
 obtain ⟨l0, hl0, hQ0⟩ := ranks hn
 have hlen : l0.length = p.procs.length := by rw [hl0.length_eq, uE]
 have hnd : l0.Nodup := hl0.nodup_iff.2 (vS _)
 have hss := jO hn
 have hsn : ∀ q ∈ sortPr p.procs, nameOk q.name = true := fun q hq => hnm q ((cL p.procs).mem_iff.1 hq)
 have hlt := rkQ_lt hss hsn
 have e2 : (sortPr p.procs).length = p.procs.length := (cL p.procs).length_eq
 have hpm : p.procs.map encPr = l0.map (encQ (rkQ (sortPr p.procs))) := by rw [kO, hQ0]
 have hfin := nO (sortPr p.procs)
 rw [e2] at hfin
 rw [hpm]
 generalize sortPr p.procs = S at hlt hQ0 hfin e2 ⊢
 simp only [ltPr_bool] at hlt
 clear hpm
 simp -implicitDefEqProofs only [go_sem, Bool.not_true]
 refine aZ hC (fun j (a : Nat × List Int) => [(6, .i j), (5, vecA a.1 3 (a.2.map (encQ (rkQ S)))), (1, .ref 0 0), (2, .ref 1 0)])
  (fun j a h' => h'[0]? = some (.cells 37 [.sl 3 (l0.map (encQ (rkQ S)))]) /\ h'[1]? = some (.cells 37 [.v (.slice none 0 0)]) /\ (l0.take j).Perm a.2 /\ Srt 0 a.2.length a.2 /\ (j = 0 ∨ h'[a.1]? = some (.buf 60 3 (a.2.map (encQ (rkQ S)))))) l0.length ?_ fun j a h2 hj ⟨f1, f2, f3, f4, f5⟩ => ?_
 ·exact ⟨(0, []), _, Wk.pick (Nat.zero_le _) (by simp [go_sem, vecA]), rfl, rfl, by simp, fun p q _ _ h => by simp at h, .inl rfl⟩
 obtain ⟨a, m⟩ := a
 dsimp only at f3 f4 f5
 have f1_g := fun l => aE (l := l) f1
 have f1_s := fun o l => aJ (l := l) f1 o
 have f1_e := fun o l => aH (o := o) (l := l) f1
 have f1_h := fun o => aL (o := o) f1
 have f2_g := fun l => aE (l := l) f2
 have f2_s := fun o l => aJ (l := l) f2 o
 have f2_e := fun o l => aH (o := o) (l := l) f2
 have f2_h := fun o => aL (o := o) f2
 simp -implicitDefEqProofs only [go_sem, f1]
 refine aG (fun hjl => ?_) (fun hjl => ?_)
 ·have hjl := aI hjl
  have w5 : IntKind.i64.wrap ((j : Int) + 1) = ((j + 1 : Nat) : Int) := by rw [aF _ (by omega)]; omega
  have hml : m.length = j := by have := f3.length_eq; simp at this; omega
  have gj := aP (f := encQ (rkQ S)) hjl
  have bj := bnd hjl
  obtain ⟨z, hz⟩ : ∃ z, l0[j] = z := ⟨_, rfl⟩
  have hts : l0.take (j + 1) = l0.take j ++ [z] := by rw [List.take_succ_eq_append_getElem hjl, hz]
  have f3' : (l0.take (j + 1)).Perm (m ++ [z]) := by rw [hts]; exact f3.append_right _
  have f4' : SrtBut 0 (j + 1) j (m ++ [z]) := fun p q hp hpq hq hne => by
   have h1 : q < m.length := by omega
   have h2 : p < m.length := by omega
   have := f4 p q hp hpq h1
   simpa [List.getD, List.getElem?_append_left, h1, h2] using this
  rw [hz] at gj
  simp only [encQ] at gj
  have hmz : (m ++ [z]).map (encQ (rkQ S)) = m.map (encQ (rkQ S)) ++ [encQ (rkQ S) z] := by simp
  have nx : m = [] ∨ h2[a]? = some (.buf 60 3 (m.map (encQ (rkQ S)))) /\ m ≠ [] := by
   rcases f5 with h | h
   ·exact .inl (List.eq_nil_of_length_eq_zero (by omega))
   ·by_cases e : m = []
    ·exact .inl e
    ·exact .inr ⟨h, e⟩
  rcases nx with hm0 | ⟨f6, hne⟩
  focus
   have v0 : vecA a 3 (m.map (encQ (rkQ S))) = .v (.slice none 0 0) := by rw [hm0]; rfl
   have hj00 : j = 0 := by rw [hm0] at hml; exact hml.symm
   have w7 : IntKind.i64.wrap 0 = 0 := rfl
   have o0 := aE (l := [.spare 60 3, .buf 60 3 [.agg [.str (rkQ S z).name, .i (rkQ S z).arity, .sl 5 ((rkQ S z).clauses.map encCl)]]]) f1
   have o1 := aE (l := [.spare 60 3, .buf 60 3 [.agg [.str (rkQ S z).name, .i (rkQ S z).arity, .sl 5 ((rkQ S z).clauses.map encCl)]]]) f2
   have ob : (h2 ++ [.spare 60 3, .buf 60 3 [.agg [.str (rkQ S z).name, .i (rkQ S z).arity, .sl 5 ((rkQ S z).clauses.map encCl)]]])[h2.length + 1]? = some (.buf 60 3 ((m ++ [z]).map (encQ (rkQ S)))) := by rw [aW, hm0]; rfl
   simp -implicitDefEqProofs only [go_sem, hjl, bj, gj, List.append_assoc, f1, v0, kB, List.length_cons, List.length_nil]
   refine ⟨by simp, ?_⟩
  rotate_left
  focus
   rw [kK S hne]
   have f6_g := fun l => aE (l := l) f6
   have f6_s := fun o l => aJ (l := l) f6 o
   have f6_e := fun o l => aH (o := o) (l := l) f6
   have f6_h := fun o => aL (o := o) f6
   have n0 := bS f6 f1 (by simp)
   have n1 := bS f6 f2 (by simp)
   have w7 : IntKind.i64.wrap (j : Int) = (j : Int) := aF _ (by omega)
   have hj00 : True := trivial
   have o0 := eU (l := [.spare 60 3, .buf 60 3 (m.map (encQ (rkQ S)) ++ [.agg [.str (rkQ S z).name, .i (rkQ S z).arity, .sl 5 ((rkQ S z).clauses.map encCl)]])]) (o := .dead) f1 n0
   have o1 := eU (l := [.spare 60 3, .buf 60 3 (m.map (encQ (rkQ S)) ++ [.agg [.str (rkQ S z).name, .i (rkQ S z).arity, .sl 5 ((rkQ S z).clauses.map encCl)]])]) (o := .dead) f2 n1
   have ob : (h2.set a .dead ++ [.spare 60 3, .buf 60 3 (m.map (encQ (rkQ S)) ++ [.agg [.str (rkQ S z).name, .i (rkQ S z).arity, .sl 5 ((rkQ S z).clauses.map encCl)]])])[h2.length + 1]? = some (.buf 60 3 ((m ++ [z]).map (encQ (rkQ S)))) := by rw [mR, hmz]; rfl
   simp -implicitDefEqProofs only [go_sem, hjl, bj, gj, List.append_assoc, f1, f6_g, f6_s, kB, List.length_cons, List.length_nil]
   refine ⟨by simp; omega, ?_⟩
  all_goals
   refine aZ hC (fun u (_ : List Int) => [(7, .i ((j - u : Nat) : Int)), (5, .vec (h2.length + 1) 3 (j + 1)), (6, .i j), (1, .ref 0 0), (2, .ref 1 0)])
    (fun u x h' => h'[0]? = some (.cells 37 [.sl 3 (l0.map (encQ (rkQ S)))]) /\ h'[1]? = some (.cells 37 [.v (.slice none 0 0)]) /\ (l0.take (j + 1)).Perm x /\ SrtBut 0 (j + 1) (j - u) x /\ h'[h2.length + 1]? = some (.buf 60 3 (x.map (encQ (rkQ S))))) j ?_ fun u x h3 hu ⟨g1, g2, g3, g4, g5⟩ => ?_
   ·exact ⟨m ++ [z], _, Wk.pick (Nat.zero_le _) (by simp [go_sem, w7, hml, hj00]), o0, o1, f3', f4', ob⟩
   have g1_g := fun l => aE (l := l) g1
   have g1_s := fun o l => aJ (l := l) g1 o
   have g1_e := fun o l => aH (o := o) (l := l) g1
   have g1_h := fun o => aL (o := o) g1
   have g2_g := fun l => aE (l := l) g2
   have g2_s := fun o l => aJ (l := l) g2 o
   have g2_e := fun o l => aH (o := o) (l := l) g2
   have g2_h := fun o => aL (o := o) g2
   have g5_g := fun l => aE (l := l) g5
   have g5_s := fun o l => aJ (l := l) g5 o
   have g5_e := fun o l => aH (o := o) (l := l) g5
   have g5_h := fun o => aL (o := o) g5
   have g1_g5b := fun o l => bE (o := o) (l := l) g1 g5 (by simp)
   have g1_g5s := fun o l x => dJ (o := o) (l := l) (x' := x) g1 g5 (by simp)
   have g1_g5g := fun o l x => cZ (o := o) (l := l) (x' := x) g1 g5 (by simp)
   have g1_g5k := fun o l x => cY (o := o) (l := l) (x' := x) g1 g5 (by simp)
   have g2_g5b := fun o l => bE (o := o) (l := l) g2 g5 (by simp)
   have g2_g5s := fun o l x => dJ (o := o) (l := l) (x' := x) g2 g5 (by simp)
   have g2_g5g := fun o l x => cZ (o := o) (l := l) (x' := x) g2 g5 (by simp)
   have g2_g5k := fun o l x => cY (o := o) (l := l) (x' := x) g2 g5 (by simp)
   have hh2 := aX f2
   have hxl : x.length = j + 1 := by have := g3.length_eq; simp at this; omega
   have hxne : x ≠ [] := by intro e; rw [e] at hxl; cases hxl
   simp -implicitDefEqProofs only [go_sem]
   by_cases hk0 : 0 < j - u
   rotate_left
   ·have d0 : decide (((j - u : Nat) : Int) > 0) = false := decide_eq_false (by omega)
    have srt : Srt 0 x.length x := by rw [hxl]; exact g4.all fun h => absurd h hk0
    simp -implicitDefEqProofs only [go_sem, d0, w5]
    exact ⟨(h2.length + 1, x), _, Wk.pick (Nat.zero_le _) (by simp [go_sem, kK S hxne, hxl]), g1, g2, g3, srt, .inr g5⟩
   have d0 : decide (((j - u : Nat) : Int) > 0) = true := decide_eq_true (by omega)
   have hjk : j - (u + 1) = j - u - 1 := by omega
   obtain ⟨k, hk'⟩ : ∃ k, k = j - u := ⟨_, rfl⟩
   rw [<- hk'] at g4 d0 hk0 hjk ⊢
   have hk : k < x.length := by omega
   have hk1 : k - 1 < x.length := by omega
   have wk1 : IntKind.i64.wrap ((k : Int) - 1) = ((k - 1 : Nat) : Int) := by rw [aF _ (by omega)]; omega
   have bk := bnd hk
   have bk1 := bnd hk1
   have ek := aO (Q := rkQ S) hk
   have ek1 := aO (Q := rkQ S) hk1
   have esk := bR (Q := rkQ S) (i := k - 1) hk (x.getD k 0)
   have et : (x.map (encQ (rkQ S))).take (j + 1) = x.map (encQ (rkQ S)) := List.take_of_length_le (by simp [hxl])
   have eb : Nat.ble (j + 1) x.length = true := Nat.ble_eq_true_of_le (by omega)
   have hc := hlt (x.getD (k - 1) 0) (x.getD k 0)
   have hxd : x.Nodup := g3.nodup_iff.1 (hnd.sublist (List.take_sublist _ _))
   have hne2 : x.getD (k - 1) 0 ≠ x.getD k 0 := fun e => by
    have h1 : x.getD (k - 1) 0 = x[k - 1] := by simp [List.getD, hk1]
    have h2 : x.getD k 0 = x[k] := by simp [List.getD, hk]
    rw [h1, h2] at e
    have := (List.nodup_iff_pairwise_ne.1 hxd)
    exact List.pairwise_iff_getElem.1 this (k - 1) k hk1 hk (by omega) e
   simp -implicitDefEqProofs only [go_sem, d0, wk1, et, eb, List.length_map, bk, bk1, ek, ek1, aW, bG, List.append_assoc, g5, g5_g]
   rcases dA : Op.bytesLess (rkQ S (x.getD (k - 1) 0)).name (rkQ S (x.getD k 0)).name
   ·rcases dB : (rkQ S (x.getD (k - 1) 0)).name == (rkQ S (x.getD k 0)).name
    ·have dC : True := trivial
     rw [dA, dB, Bool.false_and, Bool.or_false] at hc
     have hl2 : x.getD k 0 < x.getD (k - 1) 0 := by have := of_decide_eq_false hc.symm; omega
     simp -implicitDefEqProofs only [go_sem, dB, wk1, et, eb, List.length_map, bk1, ek1, esk, aW, kG, g5_g, g5_s, g5_e, List.length_set, bO]
     refine ⟨by simp; omega, by omega, swp x k (k - 1), _, Wk.pick (Nat.zero_le _) (by simp [go_sem, hjk]), (aN (by omega)).trans (aE ((aN (by omega)).trans g1)), (aN (by omega)).trans (aE ((aN (by omega)).trans g2)), g3.trans (oG hk hk1), ?_, ?_⟩
     ·rw [hjk]
      exact g4.swp hk0 (by omega) (by omega) hl2
     ·rw [<- uF (show k - 1 ≠ k by omega)]
      exact aL (aH g5)
    ·rcases dC : decide ((rkQ S (x.getD (k - 1) 0)).arity < (rkQ S (x.getD k 0)).arity)
     ·rw [dA, dB, dC, Bool.and_false, Bool.or_false] at hc
      have hl2 : x.getD k 0 < x.getD (k - 1) 0 := by have := of_decide_eq_false hc.symm; omega
      simp -implicitDefEqProofs only [go_sem, dB, dC, wk1, et, eb, List.length_map, bk1, ek1, esk, aW, kG, g5_g, g5_s, g5_e, List.length_set, bO]
      refine ⟨by simp; omega, by omega, swp x k (k - 1), _, Wk.pick (Nat.zero_le _) (by simp [go_sem, hjk]), (aN (by omega)).trans (aE ((aN (by omega)).trans g1)), (aN (by omega)).trans (aE ((aN (by omega)).trans g2)), g3.trans (oG hk hk1), ?_, ?_⟩
      ·rw [hjk]
       exact g4.swp hk0 (by omega) (by omega) hl2
      ·rw [<- uF (show k - 1 ≠ k by omega)]
       exact aL (aH g5)
     ·rw [dA, dB, dC, Bool.and_true, Bool.or_true] at hc
      have hl2 := of_decide_eq_true hc.symm
      have srt : Srt 0 x.length x := by rw [hxl]; exact g4.all fun _ => by omega
      simp -implicitDefEqProofs only [go_sem, dB, dC, w5, aW]
      exact ⟨(h2.length + 1, x), _, Wk.pick (Nat.zero_le _) (by simp [go_sem, kK S hxne, hxl]), aE g1, aE g2, g3, srt, .inr (aE g5)⟩
   ·have dB : True := trivial
    have dC : True := trivial
    rw [dA, Bool.true_or] at hc
    have hl2 := of_decide_eq_true hc.symm
    have srt : Srt 0 x.length x := by rw [hxl]; exact g4.all fun _ => by omega
    simp -implicitDefEqProofs only [go_sem, w5]
    exact ⟨(h2.length + 1, x), _, Wk.pick (Nat.zero_le _) (by simp [go_sem, kK S hxne, hxl]), aE g1, aE g2, g3, srt, .inr (aE g5)⟩
 ·have hge := aK hjl
  rw [aQ hge] at f3
  have e : m = ints p.procs.length := sY (f3.symm.trans hl0) f4
  have hmS : m.map (encQ (rkQ S)) = S.map encPr := by rw [kO, e, hfin]
  rw [hmS] at f5 ⊢
  simp -implicitDefEqProofs only [go_sem, hjl, f2, f2_h, wP, vV]
  refine oP (T := 60) (s := 3) ?_
  rcases f5 with h | h
  ·left
   have : S.length = 0 := by rw [e2]; omega
   exact List.eq_nil_of_length_eq_zero this
  ·by_cases e : a = 1
   ·subst e; rw [f2] at h; cases h
   ·exact .inr (by rw [aN (fun h => e h.symm)]; exact h)
end Go.Rip
namespace Go.Rip
open Go Go.Proofs
set_option maxRecDepth 100000
attribute [local irreducible] Pure
theorem nR_sizes {c : Cl} (h : sizes c.parts < 2 ^ 30) : sizes c.nR.parts < 2 ^ 30 := by
 unfold Cl.nR
 split
 ·rename_i hn
  simp only [Cl.nOk, Bool.and_eq_true] at hn
  have hto := cS hn.2
  have hno : nodesOks c.parts = true := by simp only [termsOk, Bool.and_eq_true] at hto; exact hto.1
  rw [iV hno, dY]
  have := dG (gI (varsOf c.parts)) c.parts; omega
 ·simp [Cl.nul, Cl.parts, sizes]
theorem fR_sizes {c : Cl} (m : Int) (h : sizes c.parts < 2 ^ 30) : sizes (c.fR m).parts < 2 ^ 30 := by
 unfold Cl.fR
 split
 ·rw [Cl.fresh, cut_map, dY]
  have := dG (fun v => v + m) c.parts; omega
 ·simp [Cl.nul, Cl.parts, sizes]
theorem h13 (p q : Pg) (c : Cl) (m : Int) (hp : p.wid) (hq : q.wid) (hc : c.wid) : Pure (PC GLs) 13 [encPg p, encPg q, encCl c, .i m] (.b true) := by
 obtain ⟨⟨w1, w1'⟩, ⟨w2, w2'⟩, w3, w3'⟩ := hc
 have f1 := h17 (GL := GLs) [c.head, c.guard, c.body] 2000 (by simp [w1, w1', w2, w2', w3, w3']) (by simp) (by omega)
 have q27 := fun h => h27 (GL := GLs) p hp h
 have q27q := fun h => h27 (GL := GLs) q hq h
 simp only [encPg] at q27 q27q
 refine k13.pure (by simp) (by simp [go_sem]) (by simp [go_sem]) ?_
 simp -implicitDefEqProofs only [go_sem, c13, r13, encCl, encPg]
 refine aC hC sane_ok ?_
 simp -implicitDefEqProofs only [go_sem, Bool.not_true]
 refine aR hC (q27 _) fun x h1 ⟨b, hx, hk1, hb⟩ => ?_
 subst hx
 have o1 := hk1.got (i := 0) rfl
 have o2 := hk1.got (i := 1) rfl
 have o3 := hk1.got (i := 2) rfl
 have o1_g := fun l => aE (l := l) o1
 have o1_s := fun o l => aJ (l := l) o1 o
 have o1_e := fun o l => aH (o := o) (l := l) o1
 have o1_h := fun o => aL (o := o) o1
 have o2_g := fun l => aE (l := l) o2
 have o2_s := fun o l => aJ (l := l) o2 o
 have o2_e := fun o l => aH (o := o) (l := l) o2
 have o2_h := fun o => aL (o := o) o2
 have o3_g := fun l => aE (l := l) o3
 have o3_s := fun o l => aJ (l := l) o3 o
 have o3_e := fun o l => aH (o := o) (l := l) o3
 have o3_h := fun o => aL (o := o) o3
 rcases b with _ | _
 ·simp -implicitDefEqProofs only [go_sem, Bool.not_false]
  refine aD ?_ ?_ <;> simp [go_sem]
 have hps := hb rfl
 simp -implicitDefEqProofs only [go_sem, Bool.not_true, o2]
 refine aR hC (q27q _) fun x h2 ⟨b, hx, hk2, hb⟩ => ?_
 subst hx
 have u1 := hk2.got o1
 have u2 := hk2.got o2
 have u3 := hk2.got o3
 clear o1_g o1_s o1_e o1_h o2_g o2_s o2_e o2_h o3_g o3_s o3_e o3_h
 have u1_g := fun l => aE (l := l) u1
 have u1_s := fun o l => aJ (l := l) u1 o
 have u1_e := fun o l => aH (o := o) (l := l) u1
 have u1_h := fun o => aL (o := o) u1
 have u2_g := fun l => aE (l := l) u2
 have u2_s := fun o l => aJ (l := l) u2 o
 have u2_e := fun o l => aH (o := o) (l := l) u2
 have u2_h := fun o => aL (o := o) u2
 have u3_g := fun l => aE (l := l) u3
 have u3_s := fun o l => aJ (l := l) u3 o
 have u3_e := fun o l => aH (o := o) (l := l) u3
 have u3_h := fun o => aL (o := o) u3
 rcases b with _ | _
 ·simp -implicitDefEqProofs only [go_sem, Bool.not_false]
  refine aD ?_ ?_ <;> simp [go_sem]
 have hqs := hb rfl
 simp -implicitDefEqProofs only [go_sem, Bool.not_true, u3, show Nat.blt 1 3 = true from rfl, show Nat.blt 2 3 = true from rfl, show Nat.blt 0 3 = true from rfl]
 refine gX f1 ?_ ?_
 ·simp [fzs, fzGs, fzG, encL, dZ, <- fB]
 rcases hc1 : cnts [c.head, c.guard, c.body].flatten 2000 1 with ⟨_ | _, x⟩
 ·simp -implicitDefEqProofs only [go_sem, Bool.not_false]
  refine aD ?_ ?_ <;> simp [go_sem]
 have hcp : [c.head, c.guard, c.body].flatten = c.parts := by simp [Cl.parts]
 rw [hcp] at hc1
 have hx := eI _ _ _ _ (by omega) hc1
 have hsz : sizes c.parts < 2 ^ 30 := by omega
 have hs := hx.2.2
 have q77 := h77 p hps
 have q78 := h78 p hps
 have q47 := h47 c hsz hs
 have q79 := h79 (GL := GLs) c hsz hs
 have q58 := h58 c m hsz hs
 have q80 := h80 (GL := GLs) c m hsz hs
 have q81 := h81 (GL := GLs) p q hps
 have q81p := h81 (GL := GLs) p p hps
 have q30 := h30g (GL := GLs) p q hps hqs
 have q30s := h30 (GL := GLs) p.sorted (rR hps)
 have q56n := h56 (GL := GLs) c.nR (nR_sizes hsz)
 have q56f := h56 (GL := GLs) (c.fR m) (fR_sizes m hsz)
 rw [vX] at q81p
 clear hcp hc1 hx q27 q27q f1
 generalize p.sorted = S at *
 generalize c.nR = N at *
 generalize c.fR m = F at *
 generalize c.nE = nE at *
 generalize c.fE m = fE at *
 simp only [encPg, encCl] at q77 q78 q47 q79 q58 q80 q81 q81p q30 q30s q56n q56f
 simp -implicitDefEqProofs only [go_sem, Bool.not_true, u1_g]
 refine aC hC q77 ?_
 simp -implicitDefEqProofs only [go_sem, aW, bG, List.append_assoc, u1_g]
 refine aC hC q78 ?_
 simp -implicitDefEqProofs only [go_sem, aW, bG, List.append_assoc, u3_g]
 refine aC hC q47 ?_
 simp -implicitDefEqProofs only [go_sem, aW, bG, List.append_assoc, u3_g]
 refine aC hC q79 ?_
 simp -implicitDefEqProofs only [go_sem, aW, bG, List.append_assoc, u3_g]
 refine aC hC q58 ?_
 simp -implicitDefEqProofs only [go_sem, aW, bG, List.append_assoc, u3_g]
 refine aC hC q80 ?_
 simp -implicitDefEqProofs only [go_sem, aW, bG, List.append_assoc, u1_g, u2_g]
 refine aC hC q81 ?_
 simp -implicitDefEqProofs only [go_sem, u1_g, u2_g]
 refine aC hC q30 ?_
 simp -implicitDefEqProofs only [go_sem, u1_g, beq_self_eq_true]
 refine aC hC q81p ?_
 simp -implicitDefEqProofs only [go_sem, aW]
 refine aC hC q30s ?_
 simp -implicitDefEqProofs only [go_sem, aW, beq_self_eq_true]
 refine aC hC q56n ?_
 simp -implicitDefEqProofs only [go_sem, aW, beq_self_eq_true]
 refine aC hC q56f ?_
 simp -implicitDefEqProofs only [go_sem, beq_self_eq_true]
 refine aD ?_ ?_ <;> simp [go_sem]
end Go.Rip
