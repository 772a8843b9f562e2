/- Trees in memory of their own; equal lists, equal clauses. -/
import Derived.Test.YtndcajdameofjaaGreatDoorRipBD
import Derived.Test.YtndcajdameofjaaGreatDoorRipAT
import Derived.Test.YtndcajdameofjaaGreatDoorRipBA
import Derived.Test.YtndcajdameofjaaGreatDoorRipBC
namespace Go.Rip
open Go
set_option maxRecDepth 100000
theorem take_snoc_map {α β : Type} {l : List α} {j : Nat} (hlt : j < l.length) (f : α -> β) : (l.take (j + 1)).map f = (l.take j).map f ++ [f l[j]] := by
 rw [List.take_succ_eq_append_getElem hlt, List.map_append]; rfl
theorem take_all_map {α β : Type} {l : List α} {j : Nat} (h : l.length <= j) (f : α -> β) : (l.take j).map f = l.map f := by rw [List.take_of_length_le h]
variable {GL : Glob}
theorem h207 : ∀ (n : Nat) (l : List Tm), sizes l <= n -> n < 2 ^ 30 -> Pure (PC GL) 207 [.sl 4 (l.map enc)] (.sl 4 (l.map enc)) := by
 intro n
 induction n with
 | zero =>
  intro l hl _
  have h4 := aW l
  have : l = [] := List.length_eq_zero_iff.1 (by omega)
  subst this
  refine k207.pure (by simp) (by simp [go_sem]) (by simp [go_sem]) ?_
  simp -implicitDefEqProofs only [c207, r207, go_sem]
  refine aZ hC (fun j (_ : Unit) => [(8, .i j), (7, .i (0 : Nat)), (3, .v (.slice none 0 0))]) (fun j (_ : Unit) h => True) 0 ⟨(), _, Wk.pick (Nat.zero_le _) (by simp [go_sem]), trivial⟩ fun j _ h hj _ => ?_
  have : j = 0 := by omega
  subst this
  simp -implicitDefEqProofs only [go_sem, show decide (((0 : Nat) : Int) < ((0 : Nat) : Int)) = false from rfl]
  refine aF ?_ (by simp [go_sem])
  simp [go_sem]
 | succ n ih =>
 intro l hl hn
 have h4 := aW l
 refine k207.pure (by simp) (by simp [go_sem]) (by simp [go_sem]) ?_
 simp -implicitDefEqProofs only [c207, r207, go_sem]
 refine aZ hC (fun j a => [(8, .i j), (3, .own a 4 ((l.take j).map enc)), (6, .sl 4 (l.map enc)), (7, .i l.length)]) (fun j a h => h[a]? = some (.spare 24 4)) l.length ?_ fun j a h hj ha => ?_
 ·refine ⟨0, _, (Wk.own_nil (h := []) 24 4 3 (by simp [go_sem]) (Nat.zero_le _)).trans (Wk.pick (by simp) (by simp [go_sem])), rfl⟩
 have ha_g := fun l => aE (l := l) ha
 have ha_s := fun o l => aO (l := l) ha o
 have ha_e := fun o l => aP (o := o) (l := l) ha
 have ha_h := fun o => aJ (o := o) ha
 simp -implicitDefEqProofs only [go_sem]
 refine aG (fun hlt => ?_) (fun hlt => ?_)
 ·have hlt := aI hlt
  have g1 := bQ hlt
  have g2 := dC l[j]
  have w5 : IntKind.i64.wrap ((j : Int) + 1) = (j : Int) + 1 := aD _ (by omega)
  simp -implicitDefEqProofs only [go_sem, hlt, aS]
  refine aC hC (ih l[j].l (by omega) (by omega)) ?_
  simp -implicitDefEqProofs only [go_sem, List.append_assoc, ha_g, ha_s]
  refine ⟨by simp; omega, ?_⟩
  refine ⟨h.length + 2, _, Wk.pick (Nat.zero_le _) (by simp [go_sem, w5, take_snoc_map hlt]), ?_⟩
  rw [get_ge (by simp)]; simp
 ·have hge := aL hlt
  simp -implicitDefEqProofs only [go_sem, hlt, take_all_map hge]
  refine aF ?_ (by simp [go_sem])
  simp [go_sem]
noncomputable def sames (a b : List Tm) : Bool := @decide (a = b) (Classical.propDecidable _)
theorem sames_iff {a b : List Tm} : sames a b = true ↔ a = b := by simp [sames]
theorem h35 (a : List Tm) (hs : sizes a < 2 ^ 30) (b : List Tm) (hb : b.length < 2 ^ 47) : Pure (PC GL) 35 [.sl 4 (a.map enc), .sl 4 (b.map enc)] (.b (sames a b)) := by
 have h4 := aW a
 refine k35.pure (by simp) (by simp [go_sem]) (by simp [go_sem]) ?_
 simp -implicitDefEqProofs only [c35, r35, go_sem]
 by_cases hl : a.length = b.length
 ·have e : ((a.length : Int) != (b.length : Int)) = false := by simp [hl]
  simp -implicitDefEqProofs only [go_sem, e]
  refine aZ hC (fun j (_ : Unit) => [(5, .i j), (0, .sl 4 (a.map enc)), (1, .sl 4 (b.map enc))]) (fun j (_ : Unit) _ => a.take j = b.take j) a.length ⟨(), _, Wk.pick (Nat.zero_le _) (by simp [go_sem]), by simp⟩ fun j _ h hj hI => ?_
  simp -implicitDefEqProofs only [go_sem]
  refine aG (fun hlt => ?_) (fun hlt => ?_)
  ·have hlt := aI hlt
   have hlb : j < b.length := by omega
   have g1 := bQ hlt
   have w5 : IntKind.i64.wrap ((j : Int) + 1) = (j : Int) + 1 := aD _ (by omega)
   have db : decide ((j : Int) < (b.length : Int)) = true := decide_eq_true (by omega)
   simp -implicitDefEqProofs only [go_sem, hlt, hlb, aS]
   refine aC hC (h24 a[j] (by omega) b[j]) ?_
   simp -implicitDefEqProofs only [go_sem]
   by_cases hx : a[j] = b[j]
   ·have e2 : a[j].same b[j] = true := same_iff.2 hx
    simp -implicitDefEqProofs only [go_sem, e2, Bool.not_true]
    refine ⟨(), _, Wk.pick (Nat.zero_le _) (by simp [go_sem, w5]), ?_⟩
    rw [List.take_succ_eq_append_getElem hlt, List.take_succ_eq_append_getElem hlb, hI, hx]
   ·have e2 : a[j].same b[j] = false := same_false hx
    have e3 : sames a b = false := by
     rw [Bool.eq_false_iff]
     intro h
     have := sames_iff.1 h
     subst this
     exact hx rfl
    simp -implicitDefEqProofs only [go_sem, e2, e3, Bool.not_false]
    refine aF ?_ ?_ <;> simp [go_sem]
  ·have hge := aL hlt
   rw [aU hge, aU (by omega)] at hI
   have e3 : sames a b = true := sames_iff.2 hI
   simp -implicitDefEqProofs only [go_sem, hlt, e3]
   refine aF ?_ ?_ <;> simp [go_sem]
 ·have e : ((a.length : Int) != (b.length : Int)) = true := by simp; omega
  have e3 : sames a b = false := by
   rw [Bool.eq_false_iff]
   intro h
   exact hl (by rw [sames_iff.1 h])
  simp -implicitDefEqProofs only [go_sem, e, e3]
  refine aF ?_ ?_ <;> simp [go_sem]
theorem h56 (c : Cl) (hs : sizes c.parts < 2 ^ 30) : Pure (PC GL) 56 [encCl c, encCl c] (.b true) := by
 have hp : sizes c.parts = sizes c.head + (sizes c.guard + sizes c.body) := by simp [Cl.parts, cW]
 have l1 := aW c.head
 have l2 := aW c.guard
 have l3 := aW c.body
 have q1 := h35 (GL := GL) c.head (by omega) c.head (by omega)
 have q2 := h35 (GL := GL) c.guard (by omega) c.guard (by omega)
 have q3 := h35 (GL := GL) c.body (by omega) c.body (by omega)
 rw [sames_iff.2 rfl] at q1 q2 q3
 refine k56.pure (by simp) (by simp [go_sem]) (by simp [go_sem]) ?_
 simp -implicitDefEqProofs only [go_sem, c56, r56, encCl, beq_self_eq_true]
 refine aC hC q1 ?_
 simp -implicitDefEqProofs only [go_sem]
 refine aC hC q2 ?_
 simp -implicitDefEqProofs only [go_sem]
 refine aC hC q3 ?_
 simp -implicitDefEqProofs only [go_sem]
 refine aF ?_ ?_ <;> simp [go_sem]
end Go.Rip
namespace Go.Rip
open Go Go.Proofs
set_option maxRecDepth 100000
variable {GL : Glob}
attribute [local irreducible] Pure
def ownA (a sz : Nat) (l : List AV) : AV := if l = [] then .v (.slice none 0 0) else .own a sz l
theorem ownA_cons {a sz : Nat} {l : List AV} (h : l ≠ []) : ownA a sz l = .own a sz l := if_neg h
theorem ownA_snoc (a sz : Nat) (l : List AV) (x : AV) : ownA a sz (l ++ [x]) = .own a sz (l ++ [x]) := by simp [ownA]
theorem wkr_ownA (a sz : Nat) (l : List AV) : wkr (ownA a sz l) (.sl sz l) := by
 unfold ownA; split
 ·simp [wkr, *]
 ·simp [wkr]
theorem h159 (q : Pr) (hl : q.clauses.length < 2 ^ 40) (hq : ∀ c ∈ q.clauses, sizes c.parts < 2 ^ 30) : Pure (PC GL) 159 [encPr q] (encPr q) := by
 refine k159.pure (by simp) (by simp [go_sem]) (by simp [go_sem]) ?_
 simp -implicitDefEqProofs only [go_sem, c159, r159, encPr]
 refine aZ hC (fun j (_ : Nat) => [(14, .i j), (12, .sl 5 (q.clauses.map encCl)), (13, .i q.clauses.length), (2, .ref 1 0), (3, .ref 2 0)])
  (fun j a h' => h'[1]? = some (.cells 60 [.str [], .i 0, .v (.slice none 0 0)]) /\ h'[2]? = some (.cells 60 [.str q.name, .i q.arity, ownA a 5 ((q.clauses.take j).map encCl)]) /\ (j = 0 ∨ h'[a]? = some (.spare 68 5))) q.clauses.length ?_ fun j a h2 hj ⟨f1, f2, f3⟩ => ?_
 ·exact ⟨0, _, Wk.pick (Nat.zero_le _) (by simp [go_sem]), rfl, rfl, .inl rfl⟩
 have f1_g := fun l => aE (l := l) f1
 have f1_s := fun o l => aO (l := l) f1 o
 have f1_e := fun o l => aP (o := o) (l := l) f1
 have f1_h := fun o => aJ (o := o) f1
 have f2_g := fun l => aE (l := l) f2
 have f2_s := fun o l => aO (l := l) f2 o
 have f2_e := fun o l => aP (o := o) (l := l) f2
 have f2_h := fun o => aJ (o := o) f2
 simp -implicitDefEqProofs only [go_sem]
 refine aG (fun hlt => ?_) (fun hlt => ?_)
 ·have hlt := aI hlt
  have w5 : IntKind.i64.wrap ((j : Int) + 1) = (j : Int) + 1 := aD _ (by omega)
  have hc := hq _ (List.getElem_mem hlt)
  have hs : (q.clauses.take (j + 1)).map encCl = (q.clauses.take j).map encCl ++ [encCl q.clauses[j]] := take_snoc_map hlt encCl
  obtain ⟨c, hcd⟩ : ∃ c, q.clauses[j] = c := ⟨_, rfl⟩
  rw [hcd] at hc hs
  have hp : sizes c.parts = sizes c.head + (sizes c.guard + sizes c.body) := by simp [Cl.parts, cW]
  have q1 := h207 (GL := GL) _ c.head (Nat.le_refl _) (by omega)
  have q2 := h207 (GL := GL) _ c.guard (Nat.le_refl _) (by omega)
  have q3 := h207 (GL := GL) _ c.body (Nat.le_refl _) (by omega)
  simp -implicitDefEqProofs only [go_sem, hlt, aS, hcd, encCl, f2_g]
  refine aC hC q1 ?_
  simp -implicitDefEqProofs only [go_sem, f2_g]
  refine aC hC q2 ?_
  simp -implicitDefEqProofs only [go_sem, f2_g]
  refine aC hC q3 ?_
  simp -implicitDefEqProofs only [go_sem, List.append_assoc, f2_g, f2_s]
  have nx : j = 0 ∨ (q.clauses.take j).map encCl ≠ [] := by
   rcases Nat.eq_zero_or_pos j with h | h
   ·exact .inl h
   ·refine .inr fun e => ?_
    have := congrArg List.length e
    simp only [List.length_map, List.length_take, List.length_nil] at this
    omega
  have ll : ((q.clauses.take j).map encCl).length <= q.clauses.length := by simp; omega
  have hso : ownA (h2.length + 2) 5 ((q.clauses.take (j + 1)).map encCl) = .own (h2.length + 2) 5 ((q.clauses.take j).map encCl ++ [encCl c]) := by rw [hs, ownA_snoc]
  rcases nx with rfl | hne
  ·simp -implicitDefEqProofs only [go_sem, blt01, w5]
   refine ⟨by simp, h2.length + 2, _, Wk.pick (Nat.zero_le _) (by simp [go_sem]), ?_, ?_, .inr ?_⟩
   ·rw [aE]
    rw [aR (by omega)]; exact f1
   ·rw [hso]; exact f2_e _ _
   ·rw [List.getElem?_append_right (by simp)]; simp
  ·have f4 := f3.resolve_left (by rintro rfl; exact hne rfl)
   have f4_g := fun l => aE (l := l) f4
   have f4_s := fun o l => aO (l := l) f4 o
   have f4_e := fun o l => aP (o := o) (l := l) f4
   have f4_h := fun o => aJ (o := o) f4
   have f2_f4b := fun o l => get_beside (o := o) (l := l) f2 f4 (by simp)
   have f2_f4s := fun o l x => set_beside (o := o) (l := l) (x' := x) f2 f4 (by simp)
   have f2_f4g := fun o l x => get_beside2 (o := o) (l := l) (x' := x) f2 f4 (by simp)
   have f2_f4k := fun o l x => get_beside3 (o := o) (l := l) (x' := x) f2 f4 (by simp)
   generalize hL : (q.clauses.take j).map encCl = L at *
   simp -implicitDefEqProofs only [go_sem, blt01, ownA_cons hne, List.append_assoc, f4_g, f4_s, f2_f4b, f2_f4s, w5]
   refine ⟨by omega, h2.length + 2, _, Wk.pick (Nat.zero_le _) (by simp [go_sem]), ?_, ?_, .inr ?_⟩
   ·rw [aE]
    rw [aR (by omega), aR (cJ f4 f1 (by simp))]; exact f1
   ·rw [hso]; exact f2_f4g _ _ _
   ·rw [List.getElem?_append_right (by simp)]; simp
 ·have hge := aL hlt
  rw [take_all_map hge] at f2
  have f2_g := fun l => aE (l := l) f2
  have f2_s := fun o l => aO (l := l) f2 o
  have f2_e := fun o l => aP (o := o) (l := l) f2
  have f2_h := fun o => aJ (o := o) f2
  simp -implicitDefEqProofs only [go_sem, hlt, f1, f1_h, f2]
  refine aF ?_ ?_
  ·simp only [wkr, wkrs, and_true, true_and]
   exact wkr_ownA _ _ _
  ·simp [go_sem]
def vecA (a sz : Nat) (l : List AV) : AV := if l = [] then .v (.slice none 0 0) else .vec a sz l.length
theorem vecA_nil (a sz : Nat) : vecA a sz [] = .v (.slice none 0 0) := rfl
theorem vecA_cons {a sz : Nat} {l : List AV} (h : l ≠ []) : vecA a sz l = .vec a sz l.length := if_neg h
theorem vecA_snoc (a sz : Nat) (l : List AV) (x : AV) : vecA a sz (l ++ [x]) = .vec a sz (l.length + 1) := by simp [vecA]
theorem fzGs_terms (φ : Nat -> Nat -> Nat -> AV) (l : List Tm) : fzGs φ (l.map enc) = l.map enc := by rw [<- encs_map]; exact fzGs_encs φ l
theorem fzG_encCl (φ : Nat -> Nat -> Nat -> AV) (c : Cl) : fzG φ (encCl c) = encCl c := by simp only [encCl, fzG, fzGs, fzGs_terms]
theorem fzGs_cls (φ : Nat -> Nat -> Nat -> AV) : ∀ l : List Cl, fzGs φ (l.map encCl) = l.map encCl
 | [] => rfl
 | c :: r => by simp only [List.map_cons, fzGs, fzG_encCl, fzGs_cls φ r]
theorem fzG_encPr (φ : Nat -> Nat -> Nat -> AV) (q : Pr) : fzG φ (encPr q) = encPr q := by simp only [encPr, fzG, fzGs, fzGs_cls]
def pickP (p : Pg) (ks : List Nat) : List AV := ks.map fun i => encPr (p.procs.getD i default)
theorem pickP_len (p : Pg) (ks : List Nat) : (pickP p ks).length = ks.length := by simp [pickP]
theorem pickP_snoc (p : Pg) {ks : List Nat} {j : Nat} (h : j < ks.length) : pickP p (ks.take (j + 1)) = pickP p (ks.take j) ++ [encPr (p.procs.getD ks[j] default)] := by
 unfold pickP; rw [bB h, List.map_append]; rfl
theorem fzG_pickP (φ : Nat -> Nat -> Nat -> AV) (p : Pg) (ks : List Nat) : ∀ x ∈ pickP p ks, fzG φ x = x := fun x hx => by
 obtain ⟨i, _, rfl⟩ := List.mem_map.1 hx; exact fzG_encPr φ _
theorem bds_pickP (p : Pg) (ks : List Nat) : bds 0 (pickP p ks) := by
 have : pickP p ks = (ks.map fun i => p.procs.getD i default).map encPr := by simp [pickP]
 rw [this]; exact (free_encPr.bds _ _).symm ▸ trivial
theorem fin_vecs {a : Nat} {l : List AV} {h : List AObj} {T : TypeId} {s : Nat} {e : Int} (ha : l = [] ∨ h[a]? = some (.buf T s l)) (hb : bds 0 l) (hz : ∀ x ∈ l, fz x = x) :
  ∃ y h', Wk GL 0 [(0, .tup [.agg [vecA a 3 l], .i e])] h [(0, y)] h' /\ h' = [] /\ ARes.val y = ARes.val (.tup [.agg [.sl 3 l], .i e]) := by
 by_cases hl : l = []
 ·rw [hl]
  exact aF (wkr_pair (by simp [vecA, wkr, wkrs]) rfl) (by simp [go_sem])
 ·have ha := ha.resolve_left hl
  have e1 : fzN h 1 (.tup [.agg [.vec a 3 l.length], .i e]) = .tup [.agg [.sl 3 l], .i e] := by
   have : fzN h 0 = fz := rfl
   simp only [fzN, fzG, fzGs, ha, List.take_length]
   rw [show Nat.ble l.length l.length = true from aQ _]
   have : l.map fz = l := by
    conv => rhs; rw [<- List.map_id l]
    exact List.map_congr_left fun x hx => hz x hx
   simp only [this]
  rw [vecA_cons hl]
  have hb : bd 0 (fzN h 1 (.tup [.agg [.vec a 3 l.length], .i e])) := by rw [e1]; simp [go_sem, hb]
  have := Wk.fzN (GL := GL) 1 hb
  rw [e1] at this
  exact ⟨_, [], this, rfl, rfl⟩
def trimP (p : Pg) (q : Qy) : Pg := ⟨(reachR p q).map fun i => p.procs.getD i default⟩
theorem encPg_trim (p : Pg) (q : Qy) : encPg (trimP p q) = .agg [.sl 3 (pickP p (reachR p q))] := by simp [encPg, trimP, pickP]
theorem reachR_lt {p : Pg} {q : Qy} : ∀ x ∈ reachR p q, x < p.procs.length := fun x hx => by
 unfold reachR at hx
 split at hx
 ·have := nxs_lt hx
  rwa [reachS, closeF_len, cR] at this
 ·simp at hx
theorem reachR_len (p : Pg) (q : Qy) : (reachR p q).length <= p.procs.length := by
 unfold reachR
 split
 ·have := nxs_len (reachS p q.goals)
  rwa [reachS, closeF_len, cR] at this
 ·simp
theorem h70 (p : Pg) (hp : p.small) (q : Qy) (hq : q.fits) (hq2 : q.goals.length < 2 ^ 24) : Pure (PC GLs) 70 [encPg p, encQy q] (.tup [encPg (trimP p q), .i (okE (okQuery p q))]) := by
 have qR := h65 p hp q hq hq2
 have hl := hp.l
 have hlt' := reachR_lt (p := p) (q := q)
 have hrl := reachR_len p q
 have hno : okQuery p q = false -> reachR p q = [] := fun e => by simp [reachR, e]
 simp only [encPg, encQy] at qR
 rw [encPg_trim]
 have hbk := bds_pickP p (reachR p q)
 generalize reachR p q = ks at *
 refine k70.pure (by simp) (by simp [go_sem]) (by simp [go_sem, hbk]) ?_
 simp -implicitDefEqProofs only [go_sem, c70, r70, encPg, encQy]
 refine aC hC qR ?_
 rcases hok : okQuery p q with _ | _
 ·have e0 : okE false = 5 := rfl
  rw [hno hok]
  simp -implicitDefEqProofs only [go_sem, e0, bne50]
  exact aF (wkr_pair (by simp [pickP, wkr, wkrs]) rfl) (by simp [pickP, go_sem])
 have e0 : okE true = 0 := rfl
 simp -implicitDefEqProofs only [go_sem, e0, bne_self_eq_false]
 refine aZ hC (fun j (_ : Nat) => [(23, .i j), (21, .sl 1 (ks.map encN)), (22, .i ks.length), (2, .ref 0 0), (4, .ref 2 0), (8, .ref 3 0)])
  (fun j a h' => h'[0]? = some (.cells 37 [.sl 3 (p.procs.map encPr)]) /\ h'[2]? = some (.cells 37 [.v (.slice none 0 0)]) /\ h'[3]? = some (.cells 37 [vecA a 3 (pickP p (ks.take j))]) /\ (j = 0 ∨ h'[a]? = some (.buf 60 3 (pickP p (ks.take j))))) ks.length ?_ fun j a h2 hj ⟨f1, f2, f3, f4⟩ => ?_
 ·exact ⟨0, _, Wk.pick (Nat.zero_le _) (by simp [go_sem]), rfl, rfl, rfl, .inl rfl⟩
 have f1_g := fun l => aE (l := l) f1
 have f1_s := fun o l => aO (l := l) f1 o
 have f1_e := fun o l => aP (o := o) (l := l) f1
 have f1_h := fun o => aJ (o := o) f1
 have f2_g := fun l => aE (l := l) f2
 have f2_s := fun o l => aO (l := l) f2 o
 have f2_e := fun o l => aP (o := o) (l := l) f2
 have f2_h := fun o => aJ (o := o) f2
 have f3_g := fun l => aE (l := l) f3
 have f3_s := fun o l => aO (l := l) f3 o
 have f3_e := fun o l => aP (o := o) (l := l) f3
 have f3_h := fun o => aJ (o := o) f3
 simp -implicitDefEqProofs only [go_sem]
 refine aG (fun hlt => ?_) (fun hlt => ?_)
 ·have hlt := aI hlt
  have w5 : IntKind.i64.wrap ((j : Int) + 1) = (j : Int) + 1 := aD _ (by omega)
  have hi := hlt' _ (List.getElem_mem hlt)
  have hs := pickP_snoc p hlt
  have hq0 : p.procs.getD ks[j] default = p.procs[ks[j]] := by simp [List.getD, hi]
  rw [hq0] at hs
  have hqs := hp.q _ (List.getElem_mem hi)
  have hc := hqs.c
  have ll := pickP_len p (ks.take j)
  rw [List.length_take, Nat.min_eq_left (Nat.le_of_lt hlt)] at ll
  have hbL := bds_pickP p (ks.take j)
  have lk : ks.length < 2 ^ 24 := by omega
  have q159 := h159 (GL := GLs) p.procs[ks[j]] (by omega) fun c hcm => by have := (hqs.t c hcm).1; omega
  obtain ⟨Q, hQ⟩ : ∃ Q, p.procs[ks[j]] = Q := ⟨_, rfl⟩
  rw [hQ] at hs
  rw [hQ] at q159
  simp only [encPr] at q159
  generalize pickP p (ks.take j) = L at *
  simp -implicitDefEqProofs only [go_sem, hlt, aS, encN, bnd hi, hi, hQ, encPr, f1, f3]
  refine aC hC q159 ?_
  have nx : L = [] ∨ h2[a]? = some (.buf 60 3 L) /\ L ≠ [] := by
   rcases f4 with h | h
   ·exact .inl (List.eq_nil_of_length_eq_zero (by omega))
   ·by_cases e : L = []
    ·exact .inl e
    ·exact .inr ⟨h, e⟩
  rcases nx with hL0 | ⟨f5, hne⟩
  ·subst hL0
   have hj0 : j = 0 := ll.symm
   have f3b : h2[3]? = some (.cells 37 [.v (.slice none 0 0)]) := f3
   have f3b_g := fun l => aE (l := l) f3b
   have f3b_s := fun o l => aO (l := l) f3b o
   have f3b_e := fun o l => aP (o := o) (l := l) f3b
   have f3b_h := fun o => aJ (o := o) f3b
   simp -implicitDefEqProofs only [go_sem, vecA_nil, blt01, List.append_assoc, f3b, f3b_g, f3b_s, w5]
   refine ⟨by simp, h2.length + 1, _, Wk.pick (Nat.zero_le _) (by simp [go_sem]), ?_, ?_, ?_, .inr ?_⟩
   ·exact aE (by rw [aR (by omega)]; exact f1)
   ·exact aE (by rw [aR (by omega)]; exact f2)
   ·rw [hs, vecA_snoc]; exact f3b_e _ _
   ·rw [List.getElem?_append_right (by simp), hs]; simp [encPr]
  ·have f3b : h2[3]? = some (.cells 37 [.vec a 3 L.length]) := by rw [<- vecA_cons hne]; exact f3
   have f5_g := fun l => aE (l := l) f5
   have f5_s := fun o l => aO (l := l) f5 o
   have f5_e := fun o l => aP (o := o) (l := l) f5
   have f5_h := fun o => aJ (o := o) f5
   have f3b_g := fun l => aE (l := l) f3b
   have f3b_s := fun o l => aO (l := l) f3b o
   have f3b_e := fun o l => aP (o := o) (l := l) f3b
   have f3b_h := fun o => aJ (o := o) f3b
   have f3b_f5b := fun o l => get_beside (o := o) (l := l) f3b f5 (by simp)
   have f3b_f5s := fun o l x => set_beside (o := o) (l := l) (x' := x) f3b f5 (by simp)
   have f3b_f5g := fun o l x => get_beside2 (o := o) (l := l) (x' := x) f3b f5 (by simp)
   have f3b_f5k := fun o l x => get_beside3 (o := o) (l := l) (x' := x) f3b f5 (by simp)
   simp -implicitDefEqProofs only [go_sem, vecA_cons hne, blt01, List.append_assoc, f5_g, f5_s, f3b, f3b_g, f3b_f5b, f3b_f5s, w5]
   refine ⟨⟨by omega, by omega⟩, h2.length + 1, _, Wk.pick (Nat.zero_le _) (by simp [go_sem]), ?_, ?_, ?_, .inr ?_⟩
   ·exact aE (by rw [aR (by omega), aR (cJ f5 f1 (by simp))]; exact f1)
   ·exact aE (by rw [aR (by omega), aR (cJ f5 f2 (by simp))]; exact f2)
   ·rw [hs, vecA_snoc]; exact f3b_f5g _ _ _
   ·rw [List.getElem?_append_right (by simp), hs]; simp [encPr]
 ·have hge := aL hlt
  rw [aU hge] at f3 f4
  have f3_g := fun l => aE (l := l) f3
  have f3_s := fun o l => aO (l := l) f3 o
  have f3_e := fun o l => aP (o := o) (l := l) f3
  have f3_h := fun o => aJ (o := o) f3
  simp -implicitDefEqProofs only [go_sem, hlt, f2, f2_h, f3]
  refine fin_vecs (T := 60) (s := 3) ?_ hbk (fzG_pickP _ p ks)
  have hl2 := pickP_len p ks
  rcases f4 with h | h
  ·exact .inl (List.eq_nil_of_length_eq_zero (by omega))
  ·by_cases e : a = 2
   ·subst e; rw [f2] at h; cases h
   ·exact .inr (by rw [aR (fun h => e h.symm)]; exact h)
theorem h73 (q : Pr) (hl : q.clauses.length < 2 ^ 40) (hq : ∀ c ∈ q.clauses, sizes c.parts < 2 ^ 30) : Pure (PC GL) 73 [encPr q, encPr q] (.b true) := by
 refine k73.pure (by simp) (by simp [go_sem]) (by simp [go_sem]) ?_
 simp -implicitDefEqProofs only [go_sem, c73, r73, encPr, bne_self_eq_false, beq_self_eq_true, Bool.not_true]
 refine aZ hC (fun j (_ : Unit) => [(5, .i j), (2, .ref 0 0), (3, .ref 1 0)])
  (fun j (_ : Unit) h' => h'[0]? = some (.cells 60 [.str q.name, .i q.arity, .sl 5 (q.clauses.map encCl)]) /\ h'[1]? = some (.cells 60 [.str q.name, .i q.arity, .sl 5 (q.clauses.map encCl)])) q.clauses.length ⟨(), _, Wk.pick (Nat.zero_le _) (by simp [go_sem]), rfl, rfl⟩ fun j _ h2 hj ⟨f1, f2⟩ => ?_
 have f1_g := fun l => aE (l := l) f1
 have f1_s := fun o l => aO (l := l) f1 o
 have f1_e := fun o l => aP (o := o) (l := l) f1
 have f1_h := fun o => aJ (o := o) f1
 have f2_g := fun l => aE (l := l) f2
 have f2_s := fun o l => aO (l := l) f2 o
 have f2_e := fun o l => aP (o := o) (l := l) f2
 have f2_h := fun o => aJ (o := o) f2
 simp -implicitDefEqProofs only [go_sem, f1]
 refine aG (fun hlt => ?_) (fun hlt => ?_)
 ·have hlt := aI hlt
  have w5 : IntKind.i64.wrap ((j : Int) + 1) = (j : Int) + 1 := aD _ (by omega)
  have q56 := h56 (GL := GL) q.clauses[j] (hq _ (List.getElem_mem hlt))
  simp -implicitDefEqProofs only [go_sem, hlt, aS, f1, f2]
  refine aC hC q56 ?_
  simp -implicitDefEqProofs only [go_sem, Bool.not_true, w5]
  refine ⟨(), _, Wk.pick (Nat.zero_le _) (by simp [go_sem]), ?_, ?_⟩ <;> first | exact f1 | exact f2 | simp [f1, f2]
 ·simp -implicitDefEqProofs only [go_sem, hlt]
  refine aF ?_ ?_ <;> simp [go_sem]
theorem h30 (p : Pg) (hp : p.small) : Pure (PC GL) 30 [encPg p, encPg p] (.b true) := by
 have hl := hp.l
 refine k30.pure (by simp) (by simp [go_sem]) (by simp [go_sem]) ?_
 simp -implicitDefEqProofs only [go_sem, c30, r30, encPg, bne_self_eq_false]
 refine aZ hC (fun j (_ : Unit) => [(5, .i j), (2, .ref 0 0), (3, .ref 1 0)])
  (fun j (_ : Unit) h' => h'[0]? = some (.cells 37 [.sl 3 (p.procs.map encPr)]) /\ h'[1]? = some (.cells 37 [.sl 3 (p.procs.map encPr)])) p.procs.length ⟨(), _, Wk.pick (Nat.zero_le _) (by simp [go_sem]), rfl, rfl⟩ fun j _ h2 hj ⟨f1, f2⟩ => ?_
 have f1_g := fun l => aE (l := l) f1
 have f1_s := fun o l => aO (l := l) f1 o
 have f1_e := fun o l => aP (o := o) (l := l) f1
 have f1_h := fun o => aJ (o := o) f1
 have f2_g := fun l => aE (l := l) f2
 have f2_s := fun o l => aO (l := l) f2 o
 have f2_e := fun o l => aP (o := o) (l := l) f2
 have f2_h := fun o => aJ (o := o) f2
 simp -implicitDefEqProofs only [go_sem, f1]
 refine aG (fun hlt => ?_) (fun hlt => ?_)
 ·have hlt := aI hlt
  have w5 : IntKind.i64.wrap ((j : Int) + 1) = (j : Int) + 1 := aD _ (by omega)
  have hqs := hp.q _ (List.getElem_mem hlt)
  have hc := hqs.c
  have q73 := h73 (GL := GL) p.procs[j] (by omega) fun c hcm => by have := (hqs.t c hcm).1; omega
  simp -implicitDefEqProofs only [go_sem, hlt, aS, f1, f2]
  refine aC hC q73 ?_
  simp -implicitDefEqProofs only [go_sem, Bool.not_true, w5]
  refine ⟨(), _, Wk.pick (Nat.zero_le _) (by simp [go_sem]), ?_, ?_⟩ <;> first | exact f1 | exact f2 | simp [f1, f2]
 ·simp -implicitDefEqProofs only [go_sem, hlt]
  refine aF ?_ ?_ <;> simp [go_sem]
end Go.Rip
namespace Go.Rip
open Go Go.Proofs
set_option maxRecDepth 100000
theorem idxS_val {s : Sym} : ∀ {l : List Sym} {i : Nat}, idxS s l = some i -> ∃ h : i < l.length, l[i] = s
 | [], i, h => by cases h
 | k :: r, i, h => by
  simp only [idxS] at h
  split at h
  ·rename_i e
   obtain rfl := Option.some.inj h
   exact ⟨by simp, by simp [e]⟩
  ·obtain ⟨j, hj, rfl⟩ := Option.map_eq_some_iff.1 h
   obtain ⟨h1, h2⟩ := idxS_val hj
   exact ⟨by simpa using h1, by simpa using h2⟩
theorem findS_val {s : Sym} {l : List Sym} {i : Nat} (h : findS s l = i) : ∃ h : i < l.length, l[i] = s := by
 unfold findS at h
 split at h
 ·rename_i j hj
  obtain rfl : j = i := by omega
  exact idxS_val hj
 ·omega
theorem findS_at {l : List Sym} (hn : l.Nodup) {j : Nat} (hj : j < l.length) : findS l[j] l = j := by
 have h := find_self hj
 have : decide (l[j] ∈ l.take j) = false := decide_eq_false fun hm => by
  obtain ⟨i, hi, e⟩ := List.mem_iff_getElem.1 hm
  rw [List.getElem_take] at e
  have hi' : i < j := by simp at hi; omega
  have := (List.nodup_iff_pairwise_ne.1 hn)
  have := List.pairwise_iff_getElem.1 this i j (by omega) hj hi'
  exact this e
 rw [this] at h
 simpa using h
def Pr.fine (q : Pr) : Bool := nameOk q.name && (!decide (q.arity < 0) && (!decide (q.arity > 16) && (!q.sym.res && !decide ((q.clauses.length : Int) > 32))))
theorem headsOk_iff : ∀ (l : List Pr) (seen : List Sym), headsOk seen l = true ↔ (l.map Pr.sym).Nodup /\ (∀ q ∈ l, q.sym ∉ seen) /\ ∀ q ∈ l, q.fine = true
 | [], seen => by simp [headsOk]
 | q :: r, seen => by
  rw [headsOk, Bool.and_eq_true, headsOk_iff r]
  have hq : q.head seen = true ↔ q.sym ∉ seen /\ q.fine = true := by
   rw [Pr.head, Bool.and_eq_true, Bool.not_eq_true', decide_eq_false_iff_not]; rfl
  rw [hq, List.map_cons, List.nodup_cons]
  constructor
  ·rintro ⟨⟨h1, h2⟩, h3, h4, h5⟩
   refine ⟨⟨fun hm => ?_, h3⟩, fun x hx => ?_, fun x hx => ?_⟩
   ·obtain ⟨y, hy, e⟩ := List.mem_map.1 hm
    exact h4 y hy (by rw [e]; simp)
   ·rcases List.mem_cons.1 hx with e | hx
    ·rw [e]; exact h1
    ·exact fun h => h4 x hx (by simp [h])
   ·rcases List.mem_cons.1 hx with e | hx
    ·rw [e]; exact h2
    ·exact h5 x hx
  ·rintro ⟨⟨h1, h2⟩, h3, h4⟩
   refine ⟨⟨h3 q (by simp), h4 q (by simp)⟩, h2, fun x hx hm => ?_, fun x hx => h4 x (by simp [hx])⟩
   rcases List.mem_append.1 hm with hm | hm
   ·exact h3 x (by simp [hx]) hm
   ·exact h1 (List.mem_map.2 ⟨x, hx, List.mem_singleton.1 hm⟩)
theorem headsOk_sub {l m : List Pr} (h : l.Sublist m) (hm : headsOk [] m = true) : headsOk [] l = true := by
 rw [headsOk_iff] at hm ⊢
 exact ⟨hm.1.sublist (h.map _), fun q hq => hm.2.1 q (h.subset hq), fun q hq => hm.2.2 q (h.subset hq)⟩
theorem tabled_syms {p : Pg} (h : p.tabled = true) : p.syms.Nodup := by
 simp only [Pg.tabled, Bool.and_eq_true] at h
 exact ((headsOk_iff _ _).1 h.2).1
theorem map_range_getD {α : Type} (d : α) : ∀ l : List α, (List.range l.length).map (fun i => l.getD i d) = l := fun l => by
 apply List.ext_getElem
 ·simp
 ·intro i h1 h2
  simp [List.getD, h2]
theorem picks_sub (p : Pg) (S : List Bool) (hS : S.length = p.procs.length) : ((nxs S).map fun i => p.procs.getD i default).Sublist p.procs := by
 have : ((nxs S).map fun i => p.procs.getD i default).Sublist ((List.range p.procs.length).map fun i => p.procs.getD i default) := by
  rw [nxs, hS]
  exact List.Sublist.map _ List.filter_sublist
 rwa [map_range_getD] at this
structure Trims (p : Pg) (q : Qy) (S : List Bool) : Prop where
 t : p.tabled = true
 a : ∀ x ∈ p.procs, okClauses p.syms [] x = true
 k : q.ok = true
 g : okCalls p.syms [] q.goals = true
 n : S.length = p.procs.length
 lc : LC (calN p) (fun k => mkd (calB p q.goals) k = true) S
theorem trims_of {p : Pg} {q : Qy} (h : okQuery p q = true) : Trims p q (reachS p q.goals) := by
 simp only [okQuery, Bool.and_eq_true, Pg.ok] at h
 refine ⟨h.1.1, List.all_eq_true.1 h.1.2, h.2.1, h.2.2, by rw [reachS, closeF_len, cR], ?_⟩
 exact closeF_lc fun i k hk => by rw [cR]; exact calN_lt p i k hk
theorem goals_ok {p : Pg} (ha : ∀ x ∈ p.procs, okClauses p.syms [] x = true) {x : Pr} (hx : x ∈ p.procs) : okCalls p.syms [] x.goals = true := by
 have := ha x hx
 simp only [okClauses] at this
 rw [Pr.goals, okCalls_flat, List.all_eq_true]
 intro c hc
 have := List.all_eq_true.1 this c hc
 simp only [Bool.and_eq_true] at this
 exact this.2
theorem okCalls_iff {l : List Sym} {goals : List Tm} : okCalls l [] goals = true ↔ ∀ s ∈ calledS goals, s ∈ l := by
 rw [okCalls_nil, Bool.not_eq_true', List.any_eq_false]
 simp
theorem syms_get {p : Pg} {i : Nat} (h : i < p.syms.length) : p.syms[i] = (p.procs[i]'(by simpa [Pg.syms] using h)).sym := by simp [Pg.syms]
theorem called_in {p : Pg} (_hn : p.syms.Nodup) {goals : List Tm} (hg : okCalls p.syms [] goals = true) {s : Sym} (hs : s ∈ calledS goals) : ∃ k, ∃ hk : k < p.procs.length, p.procs[k].sym = s /\ mkd (calB p goals) k = true := by
 obtain ⟨k, hk, e⟩ := findS_mem (okCalls_iff.1 hg s hs)
 obtain ⟨h1, h2⟩ := findS_val e
 have hk' : k < p.procs.length := by simpa [Pg.syms] using hk
 refine ⟨k, hk', by rw [<- h2, syms_get], ?_⟩
 rw [mkd_calB hk']
 exact List.any_eq_true.2 ⟨s, hs, by simpa using e⟩
theorem mkd_called {p : Pg} (hn : p.syms.Nodup) {goals : List Tm} {k : Nat} (hk : k < p.procs.length) : mkd (calB p goals) k = true ↔ p.procs[k].sym ∈ calledS goals := by
 rw [mkd_calB hk, List.any_eq_true]
 have hk' : k < p.syms.length := by simpa [Pg.syms] using hk
 constructor
 ·rintro ⟨s, hs, e⟩
  obtain ⟨h1, h2⟩ := findS_val (beq_iff_eq.1 e)
  rw [<- syms_get hk', h2]; exact hs
 ·intro h
  exact ⟨_, h, by rw [<- syms_get hk', findS_at hn hk']; simp⟩
section
variable {p : Pg} {q : Qy} {S : List Bool}
theorem trim_mem (H : Trims p q S) {x : Pr} : x ∈ ((nxs S).map fun i => p.procs.getD i default) ↔ ∃ k, ∃ hk : k < p.procs.length, mkd S k = true /\ p.procs[k] = x := by
 rw [List.mem_map]
 constructor
 ·rintro ⟨k, h1, h2⟩
  have := mem_nxs.1 h1
  have hk : k < p.procs.length := by rw [<- H.n]; exact mkd_lt this
  exact ⟨k, hk, this, by simpa [List.getD, hk] using h2⟩
 ·rintro ⟨k, hk, h1, h2⟩
  exact ⟨k, mem_nxs.2 h1, by simpa [List.getD, hk] using h2⟩
theorem trim_calls (H : Trims p q S) {goals : List Tm} (hg : okCalls p.syms [] goals = true) (hc : ∀ k, mkd (calB p goals) k = true -> mkd S k = true) : okCalls (Pg.syms ⟨(nxs S).map fun i => p.procs.getD i default⟩) [] goals = true := by
 rw [okCalls_iff]
 intro s hs
 obtain ⟨k, hk, e, hm⟩ := called_in (tabled_syms H.t) hg hs
 rw [<- e]
 exact List.mem_map.2 ⟨p.procs[k], (trim_mem H).2 ⟨k, hk, hc k hm, rfl⟩, rfl⟩
theorem calN_mem {k x : Nat} (hk : k < p.procs.length) : x ∈ calN p k ↔ mkd (calB p p.procs[k].goals) x = true := by
 rw [calN, mem_nxs, calG]
 simp [List.getD, hk]
theorem trim_ok (H : Trims p q S) : okQuery ⟨(nxs S).map fun i => p.procs.getD i default⟩ q = true := by
 have hs := picks_sub p S H.n
 have ht := H.t
 simp only [Pg.tabled, Bool.and_eq_true] at ht
 simp only [okQuery, Bool.and_eq_true, Pg.ok, Pg.tabled]
 refine ⟨⟨⟨?_, headsOk_sub hs ht.2⟩, List.all_eq_true.2 fun x hx => ?_⟩, H.k, trim_calls H H.g fun k hk => H.lc.m k hk⟩
 ·have h1 := hs.length_le
  have h2 := ht.1
  simp only [Bool.not_eq_true', decide_eq_false_iff_not] at h2 ⊢
  omega
 ·obtain ⟨k, hk, hm, rfl⟩ := (trim_mem H).1 hx
  have h1 := H.a _ (List.getElem_mem hk)
  simp only [okClauses] at h1 ⊢
  have hc := trim_calls H (goals_ok H.a (List.getElem_mem hk)) fun x hx => H.lc.c k hm x ((calN_mem hk).2 hx)
  rw [Pr.goals, okCalls_flat] at hc
  refine List.all_eq_true.2 fun c hcm => ?_
  have h2 := List.all_eq_true.1 h1 c hcm
  have h3 := List.all_eq_true.1 hc c hcm
  simp only [Bool.and_eq_true] at h2 ⊢
  exact ⟨h2.1, h3⟩
end
theorem trim_okQ {p : Pg} {q : Qy} (h : okQuery p q = true) : okQuery (trimP p q) q = true := by
 have := trim_ok (trims_of h)
 rwa [show nxs (reachS p q.goals) = reachR p q by simp [reachR, h]] at this
theorem trim_all {p : Pg} {q : Qy} (h : okQuery p q = true) : reachR (trimP p q) q = List.range (trimP p q).procs.length := by
 have ht := trim_okQ h
 have H := trims_of h
 have hR : reachR p q = nxs (reachS p q.goals) := by simp [reachR, h]
 have H2 := trims_of ht
 have hR2 : reachR (trimP p q) q = nxs (reachS (trimP p q) q.goals) := by simp [reachR, ht]
 have hn := tabled_syms H.t
 have hn2 := tabled_syms H2.t
 have hlen : (trimP p q).procs.length = (reachR p q).length := by simp [trimP]
 have hget : ∀ j (hj : j < (reachR p q).length), ∃ h1 : j < (trimP p q).procs.length, ∃ h2 : (reachR p q)[j] < p.procs.length, (trimP p q).procs[j] = p.procs[(reachR p q)[j]] := fun j hj => by
  have h2 := reachR_lt _ (List.getElem_mem hj)
  exact ⟨by rw [hlen]; exact hj, h2, by simp [trimP, List.getD, h2]⟩
 rw [hR2]
 generalize reachS (trimP p q) q.goals = S' at H2 ⊢
 have hm : ∀ k, k ∈ reachR p q ↔ mkd (reachS p q.goals) k = true := fun k => by rw [hR, mem_nxs]
 generalize hks : reachR p q = ks at *
 generalize reachS p q.goals = S at *
 -- those whose place is marked
 let T : List Bool := (List.range p.procs.length).map fun k => (List.range ks.length).any fun j => ks[j]? == some k && mkd S' j
 have hT : ∀ k, mkd T k = true ↔ ∃ j, ∃ hj : j < ks.length, ks[j] = k /\ mkd S' j = true := fun k => by
  constructor
  ·intro hk
   have hlt : k < p.procs.length := by simpa [T] using mkd_lt hk
   rw [mkd_get (by simpa [T] using hlt)] at hk
   simp only [T, List.getElem_map, List.getElem_range, List.any_eq_true, List.mem_range, Bool.and_eq_true, beq_iff_eq] at hk
   obtain ⟨j, hj, e, hj2⟩ := hk
   rw [List.getElem?_eq_getElem hj] at e
   exact ⟨j, hj, Option.some.inj e, hj2⟩
  ·rintro ⟨j, hj, rfl, hj2⟩
   obtain ⟨_, hlt, _⟩ := hget j hj
   rw [mkd_get (by simpa [T] using hlt)]
   simp only [T, List.getElem_map, List.getElem_range, List.any_eq_true, List.mem_range, Bool.and_eq_true, beq_iff_eq]
   exact ⟨j, hj, List.getElem?_eq_getElem hj, hj2⟩
 -- a mark in p of what goals call, is a mark in the trimmed one
 have step : ∀ goals x, mkd (calB p goals) x = true -> mkd S x = true -> (∀ j, mkd (calB (trimP p q) goals) j = true -> mkd S' j = true) -> mkd T x = true := fun goals x hx hS hS' => by
  obtain ⟨j, hj, rfl⟩ := List.mem_iff_getElem.1 ((hm x).2 hS)
  obtain ⟨h1, h2, h3⟩ := hget j hj
  refine (hT _).2 ⟨j, hj, rfl, hS' j ?_⟩
  rw [mkd_called hn2 h1, h3]
  exact (mkd_called hn h2).1 hx
 have hTop : Sub S T := by
  refine H.lc.t T (fun k hk x hx => ?_) fun k hk => step _ k hk (H.lc.m k hk) H2.lc.m
  obtain ⟨j, hj, rfl, hj2⟩ := (hT k).1 hk
  obtain ⟨h1, h2, h3⟩ := hget j hj
  have hx' := (calN_mem h2).1 hx
  refine step _ x hx' (H.lc.c _ ((hm _).1 (List.getElem_mem hj)) x hx) fun i hi => H2.lc.c j hj2 i ((calN_mem h1).2 (by rw [h3]; exact hi))
 have hall : ∀ j, j < ks.length -> mkd S' j = true := fun j hj => by
  obtain ⟨i, hi, e, hi2⟩ := (hT _).1 (hTop _ ((hm _).1 (List.getElem_mem hj)))
  have hnd : ks.Nodup := by
   rw [hR, nxs]
   exact List.nodup_range.sublist List.filter_sublist
  have : i = j := by
   rcases Nat.lt_trichotomy i j with g | g | g
   ·exact absurd e (List.pairwise_iff_getElem.1 (List.nodup_iff_pairwise_ne.1 hnd) i j hi hj g)
   ·exact g
   ·exact absurd e.symm (List.pairwise_iff_getElem.1 (List.nodup_iff_pairwise_ne.1 hnd) j i hj hi g)
  exact this ▸ hi2
 rw [nxs, H2.n, hlen, List.filter_eq_self]
 intro j hj
 exact hall j (List.mem_range.1 hj)
theorem trim_twice {p : Pg} {q : Qy} (h : okQuery p q = true) : trimP (trimP p q) q = trimP p q := by
 have e : trimP (trimP p q) q = ⟨(reachR (trimP p q) q).map fun i => (trimP p q).procs.getD i default⟩ := rfl
 rw [e, trim_all h, map_range_getD]
end Go.Rip
namespace Go.Rip
open Go Go.Proofs
set_option maxRecDepth 100000
variable {GL : Glob}
attribute [local irreducible] Pure
theorem trim_small {p : Pg} (hp : p.small) (q : Qy) : (trimP p q).small :=
 ⟨by have := reachR_len p q; have := hp.l; simp only [trimP, List.length_map]; omega, fun x hx => by
  obtain ⟨i, hi, rfl⟩ := List.mem_map.1 hx
  have hi := reachR_lt i hi
  simp only [List.getD, List.getElem?_eq_getElem hi, Option.getD_some]
  exact hp.q _ (List.getElem_mem hi)⟩
end Go.Rip
namespace Go.Rip
open Go Go.Proofs
set_option maxRecDepth 100000
attribute [local irreducible] Pure
theorem h11 (p : Pg) (q : Qy) (hp : p.wid) (hq : q.wid) : Pure (PC GLs) 11 [encPg p, encQy q] (.b true) := by
 have f2 := h17 (GL := GLs) [q.goals] 2000 (by simp [hq.1, hq.2]) (by simp) (by omega)
 have q27 := fun h => h27 (GL := GLs) p hp h
 simp only [encPg] at q27
 refine k11.pure (by simp) (by simp [go_sem]) (by simp [go_sem]) ?_
 simp -implicitDefEqProofs only [go_sem, c11, r11, encPg, encQy]
 refine aC hC sane_ok ?_
 simp -implicitDefEqProofs only [go_sem, Bool.not_true]
 refine aN hC (q27 _) fun x h1 ⟨b, hx, hk1, hb⟩ => ?_
 subst hx
 have o1 := hk1.got (i := 0) rfl
 have o2 := hk1.got (i := 1) rfl
 have o1_g := fun l => aE (l := l) o1
 have o1_s := fun o l => aO (l := l) o1 o
 have o1_e := fun o l => aP (o := o) (l := l) o1
 have o1_h := fun o => aJ (o := o) o1
 have o2_g := fun l => aE (l := l) o2
 have o2_s := fun o l => aO (l := l) o2 o
 have o2_e := fun o l => aP (o := o) (l := l) o2
 have o2_h := fun o => aJ (o := o) o2
 rcases b with _ | _
 ·simp -implicitDefEqProofs only [go_sem, Bool.not_false]
  refine aF ?_ ?_ <;> simp [go_sem]
 have hps := hb rfl
 simp -implicitDefEqProofs only [go_sem, Bool.not_true, o2, blt01]
 refine call_fz f2 ?_ ?_
 ·simp [fzs, fzGs, fzG, encL, fzGs_encs, <- encs_map]
 rcases hc2 : cnts [q.goals].flatten 2000 1 with ⟨_ | _, y⟩
 ·simp -implicitDefEqProofs only [go_sem, Bool.not_false]
  refine aF ?_ ?_ <;> simp [go_sem]
 have hy := cnts_true q.goals 2000 1 y (by omega) (by simpa using hc2)
 have hqf : q.fits := ⟨by omega, hy.2.2⟩
 have hgl := aW q.goals
 have hg2 : q.goals.length < 2 ^ 24 := by omega
 have g1 := h70 p hps q hqf hg2
 have g0 := h54 p hps.fits q hqf
 rcases hok : okQuery p q with _ | _
 ·have e0 : okE false = 5 := rfl
  have hT : trimP p q = ⟨[]⟩ := by simp [trimP, reachR, hok]
  rw [hT, hok, e0] at g1
  rw [hok, e0] at g0
  simp only [encPg, encQy, List.map_nil] at g0 g1
  clear hb hps q27 f2 hc2 hy hk1
  simp -implicitDefEqProofs only [go_sem, Bool.not_true, o1_g, o2_g]
  refine aC hC g1 ?_
  simp -implicitDefEqProofs only [go_sem, aT, cB, List.append_assoc, o1_g, o2_g, bne50]
  refine aC hC g0 ?_
  simp -implicitDefEqProofs only [go_sem, aT, beq_self_eq_true]
  refine aF ?_ ?_ <;> simp [go_sem]
 have e0 : okE true = 0 := rfl
 have hts := trim_small hps q
 have htok := trim_okQ hok
 have g2 := h70 (trimP p q) hts q hqf hg2
 have g3 := h65 p hps q hqf hg2
 have g4 := h54 (trimP p q) hts.fits q hqf
 have g5 := h30 (GL := GLs) (trimP p q) hts
 rw [trim_twice hok, htok, e0] at g2
 rw [hok, e0] at g1 g3
 rw [htok, e0] at g4
 have hl := hps.l
 have hl2 := reachR_len p q
 have hlen : (trimP p q).procs.length = (reachR p q).length := by simp [trimP]
 have hget : ∀ j (hj : j < (reachR p q).length), ∃ h1 : j < (trimP p q).procs.length, ∃ h2 : (reachR p q)[j] < p.procs.length, ∃ Q, p.procs[(reachR p q)[j]] = Q /\ (trimP p q).procs[j] = Q /\ Pure (PC GLs) 73 [encPr Q, encPr Q] (.b true) := fun j hj => by
  have h2 := reachR_lt _ (List.getElem_mem hj)
  have hqs := hps.q _ (List.getElem_mem h2)
  have hc := hqs.c
  exact ⟨by rw [hlen]; exact hj, h2, _, rfl, by simp [trimP, List.getD, h2], h73 (GL := GLs) _ (by omega) fun c hcm => by have := (hqs.t c hcm).1; omega⟩
 generalize trimP p q = t at *
 generalize reachR p q = ks at *
 simp only [encPg, encQy] at g1 g2 g3 g4 g5
 clear hb q27 f2 hc2 hy hk1 g0 hts htok hps
 simp -implicitDefEqProofs only [go_sem, Bool.not_true, o1_g, o2_g]
 refine aC hC g1 ?_
 simp -implicitDefEqProofs only [go_sem, aT, cB, List.append_assoc, o2_g, bne_self_eq_false]
 refine aC hC g2 ?_
 simp -implicitDefEqProofs only [go_sem, aT, cB, List.append_assoc, o1_g, o2_g]
 refine aC hC g3 ?_
 simp -implicitDefEqProofs only [go_sem, aT, o2_g]
 refine aC hC g4 ?_
 simp -implicitDefEqProofs only [go_sem, aT, bne_self_eq_false]
 refine aC hC g5 ?_
 simp -implicitDefEqProofs only [go_sem, aT, Bool.not_true, bne_self_eq_false, hlen]
 refine aZ hC (fun j (_ : Unit) => [(84, .i j), (82, .sl 1 (ks.map encN)), (83, .i ks.length), (2, .ref 0 0), (5, .ref (h1.length + 1) 0)])
  (fun j (_ : Unit) h' => h'[0]? = some (.cells 37 [.sl 3 (p.procs.map encPr)]) /\ h'[h1.length + 1]? = some (.cells 37 [.sl 3 (t.procs.map encPr)])) ks.length ?_ fun j _ h2 hj ⟨u1, u2⟩ => ?_
 ·exact ⟨(), _, Wk.pick (Nat.zero_le _) (by simp [go_sem]), o1_g _, aT h1 _ 1⟩
 have u1_g := fun l => aE (l := l) u1
 have u1_s := fun o l => aO (l := l) u1 o
 have u1_e := fun o l => aP (o := o) (l := l) u1
 have u1_h := fun o => aJ (o := o) u1
 have u2_g := fun l => aE (l := l) u2
 have u2_s := fun o l => aO (l := l) u2 o
 have u2_e := fun o l => aP (o := o) (l := l) u2
 have u2_h := fun o => aJ (o := o) u2
 simp -implicitDefEqProofs only [go_sem]
 refine aG (fun hlt => ?_) (fun hlt => ?_)
 ·have hlt := aI hlt
  have w5 : IntKind.i64.wrap ((j : Int) + 1) = (j : Int) + 1 := aD _ (by omega)
  obtain ⟨i1, i2, Q, e1, e2, q73⟩ := hget j hlt
  have d1 : decide ((ks[j] : Int) < 0) = false := decide_eq_false (by omega)
  have d2 : decide ((ks[j] : Int) >= (p.procs.length : Int)) = false := decide_eq_false (by omega)
  simp only [encPr] at q73
  simp -implicitDefEqProofs only [go_sem, hlt, aS, encN, d1, d2, bnd i1, bnd i2, i1, i2, e1, e2, encPr, u1, u2]
  refine aC hC q73 ?_
  simp -implicitDefEqProofs only [go_sem, Bool.not_true, w5]
  exact ⟨(), _, Wk.pick (Nat.zero_le _) (by simp [go_sem]), u1, u2⟩
 ·simp -implicitDefEqProofs only [go_sem, hlt]
  refine aF ?_ ?_ <;> simp [go_sem]
end Go.Rip
