/- Trees in memory of their own; equal lists, equal clauses. -/
import Derived.Test.YtndcajdameofjaaGreatDoorRipBE
import Derived.Test.YtndcajdameofjaaGreatDoorRipAT
import Derived.Test.YtndcajdameofjaaGreatDoorRipBB
import Derived.Test.YtndcajdameofjaaGreatDoorRipBD
namespace Go.Rip
open Go
set_option maxRecDepth 100000
theorem take_snoc_map {α β : Type} {l : List α} {j : Nat} (hlt : j < l.length) (f : α -> β) : (l.take (j + 1)).map f = (l.take j).map f ++ [f l[j]] := by
 rw [List.take_succ_eq_append_getElem hlt, List.map_append]; rfl
theorem take_all_map {α β : Type} {l : List α} {j : Nat} (h : l.length <= j) (f : α -> β) : (l.take j).map f = l.map f := by rw [List.take_of_length_le h]
variable {GL : Glob}
theorem h207 : ∀ (n : Nat) (l : List Tm), sizes l <= n -> n < 2 ^ 30 -> Pure (PC GL) 207 [.sl 4 (l.map enc)] (.sl 4 (l.map enc)) := by
 intro n
 induction n with
 | zero =>
  intro l hl _
  have h4 := aV l
  have : l = [] := List.length_eq_zero_iff.1 (by omega)
  subst this
  refine k207.pure (by simp) (by simp [go_sem]) (by simp [go_sem]) ?_
  simp -implicitDefEqProofs only [c207, r207, go_sem]
  refine aZ hC (fun j (_ : Unit) => [(8, .i j), (7, .i (0 : Nat)), (3, .v (.slice none 0 0))]) (fun j (_ : Unit) h => True) 0 ⟨(), _, Wk.pick (Nat.zero_le _) (by simp [go_sem]), trivial⟩ fun j _ h hj _ => ?_
  have : j = 0 := by omega
  subst this
  simp -implicitDefEqProofs only [go_sem, show decide (((0 : Nat) : Int) < ((0 : Nat) : Int)) = false from rfl]
  refine aD ?_ (by simp [go_sem])
  simp [go_sem]
 | succ n ih =>
 intro l hl hn
 have h4 := aV l
 refine k207.pure (by simp) (by simp [go_sem]) (by simp [go_sem]) ?_
 simp -implicitDefEqProofs only [c207, r207, go_sem]
 refine aZ hC (fun j a => [(8, .i j), (3, .own a 4 ((l.take j).map enc)), (6, .sl 4 (l.map enc)), (7, .i l.length)]) (fun j a h => h[a]? = some (.spare 24 4)) l.length ?_ fun j a h hj ha => ?_
 ·refine ⟨0, _, (Wk.own_nil (h := []) 24 4 3 (by simp [go_sem]) (Nat.zero_le _)).trans (Wk.pick (by simp) (by simp [go_sem])), rfl⟩
 have ha_g := fun l => aE (l := l) ha
 have ha_s := fun o l => aO (l := l) ha o
 have ha_e := fun o l => aM (o := o) (l := l) ha
 have ha_h := fun o => aJ (o := o) ha
 simp -implicitDefEqProofs only [go_sem]
 refine aG (fun hlt => ?_) (fun hlt => ?_)
 ·have hlt := aH hlt
  have g1 := bJ hlt
  have g2 := cX l[j]
  have w5 : IntKind.i64.wrap ((j : Int) + 1) = (j : Int) + 1 := aF _ (by omega)
  simp -implicitDefEqProofs only [go_sem, hlt, aQ]
  refine aC hC (ih l[j].l (by omega) (by omega)) ?_
  simp -implicitDefEqProofs only [go_sem, List.append_assoc, ha_g, ha_s]
  refine ⟨by simp; omega, ?_⟩
  refine ⟨h.length + 2, _, Wk.pick (Nat.zero_le _) (by simp [go_sem, w5, take_snoc_map hlt]), ?_⟩
  rw [dR (by simp)]; simp
 ·have hge := aI hlt
  simp -implicitDefEqProofs only [go_sem, hlt, take_all_map hge]
  refine aD ?_ (by simp [go_sem])
  simp [go_sem]
noncomputable def sames (a b : List Tm) : Bool := @decide (a = b) (Classical.propDecidable _)
theorem sames_iff {a b : List Tm} : sames a b = true ↔ a = b := by simp [sames]
theorem h35 (a : List Tm) (hs : sizes a < 2 ^ 30) (b : List Tm) (hb : b.length < 2 ^ 47) : Pure (PC GL) 35 [.sl 4 (a.map enc), .sl 4 (b.map enc)] (.b (sames a b)) := by
 have h4 := aV a
 refine k35.pure (by simp) (by simp [go_sem]) (by simp [go_sem]) ?_
 simp -implicitDefEqProofs only [c35, r35, go_sem]
 by_cases hl : a.length = b.length
 ·have e : ((a.length : Int) != (b.length : Int)) = false := by simp [hl]
  simp -implicitDefEqProofs only [go_sem, e]
  refine aZ hC (fun j (_ : Unit) => [(5, .i j), (0, .sl 4 (a.map enc)), (1, .sl 4 (b.map enc))]) (fun j (_ : Unit) _ => a.take j = b.take j) a.length ⟨(), _, Wk.pick (Nat.zero_le _) (by simp [go_sem]), by simp⟩ fun j _ h hj hI => ?_
  simp -implicitDefEqProofs only [go_sem]
  refine aG (fun hlt => ?_) (fun hlt => ?_)
  ·have hlt := aH hlt
   have hlb : j < b.length := by omega
   have g1 := bJ hlt
   have w5 : IntKind.i64.wrap ((j : Int) + 1) = (j : Int) + 1 := aF _ (by omega)
   have db : decide ((j : Int) < (b.length : Int)) = true := decide_eq_true (by omega)
   simp -implicitDefEqProofs only [go_sem, hlt, hlb, aQ]
   refine aC hC (h24 a[j] (by omega) b[j]) ?_
   simp -implicitDefEqProofs only [go_sem]
   by_cases hx : a[j] = b[j]
   ·have e2 : a[j].same b[j] = true := same_iff.2 hx
    simp -implicitDefEqProofs only [go_sem, e2, Bool.not_true]
    refine ⟨(), _, Wk.pick (Nat.zero_le _) (by simp [go_sem, w5]), ?_⟩
    rw [List.take_succ_eq_append_getElem hlt, List.take_succ_eq_append_getElem hlb, hI, hx]
   ·have e2 : a[j].same b[j] = false := same_false hx
    have e3 : sames a b = false := by
     rw [Bool.eq_false_iff]
     intro h
     have := sames_iff.1 h
     subst this
     exact hx rfl
    simp -implicitDefEqProofs only [go_sem, e2, e3, Bool.not_false]
    refine aD ?_ ?_ <;> simp [go_sem]
  ·have hge := aI hlt
   rw [aS hge, aS (by omega)] at hI
   have e3 : sames a b = true := sames_iff.2 hI
   simp -implicitDefEqProofs only [go_sem, hlt, e3]
   refine aD ?_ ?_ <;> simp [go_sem]
 ·have e : ((a.length : Int) != (b.length : Int)) = true := by simp; omega
  have e3 : sames a b = false := by
   rw [Bool.eq_false_iff]
   intro h
   exact hl (by rw [sames_iff.1 h])
  simp -implicitDefEqProofs only [go_sem, e, e3]
  refine aD ?_ ?_ <;> simp [go_sem]
theorem h56 (c : Cl) (hs : sizes c.parts < 2 ^ 30) : Pure (PC GL) 56 [encCl c, encCl c] (.b true) := by
 have hp : sizes c.parts = sizes c.head + (sizes c.guard + sizes c.body) := by simp [Cl.parts, dD]
 have l1 := aV c.head
 have l2 := aV c.guard
 have l3 := aV c.body
 have q1 := h35 (GL := GL) c.head (by omega) c.head (by omega)
 have q2 := h35 (GL := GL) c.guard (by omega) c.guard (by omega)
 have q3 := h35 (GL := GL) c.body (by omega) c.body (by omega)
 rw [sames_iff.2 rfl] at q1 q2 q3
 refine k56.pure (by simp) (by simp [go_sem]) (by simp [go_sem]) ?_
 simp -implicitDefEqProofs only [go_sem, c56, r56, encCl, beq_self_eq_true]
 refine aC hC q1 ?_
 simp -implicitDefEqProofs only [go_sem]
 refine aC hC q2 ?_
 simp -implicitDefEqProofs only [go_sem]
 refine aC hC q3 ?_
 simp -implicitDefEqProofs only [go_sem]
 refine aD ?_ ?_ <;> simp [go_sem]
end Go.Rip
namespace Go.Rip
open Go Go.Proofs
set_option maxRecDepth 100000
variable {GL : Glob}
attribute [local irreducible] Pure
def ownA (a sz : Nat) (l : List AV) : AV := if l = [] then .v (.slice none 0 0) else .own a sz l
theorem ownA_cons {a sz : Nat} {l : List AV} (h : l ≠ []) : ownA a sz l = .own a sz l := if_neg h
theorem ownA_snoc (a sz : Nat) (l : List AV) (x : AV) : ownA a sz (l ++ [x]) = .own a sz (l ++ [x]) := by simp [ownA]
theorem wkr_ownA (a sz : Nat) (l : List AV) : wkr (ownA a sz l) (.sl sz l) := by
 unfold ownA; split
 ·simp [wkr, *]
 ·simp [wkr]
theorem h159 (q : Pr) (hl : q.clauses.length < 2 ^ 40) (hq : ∀ c ∈ q.clauses, sizes c.parts < 2 ^ 30) : Pure (PC GL) 159 [encPr q] (encPr q) := by
 refine k159.pure (by simp) (by simp [go_sem]) (by simp [go_sem]) ?_
 simp -implicitDefEqProofs only [go_sem, c159, r159, encPr]
 refine aZ hC (fun j (_ : Nat) => [(14, .i j), (12, .sl 5 (q.clauses.map encCl)), (13, .i q.clauses.length), (2, .ref 1 0), (3, .ref 2 0)])
  (fun j a h' => h'[1]? = some (.cells 60 [.str [], .i 0, .v (.slice none 0 0)]) /\ h'[2]? = some (.cells 60 [.str q.name, .i q.arity, ownA a 5 ((q.clauses.take j).map encCl)]) /\ (j = 0 ∨ h'[a]? = some (.spare 68 5))) q.clauses.length ?_ fun j a h2 hj ⟨f1, f2, f3⟩ => ?_
 ·exact ⟨0, _, Wk.pick (Nat.zero_le _) (by simp [go_sem]), rfl, rfl, .inl rfl⟩
 have f1_g := fun l => aE (l := l) f1
 have f1_s := fun o l => aO (l := l) f1 o
 have f1_e := fun o l => aM (o := o) (l := l) f1
 have f1_h := fun o => aJ (o := o) f1
 have f2_g := fun l => aE (l := l) f2
 have f2_s := fun o l => aO (l := l) f2 o
 have f2_e := fun o l => aM (o := o) (l := l) f2
 have f2_h := fun o => aJ (o := o) f2
 simp -implicitDefEqProofs only [go_sem]
 refine aG (fun hlt => ?_) (fun hlt => ?_)
 ·have hlt := aH hlt
  have w5 : IntKind.i64.wrap ((j : Int) + 1) = (j : Int) + 1 := aF _ (by omega)
  have hc := hq _ (List.getElem_mem hlt)
  have hs : (q.clauses.take (j + 1)).map encCl = (q.clauses.take j).map encCl ++ [encCl q.clauses[j]] := take_snoc_map hlt encCl
  obtain ⟨c, hcd⟩ : ∃ c, q.clauses[j] = c := ⟨_, rfl⟩
  rw [hcd] at hc hs
  have hp : sizes c.parts = sizes c.head + (sizes c.guard + sizes c.body) := by simp [Cl.parts, dD]
  have q1 := h207 (GL := GL) _ c.head (Nat.le_refl _) (by omega)
  have q2 := h207 (GL := GL) _ c.guard (Nat.le_refl _) (by omega)
  have q3 := h207 (GL := GL) _ c.body (Nat.le_refl _) (by omega)
  simp -implicitDefEqProofs only [go_sem, hlt, aQ, hcd, encCl, f2_g]
  refine aC hC q1 ?_
  simp -implicitDefEqProofs only [go_sem, f2_g]
  refine aC hC q2 ?_
  simp -implicitDefEqProofs only [go_sem, f2_g]
  refine aC hC q3 ?_
  simp -implicitDefEqProofs only [go_sem, List.append_assoc, f2_g, f2_s]
  have nx : j = 0 ∨ (q.clauses.take j).map encCl ≠ [] := by
   rcases Nat.eq_zero_or_pos j with h | h
   ·exact .inl h
   ·refine .inr fun e => ?_
    have := congrArg List.length e
    simp only [List.length_map, List.length_take, List.length_nil] at this
    omega
  have ll : ((q.clauses.take j).map encCl).length <= q.clauses.length := by simp; omega
  have hso : ownA (h2.length + 2) 5 ((q.clauses.take (j + 1)).map encCl) = .own (h2.length + 2) 5 ((q.clauses.take j).map encCl ++ [encCl c]) := by rw [hs, ownA_snoc]
  rcases nx with rfl | hne
  ·simp -implicitDefEqProofs only [go_sem, blt01, w5]
   refine ⟨by simp, h2.length + 2, _, Wk.pick (Nat.zero_le _) (by simp [go_sem]), ?_, ?_, .inr ?_⟩
   ·rw [aE]
    rw [aK (by omega)]; exact f1
   ·rw [hso]; exact f2_e _ _
   ·rw [List.getElem?_append_right (by simp)]; simp
  ·have f4 := f3.resolve_left (by rintro rfl; exact hne rfl)
   have f4_g := fun l => aE (l := l) f4
   have f4_s := fun o l => aO (l := l) f4 o
   have f4_e := fun o l => aM (o := o) (l := l) f4
   have f4_h := fun o => aJ (o := o) f4
   have f2_f4b := fun o l => get_beside (o := o) (l := l) f2 f4 (by simp)
   have f2_f4s := fun o l x => set_beside (o := o) (l := l) (x' := x) f2 f4 (by simp)
   have f2_f4g := fun o l x => get_beside2 (o := o) (l := l) (x' := x) f2 f4 (by simp)
   have f2_f4k := fun o l x => get_beside3 (o := o) (l := l) (x' := x) f2 f4 (by simp)
   generalize hL : (q.clauses.take j).map encCl = L at *
   simp -implicitDefEqProofs only [go_sem, blt01, ownA_cons hne, List.append_assoc, f4_g, f4_s, f2_f4b, f2_f4s, w5]
   refine ⟨by omega, h2.length + 2, _, Wk.pick (Nat.zero_le _) (by simp [go_sem]), ?_, ?_, .inr ?_⟩
   ·rw [aE]
    rw [aK (by omega), aK (bB f4 f1 (by simp))]; exact f1
   ·rw [hso]; exact f2_f4g _ _ _
   ·rw [List.getElem?_append_right (by simp)]; simp
 ·have hge := aI hlt
  rw [take_all_map hge] at f2
  have f2_g := fun l => aE (l := l) f2
  have f2_s := fun o l => aO (l := l) f2 o
  have f2_e := fun o l => aM (o := o) (l := l) f2
  have f2_h := fun o => aJ (o := o) f2
  simp -implicitDefEqProofs only [go_sem, hlt, f1, f1_h, f2]
  refine aD ?_ ?_
  ·simp only [wkr, wkrs, and_true, true_and]
   exact wkr_ownA _ _ _
  ·simp [go_sem]
def vecA (a sz : Nat) (l : List AV) : AV := if l = [] then .v (.slice none 0 0) else .vec a sz l.length
theorem vecA_nil (a sz : Nat) : vecA a sz [] = .v (.slice none 0 0) := rfl
theorem vecA_cons {a sz : Nat} {l : List AV} (h : l ≠ []) : vecA a sz l = .vec a sz l.length := if_neg h
theorem vecA_snoc (a sz : Nat) (l : List AV) (x : AV) : vecA a sz (l ++ [x]) = .vec a sz (l.length + 1) := by simp [vecA]
theorem solid_vecA (a sz : Nat) (l : List AV) : (vecA a sz l).solid = true := by unfold vecA; split <;> rfl
theorem cells_vecA (a sz : Nat) (l : List AV) : (vecA a sz l).cells = [vecA a sz l] := by unfold vecA; split <;> rfl
theorem fzGs_terms (φ : Nat -> Nat -> Nat -> AV) (l : List Tm) : fzGs φ (l.map enc) = l.map enc := by rw [<- encs_map]; exact fzGs_encs φ l
theorem fzG_encCl (φ : Nat -> Nat -> Nat -> AV) (c : Cl) : fzG φ (encCl c) = encCl c := by simp only [encCl, fzG, fzGs, fzGs_terms]
theorem fzGs_cls (φ : Nat -> Nat -> Nat -> AV) : ∀ l : List Cl, fzGs φ (l.map encCl) = l.map encCl
 | [] => rfl
 | c :: r => by simp only [List.map_cons, fzGs, fzG_encCl, fzGs_cls φ r]
theorem fzG_encPr (φ : Nat -> Nat -> Nat -> AV) (q : Pr) : fzG φ (encPr q) = encPr q := by simp only [encPr, fzG, fzGs, fzGs_cls]
def pickP (p : Pg) (ks : List Nat) : List AV := ks.map fun i => encPr (p.procs.getD i default)
theorem pickP_len (p : Pg) (ks : List Nat) : (pickP p ks).length = ks.length := by simp [pickP]
theorem pickP_snoc (p : Pg) {ks : List Nat} {j : Nat} (h : j < ks.length) : pickP p (ks.take (j + 1)) = pickP p (ks.take j) ++ [encPr (p.procs.getD ks[j] default)] := by
 unfold pickP; rw [bE h, List.map_append]; rfl
theorem fzG_pickP (φ : Nat -> Nat -> Nat -> AV) (p : Pg) (ks : List Nat) : ∀ x ∈ pickP p ks, fzG φ x = x := fun x hx => by
 obtain ⟨i, _, rfl⟩ := List.mem_map.1 hx; exact fzG_encPr φ _
theorem bds_pickP (p : Pg) (ks : List Nat) : bds 0 (pickP p ks) := by
 have : pickP p ks = (ks.map fun i => p.procs.getD i default).map encPr := by simp [pickP]
 rw [this]; exact (free_encPr.bds _ _).symm ▸ trivial
theorem fin_vecs {a : Nat} {l : List AV} {h : List AObj} {T : TypeId} {s : Nat} {e : Int} (ha : l = [] ∨ h[a]? = some (.buf T s l)) (hb : bds 0 l) (hz : ∀ x ∈ l, fz x = x) :
  ∃ y h', Wk GL 0 [(0, .tup [.agg [vecA a 3 l], .i e])] h [(0, y)] h' /\ h' = [] /\ ARes.val y = ARes.val (.tup [.agg [.sl 3 l], .i e]) := by
 by_cases hl : l = []
 ·rw [hl]
  exact aD (cO (by simp [vecA, wkr, wkrs]) rfl) (by simp [go_sem])
 ·have ha := ha.resolve_left hl
  have e1 : fzN h 1 (.tup [.agg [.vec a 3 l.length], .i e]) = .tup [.agg [.sl 3 l], .i e] := by
   have : fzN h 0 = fz := rfl
   simp only [fzN, fzG, fzGs, ha, List.take_length]
   rw [show Nat.ble l.length l.length = true from aU _]
   have : l.map fz = l := by
    conv => rhs; rw [<- List.map_id l]
    exact List.map_congr_left fun x hx => hz x hx
   simp only [this]
  rw [vecA_cons hl]
  have hb : bd 0 (fzN h 1 (.tup [.agg [.vec a 3 l.length], .i e])) := by rw [e1]; simp [go_sem, hb]
  have := Wk.fzN (GL := GL) 1 hb
  rw [e1] at this
  exact ⟨_, [], this, rfl, rfl⟩
def trimP (p : Pg) (q : Qy) : Pg := ⟨(reachR p q).map fun i => p.procs.getD i default⟩
theorem encPg_trim (p : Pg) (q : Qy) : encPg (trimP p q) = .agg [.sl 3 (pickP p (reachR p q))] := by simp [encPg, trimP, pickP]
theorem reachR_lt {p : Pg} {q : Qy} : ∀ x ∈ reachR p q, x < p.procs.length := fun x hx => by
 unfold reachR at hx
 split at hx
 ·have := nxs_lt hx
  rwa [reachS, closeF_len, cM] at this
 ·simp at hx
theorem reachR_len (p : Pg) (q : Qy) : (reachR p q).length <= p.procs.length := by
 unfold reachR
 split
 ·have := nxs_len (reachS p q.goals)
  rwa [reachS, closeF_len, cM] at this
 ·simp
theorem h70 (p : Pg) (hp : p.small) (q : Qy) (hq : q.fits) (hq2 : q.goals.length < 2 ^ 24) : Pure (PC GLs) 70 [encPg p, encQy q] (.tup [encPg (trimP p q), .i (okE (okQuery p q))]) := by
 have qR := h65 p hp q hq hq2
 have hl := hp.l
 have hlt' := reachR_lt (p := p) (q := q)
 have hrl := reachR_len p q
 have hno : okQuery p q = false -> reachR p q = [] := fun e => by simp [reachR, e]
 simp only [encPg, encQy] at qR
 rw [encPg_trim]
 have hbk := bds_pickP p (reachR p q)
 generalize reachR p q = ks at *
 refine k70.pure (by simp) (by simp [go_sem]) (by simp [go_sem, hbk]) ?_
 simp -implicitDefEqProofs only [go_sem, c70, r70, encPg, encQy]
 refine aC hC qR ?_
 rcases hok : okQuery p q with _ | _
 ·have e0 : okE false = 5 := rfl
  rw [hno hok]
  simp -implicitDefEqProofs only [go_sem, e0, bne50]
  exact aD (cO (by simp [pickP, wkr, wkrs]) rfl) (by simp [pickP, go_sem])
 have e0 : okE true = 0 := rfl
 simp -implicitDefEqProofs only [go_sem, e0, bne_self_eq_false]
 refine aZ hC (fun j (_ : Nat) => [(23, .i j), (21, .sl 1 (ks.map encN)), (22, .i ks.length), (2, .ref 0 0), (4, .ref 2 0), (8, .ref 3 0)])
  (fun j a h' => h'[0]? = some (.cells 37 [.sl 3 (p.procs.map encPr)]) /\ h'[2]? = some (.cells 37 [.v (.slice none 0 0)]) /\ h'[3]? = some (.cells 37 [vecA a 3 (pickP p (ks.take j))]) /\ (j = 0 ∨ h'[a]? = some (.buf 60 3 (pickP p (ks.take j))))) ks.length ?_ fun j a h2 hj ⟨f1, f2, f3, f4⟩ => ?_
 ·exact ⟨0, _, Wk.pick (Nat.zero_le _) (by simp [go_sem]), rfl, rfl, rfl, .inl rfl⟩
 have f1_g := fun l => aE (l := l) f1
 have f1_s := fun o l => aO (l := l) f1 o
 have f1_e := fun o l => aM (o := o) (l := l) f1
 have f1_h := fun o => aJ (o := o) f1
 have f2_g := fun l => aE (l := l) f2
 have f2_s := fun o l => aO (l := l) f2 o
 have f2_e := fun o l => aM (o := o) (l := l) f2
 have f2_h := fun o => aJ (o := o) f2
 have f3_g := fun l => aE (l := l) f3
 have f3_s := fun o l => aO (l := l) f3 o
 have f3_e := fun o l => aM (o := o) (l := l) f3
 have f3_h := fun o => aJ (o := o) f3
 simp -implicitDefEqProofs only [go_sem]
 refine aG (fun hlt => ?_) (fun hlt => ?_)
 ·have hlt := aH hlt
  have w5 : IntKind.i64.wrap ((j : Int) + 1) = (j : Int) + 1 := aF _ (by omega)
  have hi := hlt' _ (List.getElem_mem hlt)
  have hs := pickP_snoc p hlt
  have hq0 : p.procs.getD ks[j] default = p.procs[ks[j]] := by simp [List.getD, hi]
  rw [hq0] at hs
  have hqs := hp.q _ (List.getElem_mem hi)
  have hc := hqs.c
  have ll := pickP_len p (ks.take j)
  rw [List.length_take, Nat.min_eq_left (Nat.le_of_lt hlt)] at ll
  have hbL := bds_pickP p (ks.take j)
  have lk : ks.length < 2 ^ 24 := by omega
  have q159 := h159 (GL := GLs) p.procs[ks[j]] (by omega) fun c hcm => by have := (hqs.t c hcm).1; omega
  obtain ⟨Q, hQ⟩ : ∃ Q, p.procs[ks[j]] = Q := ⟨_, rfl⟩
  rw [hQ] at hs
  rw [hQ] at q159
  simp only [encPr] at q159
  generalize pickP p (ks.take j) = L at *
  simp -implicitDefEqProofs only [go_sem, hlt, aQ, encN, bnd hi, hi, hQ, encPr, f1, f3]
  refine aC hC q159 ?_
  have nx : L = [] ∨ h2[a]? = some (.buf 60 3 L) /\ L ≠ [] := by
   rcases f4 with h | h
   ·exact .inl (List.eq_nil_of_length_eq_zero (by omega))
   ·by_cases e : L = []
    ·exact .inl e
    ·exact .inr ⟨h, e⟩
  rcases nx with hL0 | ⟨f5, hne⟩
  ·subst hL0
   have hj0 : j = 0 := ll.symm
   have f3b : h2[3]? = some (.cells 37 [.v (.slice none 0 0)]) := f3
   have f3b_g := fun l => aE (l := l) f3b
   have f3b_s := fun o l => aO (l := l) f3b o
   have f3b_e := fun o l => aM (o := o) (l := l) f3b
   have f3b_h := fun o => aJ (o := o) f3b
   simp -implicitDefEqProofs only [go_sem, vecA_nil, blt01, List.append_assoc, f3b, f3b_g, f3b_s, w5]
   refine ⟨by simp, h2.length + 1, _, Wk.pick (Nat.zero_le _) (by simp [go_sem]), ?_, ?_, ?_, .inr ?_⟩
   ·exact aE (by rw [aK (by omega)]; exact f1)
   ·exact aE (by rw [aK (by omega)]; exact f2)
   ·rw [hs, vecA_snoc]; exact f3b_e _ _
   ·rw [List.getElem?_append_right (by simp), hs]; simp [encPr]
  ·have f3b : h2[3]? = some (.cells 37 [.vec a 3 L.length]) := by rw [<- vecA_cons hne]; exact f3
   have f5_g := fun l => aE (l := l) f5
   have f5_s := fun o l => aO (l := l) f5 o
   have f5_e := fun o l => aM (o := o) (l := l) f5
   have f5_h := fun o => aJ (o := o) f5
   have f3b_g := fun l => aE (l := l) f3b
   have f3b_s := fun o l => aO (l := l) f3b o
   have f3b_e := fun o l => aM (o := o) (l := l) f3b
   have f3b_h := fun o => aJ (o := o) f3b
   have f3b_f5b := fun o l => get_beside (o := o) (l := l) f3b f5 (by simp)
   have f3b_f5s := fun o l x => set_beside (o := o) (l := l) (x' := x) f3b f5 (by simp)
   have f3b_f5g := fun o l x => get_beside2 (o := o) (l := l) (x' := x) f3b f5 (by simp)
   have f3b_f5k := fun o l x => get_beside3 (o := o) (l := l) (x' := x) f3b f5 (by simp)
   simp -implicitDefEqProofs only [go_sem, vecA_cons hne, blt01, List.append_assoc, f5_g, f5_s, f3b, f3b_g, f3b_f5b, f3b_f5s, w5]
   refine ⟨⟨by omega, by omega⟩, h2.length + 1, _, Wk.pick (Nat.zero_le _) (by simp [go_sem]), ?_, ?_, ?_, .inr ?_⟩
   ·exact aE (by rw [aK (by omega), aK (bB f5 f1 (by simp))]; exact f1)
   ·exact aE (by rw [aK (by omega), aK (bB f5 f2 (by simp))]; exact f2)
   ·rw [hs, vecA_snoc]; exact f3b_f5g _ _ _
   ·rw [List.getElem?_append_right (by simp), hs]; simp [encPr]
 ·have hge := aI hlt
  rw [aS hge] at f3 f4
  have f3_g := fun l => aE (l := l) f3
  have f3_s := fun o l => aO (l := l) f3 o
  have f3_e := fun o l => aM (o := o) (l := l) f3
  have f3_h := fun o => aJ (o := o) f3
  simp -implicitDefEqProofs only [go_sem, hlt, f2, f2_h, f3]
  refine fin_vecs (T := 60) (s := 3) ?_ hbk (fzG_pickP _ p ks)
  have hl2 := pickP_len p ks
  rcases f4 with h | h
  ·exact .inl (List.eq_nil_of_length_eq_zero (by omega))
  ·by_cases e : a = 2
   ·subst e; rw [f2] at h; cases h
   ·exact .inr (by rw [aK (fun h => e h.symm)]; exact h)
theorem h71 (p : Pg) (hp : p.small) (q : Qy) (hq : q.fits) (hq2 : q.goals.length < 2 ^ 24) : Pure (PC GL) 71 [encPg p, encQy q] (.tup [encPg (trimP p q), .i (okE (okQuery p q))]) := by
 have qR := h67 (GL := GL) p hp q hq hq2
 have hl := hp.l
 have hlt' := reachR_lt (p := p) (q := q)
 have hrl := reachR_len p q
 have hno : okQuery p q = false -> reachR p q = [] := fun e => by simp [reachR, e]
 simp only [encPg, encQy] at qR
 rw [encPg_trim]
 have hbk := bds_pickP p (reachR p q)
 generalize reachR p q = ks at *
 refine k71.pure (by simp) (by simp [go_sem]) (by simp [go_sem, hbk]) ?_
 simp -implicitDefEqProofs only [go_sem, c71, r71, encPg, encQy]
 refine aC hC qR ?_
 rcases hok : okQuery p q with _ | _
 ·have e0 : okE false = 5 := rfl
  rw [hno hok]
  simp -implicitDefEqProofs only [go_sem, e0, bne50]
  exact aD (cO (by simp [pickP, wkr, wkrs]) rfl) (by simp [pickP, go_sem])
 have e0 : okE true = 0 := rfl
 simp -implicitDefEqProofs only [go_sem, e0, bne_self_eq_false]
 refine aZ hC (fun j (_ : Nat) => [(9, .i j), (6, .sl 1 (ks.map encN)), (2, .ref 0 0), (4, .ref 2 0), (8, .ref 3 0)])
  (fun j a h' => h'[0]? = some (.cells 37 [.sl 3 (p.procs.map encPr)]) /\ h'[2]? = some (.cells 37 [.v (.slice none 0 0)]) /\ h'[3]? = some (.cells 37 [vecA a 3 (pickP p (ks.take j))]) /\ (j = 0 ∨ h'[a]? = some (.buf 60 3 (pickP p (ks.take j))))) ks.length ?_ fun j a h2 hj ⟨f1, f2, f3, f4⟩ => ?_
 ·exact ⟨0, _, Wk.pick (Nat.zero_le _) (by simp [go_sem]), rfl, rfl, rfl, .inl rfl⟩
 have f1_g := fun l => aE (l := l) f1
 have f1_s := fun o l => aO (l := l) f1 o
 have f1_e := fun o l => aM (o := o) (l := l) f1
 have f1_h := fun o => aJ (o := o) f1
 have f2_g := fun l => aE (l := l) f2
 have f2_s := fun o l => aO (l := l) f2 o
 have f2_e := fun o l => aM (o := o) (l := l) f2
 have f2_h := fun o => aJ (o := o) f2
 have f3_g := fun l => aE (l := l) f3
 have f3_s := fun o l => aO (l := l) f3 o
 have f3_e := fun o l => aM (o := o) (l := l) f3
 have f3_h := fun o => aJ (o := o) f3
 simp -implicitDefEqProofs only [go_sem]
 refine aG (fun hlt => ?_) (fun hlt => ?_)
 ·have hlt := aH hlt
  have w5 : IntKind.i64.wrap ((j : Int) + 1) = (j : Int) + 1 := aF _ (by omega)
  have hi := hlt' _ (List.getElem_mem hlt)
  have hs := pickP_snoc p hlt
  have hq0 : p.procs.getD ks[j] default = p.procs[ks[j]] := by simp [List.getD, hi]
  rw [hq0] at hs
  have hqs := hp.q _ (List.getElem_mem hi)
  have hc := hqs.c
  have ll := pickP_len p (ks.take j)
  rw [List.length_take, Nat.min_eq_left (Nat.le_of_lt hlt)] at ll
  have hbL := bds_pickP p (ks.take j)
  have lk : ks.length < 2 ^ 24 := by omega
  obtain ⟨Q, hQ⟩ : ∃ Q, p.procs[ks[j]] = Q := ⟨_, rfl⟩
  rw [hQ] at hs
  generalize pickP p (ks.take j) = L at *
  simp -implicitDefEqProofs only [go_sem, hlt, aQ, encN, bnd hi, hi, hQ, encPr, f1, f3, f3_g]
  have nx : L = [] ∨ h2[a]? = some (.buf 60 3 L) /\ L ≠ [] := by
   rcases f4 with h | h
   ·exact .inl (List.eq_nil_of_length_eq_zero (by omega))
   ·by_cases e : L = []
    ·exact .inl e
    ·exact .inr ⟨h, e⟩
  rcases nx with hL0 | ⟨f5, hne⟩
  ·subst hL0
   have hj0 : j = 0 := ll.symm
   have f3b : h2[3]? = some (.cells 37 [.v (.slice none 0 0)]) := f3
   have f3b_g := fun l => aE (l := l) f3b
   have f3b_s := fun o l => aO (l := l) f3b o
   have f3b_e := fun o l => aM (o := o) (l := l) f3b
   have f3b_h := fun o => aJ (o := o) f3b
   simp -implicitDefEqProofs only [go_sem, vecA_nil, blt01, List.append_assoc, f3b_g, f3b_s, w5]
   refine ⟨by simp, h2.length + 1, _, Wk.pick (Nat.zero_le _) (by simp [go_sem]), ?_, ?_, ?_, .inr ?_⟩
   ·exact aE (by rw [aK (by omega)]; exact f1)
   ·exact aE (by rw [aK (by omega)]; exact f2)
   ·rw [hs, vecA_snoc]; exact f3b_e _ _
   ·rw [List.getElem?_append_right (by simp), hs]; simp [encPr]
  ·have f3b : h2[3]? = some (.cells 37 [.vec a 3 L.length]) := by rw [<- vecA_cons hne]; exact f3
   have f5_g := fun l => aE (l := l) f5
   have f5_s := fun o l => aO (l := l) f5 o
   have f5_e := fun o l => aM (o := o) (l := l) f5
   have f5_h := fun o => aJ (o := o) f5
   have f3b_g := fun l => aE (l := l) f3b
   have f3b_s := fun o l => aO (l := l) f3b o
   have f3b_e := fun o l => aM (o := o) (l := l) f3b
   have f3b_h := fun o => aJ (o := o) f3b
   have f3b_f5b := fun o l => get_beside (o := o) (l := l) f3b f5 (by simp)
   have f3b_f5s := fun o l x => set_beside (o := o) (l := l) (x' := x) f3b f5 (by simp)
   have f3b_f5g := fun o l x => get_beside2 (o := o) (l := l) (x' := x) f3b f5 (by simp)
   have f3b_f5k := fun o l x => get_beside3 (o := o) (l := l) (x' := x) f3b f5 (by simp)
   simp -implicitDefEqProofs only [go_sem, vecA_cons hne, blt01, List.append_assoc, f5_g, f5_s, f3b_f5b, f3b_f5s, w5]
   refine ⟨⟨by omega, by omega⟩, h2.length + 1, _, Wk.pick (Nat.zero_le _) (by simp [go_sem]), ?_, ?_, ?_, .inr ?_⟩
   ·exact aE (by rw [aK (by omega), aK (bB f5 f1 (by simp))]; exact f1)
   ·exact aE (by rw [aK (by omega), aK (bB f5 f2 (by simp))]; exact f2)
   ·rw [hs, vecA_snoc]; exact f3b_f5g _ _ _
   ·rw [List.getElem?_append_right (by simp), hs]; simp [encPr]
 ·have hge := aI hlt
  rw [aS hge] at f3 f4
  have f3_g := fun l => aE (l := l) f3
  have f3_s := fun o l => aO (l := l) f3 o
  have f3_e := fun o l => aM (o := o) (l := l) f3
  have f3_h := fun o => aJ (o := o) f3
  simp -implicitDefEqProofs only [go_sem, hlt, f2, f2_h, f3]
  refine fin_vecs (T := 60) (s := 3) ?_ hbk (fzG_pickP _ p ks)
  have hl2 := pickP_len p ks
  rcases f4 with h | h
  ·exact .inl (List.eq_nil_of_length_eq_zero (by omega))
  ·by_cases e : a = 2
   ·subst e; rw [f2] at h; cases h
   ·exact .inr (by rw [aK (fun h => e h.symm)]; exact h)
theorem h73 (q : Pr) (hl : q.clauses.length < 2 ^ 40) (hq : ∀ c ∈ q.clauses, sizes c.parts < 2 ^ 30) : Pure (PC GL) 73 [encPr q, encPr q] (.b true) := by
 refine k73.pure (by simp) (by simp [go_sem]) (by simp [go_sem]) ?_
 simp -implicitDefEqProofs only [go_sem, c73, r73, encPr, bne_self_eq_false, beq_self_eq_true, Bool.not_true]
 refine aZ hC (fun j (_ : Unit) => [(5, .i j), (2, .ref 0 0), (3, .ref 1 0)])
  (fun j (_ : Unit) h' => h'[0]? = some (.cells 60 [.str q.name, .i q.arity, .sl 5 (q.clauses.map encCl)]) /\ h'[1]? = some (.cells 60 [.str q.name, .i q.arity, .sl 5 (q.clauses.map encCl)])) q.clauses.length ⟨(), _, Wk.pick (Nat.zero_le _) (by simp [go_sem]), rfl, rfl⟩ fun j _ h2 hj ⟨f1, f2⟩ => ?_
 have f1_g := fun l => aE (l := l) f1
 have f1_s := fun o l => aO (l := l) f1 o
 have f1_e := fun o l => aM (o := o) (l := l) f1
 have f1_h := fun o => aJ (o := o) f1
 have f2_g := fun l => aE (l := l) f2
 have f2_s := fun o l => aO (l := l) f2 o
 have f2_e := fun o l => aM (o := o) (l := l) f2
 have f2_h := fun o => aJ (o := o) f2
 simp -implicitDefEqProofs only [go_sem, f1]
 refine aG (fun hlt => ?_) (fun hlt => ?_)
 ·have hlt := aH hlt
  have w5 : IntKind.i64.wrap ((j : Int) + 1) = (j : Int) + 1 := aF _ (by omega)
  have q56 := h56 (GL := GL) q.clauses[j] (hq _ (List.getElem_mem hlt))
  simp -implicitDefEqProofs only [go_sem, hlt, aQ, f1, f2]
  refine aC hC q56 ?_
  simp -implicitDefEqProofs only [go_sem, Bool.not_true, w5]
  refine ⟨(), _, Wk.pick (Nat.zero_le _) (by simp [go_sem]), ?_, ?_⟩ <;> first | exact f1 | exact f2 | simp [f1, f2]
 ·simp -implicitDefEqProofs only [go_sem, hlt]
  refine aD ?_ ?_ <;> simp [go_sem]
theorem h30 (p : Pg) (hp : p.small) : Pure (PC GL) 30 [encPg p, encPg p] (.b true) := by
 have hl := hp.l
 refine k30.pure (by simp) (by simp [go_sem]) (by simp [go_sem]) ?_
 simp -implicitDefEqProofs only [go_sem, c30, r30, encPg, bne_self_eq_false]
 refine aZ hC (fun j (_ : Unit) => [(5, .i j), (2, .ref 0 0), (3, .ref 1 0)])
  (fun j (_ : Unit) h' => h'[0]? = some (.cells 37 [.sl 3 (p.procs.map encPr)]) /\ h'[1]? = some (.cells 37 [.sl 3 (p.procs.map encPr)])) p.procs.length ⟨(), _, Wk.pick (Nat.zero_le _) (by simp [go_sem]), rfl, rfl⟩ fun j _ h2 hj ⟨f1, f2⟩ => ?_
 have f1_g := fun l => aE (l := l) f1
 have f1_s := fun o l => aO (l := l) f1 o
 have f1_e := fun o l => aM (o := o) (l := l) f1
 have f1_h := fun o => aJ (o := o) f1
 have f2_g := fun l => aE (l := l) f2
 have f2_s := fun o l => aO (l := l) f2 o
 have f2_e := fun o l => aM (o := o) (l := l) f2
 have f2_h := fun o => aJ (o := o) f2
 simp -implicitDefEqProofs only [go_sem, f1]
 refine aG (fun hlt => ?_) (fun hlt => ?_)
 ·have hlt := aH hlt
  have w5 : IntKind.i64.wrap ((j : Int) + 1) = (j : Int) + 1 := aF _ (by omega)
  have hqs := hp.q _ (List.getElem_mem hlt)
  have hc := hqs.c
  have q73 := h73 (GL := GL) p.procs[j] (by omega) fun c hcm => by have := (hqs.t c hcm).1; omega
  simp -implicitDefEqProofs only [go_sem, hlt, aQ, f1, f2]
  refine aC hC q73 ?_
  simp -implicitDefEqProofs only [go_sem, Bool.not_true, w5]
  refine ⟨(), _, Wk.pick (Nat.zero_le _) (by simp [go_sem]), ?_, ?_⟩ <;> first | exact f1 | exact f2 | simp [f1, f2]
 ·simp -implicitDefEqProofs only [go_sem, hlt]
  refine aD ?_ ?_ <;> simp [go_sem]
theorem h68 (l : List Int) (hl : l.length < 2 ^ 47) : Pure (PC GL) 68 [.sl 1 (l.map encI), .sl 1 (l.map encI)] (.b true) := by
 refine k68.pure (by simp) (by simp [go_sem]) (by simp [go_sem]) ?_
 simp -implicitDefEqProofs only [go_sem, c68, r68, bne_self_eq_false]
 refine aZ hC (fun j (_ : Unit) => [(13, .i j), (12, .i l.length), (0, .sl 1 (l.map encI)), (1, .sl 1 (l.map encI))]) (fun j (_ : Unit) _ => True) l.length ⟨(), _, Wk.pick (Nat.zero_le _) (by simp [go_sem]), trivial⟩ fun j _ h2 hj _ => ?_
 simp -implicitDefEqProofs only [go_sem]
 refine aG (fun hlt => ?_) (fun hlt => ?_)
 ·have hlt := aH hlt
  have w5 : IntKind.i64.wrap ((j : Int) + 1) = (j : Int) + 1 := aF _ (by omega)
  simp -implicitDefEqProofs only [go_sem, hlt, aQ, encI, bne_self_eq_false, w5]
  exact ⟨(), _, Wk.pick (Nat.zero_le _) (by simp [go_sem])⟩
 ·simp -implicitDefEqProofs only [go_sem, hlt]
  refine aD ?_ ?_ <;> simp [go_sem]
theorem h68n (l : List Nat) (hl : l.length < 2 ^ 47) : Pure (PC GL) 68 [.sl 1 (l.map encN), .sl 1 (l.map encN)] (.b true) := by
 have := h68 (GL := GL) (l.map fun (n : Nat) => (n : Int)) (by simpa using hl)
 rw [List.map_map] at this
 exact this
theorem h72 (l : List (List Int)) (hl : l.length < 2 ^ 47) (ha : ∀ x ∈ l, x.length < 2 ^ 47) : Pure (PC GL) 72 [.sl 1 (l.map encIs), .sl 1 (l.map encIs), .fn (.func 68) [] []] (.b true) := by
 refine k72.pure (by simp) (by simp [go_sem]) (by simp [go_sem]) ?_
 simp -implicitDefEqProofs only [go_sem, c72, r72, bne_self_eq_false]
 refine aZ hC (fun j (_ : Unit) => [(17, .i j), (15, .sl 1 (l.map encIs)), (16, .i l.length), (1, .sl 1 (l.map encIs)), (2, .fn (.func 68) [] [])]) (fun j (_ : Unit) _ => True) l.length ⟨(), _, Wk.pick (Nat.zero_le _) (by simp [go_sem]), trivial⟩ fun j _ h2 hj _ => ?_
 simp -implicitDefEqProofs only [go_sem]
 refine aG (fun hlt => ?_) (fun hlt => ?_)
 ·have hlt := aH hlt
  have w5 : IntKind.i64.wrap ((j : Int) + 1) = (j : Int) + 1 := aF _ (by omega)
  have q68 := h68 (GL := GL) l[j] (ha _ (List.getElem_mem hlt))
  simp -implicitDefEqProofs only [go_sem, hlt, aQ, encIs]
  refine aC hC q68 ?_
  simp -implicitDefEqProofs only [go_sem, Bool.not_true, w5]
  exact ⟨(), _, Wk.pick (Nat.zero_le _) (by simp [go_sem])⟩
 ·simp -implicitDefEqProofs only [go_sem, hlt]
  refine aD ?_ ?_ <;> simp [go_sem]
theorem comps_len (n : Nat) (M : List (List Bool)) : ∀ (f : Nat) (done : List Bool), (comps n M f done).length <= f /\ ∀ x ∈ comps n M f done, x.length <= n
 | 0, _ => by simp [comps]
 | f + 1, done => by
  rw [comps]
  split
  ·simp
  ·have := comps_len n M f
   rename_i i _
   have t := this (markM n M done i)
   refine ⟨by simp; omega, fun x hx => ?_⟩
   rcases List.mem_cons.1 hx with h | h
   ·subst h; exact compT_len M i n
   ·exact t.2 x h
theorem compsR_len (p : Pg) : (compsR p).length <= p.procs.length /\ ∀ x ∈ compsR p, x.length <= p.procs.length := by
 unfold compsR
 split
 ·exact comps_len _ _ _ _
 ·simp
theorem callsR_len (p : Pg) (i : Int) : (callsR p i).length <= p.procs.length := by
 unfold callsR
 split
 ·have := nxs_len (calG p i.toNat)
  rwa [calG_len] at this
 ·simp
theorem trim_small {p : Pg} (hp : p.small) (q : Qy) : (trimP p q).small :=
 ⟨by have := reachR_len p q; have := hp.l; simp only [trimP, List.length_map]; omega, fun x hx => by
  obtain ⟨i, hi, rfl⟩ := List.mem_map.1 hx
  have hi := reachR_lt i hi
  simp only [List.getD, List.getElem?_eq_getElem hi, Option.getD_some]
  exact hp.q _ (List.getElem_mem hi)⟩
theorem h10 (p : Pg) (q : Qy) (i : Int) (hp : p.wid) (hq : q.wid) : Pure (PC GLs) 10 [encPg p, encQy q, .i i] (.b true) := by
 have f2 := h17 (GL := GLs) [q.goals] 2000 (by simp [hq.1, hq.2]) (by simp) (by omega)
 have q27 := fun h => h27 (GL := GLs) p hp h
 simp only [encPg] at q27
 refine k10.pure (by simp) (by simp [go_sem]) (by simp [go_sem]) ?_
 simp -implicitDefEqProofs only [go_sem, c10, r10, encPg, encQy]
 refine aC hC sane_ok ?_
 simp -implicitDefEqProofs only [go_sem, Bool.not_true]
 refine aR hC (q27 _) fun x h1 ⟨b, hx, hk1, hb⟩ => ?_
 subst hx
 have o1 := hk1.got (i := 0) rfl
 have o2 := hk1.got (i := 1) rfl
 have o1_g := fun l => aE (l := l) o1
 have o1_s := fun o l => aO (l := l) o1 o
 have o1_e := fun o l => aM (o := o) (l := l) o1
 have o1_h := fun o => aJ (o := o) o1
 have o2_g := fun l => aE (l := l) o2
 have o2_s := fun o l => aO (l := l) o2 o
 have o2_e := fun o l => aM (o := o) (l := l) o2
 have o2_h := fun o => aJ (o := o) o2
 rcases b with _ | _
 ·simp -implicitDefEqProofs only [go_sem, Bool.not_false]
  refine aD ?_ ?_ <;> simp [go_sem]
 have hps := hb rfl
 simp -implicitDefEqProofs only [go_sem, Bool.not_true, o2, blt01]
 refine call_fz f2 ?_ ?_
 ·simp [fzs, fzGs, fzG, encL, fzGs_encs, <- encs_map]
 rcases hc2 : cnts [q.goals].flatten 2000 1 with ⟨_ | _, y⟩
 ·simp -implicitDefEqProofs only [go_sem, Bool.not_false]
  refine aD ?_ ?_ <;> simp [go_sem]
 have hy := cnts_true q.goals 2000 1 y (by omega) (by simpa using hc2)
 have hqf : q.fits := ⟨by omega, hy.2.2⟩
 have hgl := aV q.goals
 have hg2 : q.goals.length < 2 ^ 24 := by omega
 have g1 := h42 p hps i
 have g2 := h66 (GL := GLs) p hps i
 have g3 := h65 p hps q hqf hg2
 have g4 := h67 (GL := GLs) p hps q hqf hg2
 have g5 := h63 p hps
 have g6 := h69 p hps
 have g7 := h70 p hps q hqf hg2
 have g8 := h71 (GL := GLs) p hps q hqf hg2
 have hl := hps.l
 have l1 := callsR_len p i
 have l2 := reachR_len p q
 have l3 := compsR_len p
 have e1 := h68n (GL := GLs) (callsR p i) (by omega)
 have e2 := h68n (GL := GLs) (reachR p q) (by omega)
 have e3 := h72 (GL := GLs) (compsR p) (by omega) fun x hx => by have := l3.2 x hx; omega
 have e4 := h30 (GL := GLs) (trimP p q) (trim_small hps q)
 simp only [encPg_trim] at g7 g8 e4
 simp only [encPg, encQy] at g1 g2 g3 g4 g5 g6 g7 g8
 generalize callsR p i = la at *
 generalize callsE p i = ea at *
 generalize hlb : reachR p q = lb at *
 generalize compsR p = lc at *
 generalize pickP p lb = ld at *
 clear hb hps q27 f2 hc2 hy hk1 l1 l2 l3
 simp -implicitDefEqProofs only [go_sem, Bool.not_true, o1_g]
 refine aC hC g1 ?_
 simp -implicitDefEqProofs only [go_sem, o1_g]
 refine aC hC g2 ?_
 simp -implicitDefEqProofs only [go_sem, o1_g, o2_g]
 refine aC hC g3 ?_
 simp -implicitDefEqProofs only [go_sem, o1_g, o2_g]
 refine aC hC g4 ?_
 simp -implicitDefEqProofs only [go_sem]
 refine aC hC e1 ?_
 simp -implicitDefEqProofs only [go_sem, Bool.not_true, bne_self_eq_false]
 refine aC hC e2 ?_
 simp -implicitDefEqProofs only [go_sem, o1_g, Bool.not_true, bne_self_eq_false]
 refine aC hC g5 ?_
 simp -implicitDefEqProofs only [go_sem, o1_g]
 refine aC hC g6 ?_
 simp -implicitDefEqProofs only [go_sem, o1_g, o2_g]
 refine aC hC g7 ?_
 simp -implicitDefEqProofs only [go_sem, aP, bA, List.append_assoc, o1_g, o2_g]
 refine aC hC g8 ?_
 simp -implicitDefEqProofs only [go_sem, aP, bA, List.append_assoc]
 refine aC hC e3 ?_
 simp -implicitDefEqProofs only [go_sem, aP, beq_self_eq_true]
 refine aC hC e4 ?_
 simp -implicitDefEqProofs only [go_sem, beq_self_eq_true]
 refine aD ?_ ?_ <;> simp [go_sem]
end Go.Rip
