/- Trees in memory of their own; equal lists, equal clauses. -/
import Derived.Test.YtndcajdameofjaaGreatDoorRipBF
import Derived.Test.YtndcajdameofjaaGreatDoorRipAU
import Derived.Test.YtndcajdameofjaaGreatDoorRipAI
import Derived.Test.YtndcajdameofjaaGreatDoorRipBE
import Derived.Test.YtndcajdameofjaaGreatDoorRipAS
namespace Go.Rip
open Go
set_option maxRecDepth 100000
theorem bI {α β : Type} {l : List α} {j : Nat} (hlt : j < l.length) (f : α -> β) : (l.take (j + 1)).map f = (l.take j).map f ++ [f l[j]] := by
 rw [List.take_succ_eq_append_getElem hlt, List.map_append]; rfl
theorem cC {α β : Type} {l : List α} {j : Nat} (h : l.length <= j) (f : α -> β) : (l.take j).map f = l.map f := by rw [List.take_of_length_le h]
variable {GL : Glob}
theorem h207 : ∀ (n : Nat) (l : List Tm), sizes l <= n -> n < 2 ^ 30 -> Pure (PC GL) 207 [.sl 4 (l.map enc)] (.sl 4 (l.map enc)) := by
 intro n
 induction n with
 | zero =>
  intro l hl _
  have h4 := aM l
  have : l = [] := List.length_eq_zero_iff.1 (by omega)
  subst this
  refine k207.pure (by simp) (by simp [go_sem]) (by simp [go_sem]) ?_
  simp -implicitDefEqProofs only [c207, r207, go_sem]
  refine aZ hC (fun j (_ : Unit) => [(8, .i j), (7, .i (0 : Nat)), (3, .v (.slice none 0 0))]) (fun j (_ : Unit) h => True) 0 ⟨(), _, Wk.pick (Nat.zero_le _) (by simp [go_sem]), trivial⟩ fun j _ h hj _ => ?_
  have : j = 0 := by omega
  subst this
  simp -implicitDefEqProofs only [go_sem, show decide (((0 : Nat) : Int) < ((0 : Nat) : Int)) = false from rfl]
  refine aD ?_ (by simp [go_sem])
  simp [go_sem]
 | succ n ih =>
 intro l hl hn
 have h4 := aM l
 refine k207.pure (by simp) (by simp [go_sem]) (by simp [go_sem]) ?_
 simp -implicitDefEqProofs only [c207, r207, go_sem]
 refine aZ hC (fun j a => [(8, .i j), (3, .own a 4 ((l.take j).map enc)), (6, .sl 4 (l.map enc)), (7, .i l.length)]) (fun j a h => h[a]? = some (.spare 24 4)) l.length ?_ fun j a h hj ha => ?_
 ·refine ⟨0, _, (Wk.own_nil (h := []) 24 4 3 (by simp [go_sem]) (Nat.zero_le _)).trans (Wk.pick (by simp) (by simp [go_sem])), rfl⟩
 have ha_g := fun l => aE (l := l) ha
 have ha_s := fun o l => aJ (l := l) ha o
 have ha_e := fun o l => aH (o := o) (l := l) ha
 have ha_h := fun o => aL (o := o) ha
 simp -implicitDefEqProofs only [go_sem]
 refine aG (fun hlt => ?_) (fun hlt => ?_)
 ·have hlt := aI hlt
  have g1 := bA hlt
  have g2 := bC l[j]
  have w5 : IntKind.i64.wrap ((j : Int) + 1) = (j : Int) + 1 := aF _ (by omega)
  simp -implicitDefEqProofs only [go_sem, hlt, aP]
  refine aC hC (ih l[j].l (by omega) (by omega)) ?_
  simp -implicitDefEqProofs only [go_sem, List.append_assoc, ha_g, ha_s]
  refine ⟨by simp; omega, ?_⟩
  refine ⟨h.length + 2, _, Wk.pick (Nat.zero_le _) (by simp [go_sem, w5, bI hlt]), ?_⟩
  rw [cX (by simp)]; simp
 ·have hge := aK hlt
  simp -implicitDefEqProofs only [go_sem, hlt, cC hge]
  refine aD ?_ (by simp [go_sem])
  simp [go_sem]
noncomputable def sames (a b : List Tm) : Bool := @decide (a = b) (Classical.propDecidable _)
theorem sames_iff {a b : List Tm} : sames a b = true ↔ a = b := by simp [sames]
theorem h35 (a : List Tm) (hs : sizes a < 2 ^ 30) (b : List Tm) (hb : b.length < 2 ^ 47) : Pure (PC GL) 35 [.sl 4 (a.map enc), .sl 4 (b.map enc)] (.b (sames a b)) := by
 have h4 := aM a
 refine k35.pure (by simp) (by simp [go_sem]) (by simp [go_sem]) ?_
 simp -implicitDefEqProofs only [c35, r35, go_sem]
 by_cases hl : a.length = b.length
 ·have e : ((a.length : Int) != (b.length : Int)) = false := by simp [hl]
  simp -implicitDefEqProofs only [go_sem, e]
  refine aZ hC (fun j (_ : Unit) => [(5, .i j), (0, .sl 4 (a.map enc)), (1, .sl 4 (b.map enc))]) (fun j (_ : Unit) _ => a.take j = b.take j) a.length ⟨(), _, Wk.pick (Nat.zero_le _) (by simp [go_sem]), by simp⟩ fun j _ h hj hI => ?_
  simp -implicitDefEqProofs only [go_sem]
  refine aG (fun hlt => ?_) (fun hlt => ?_)
  ·have hlt := aI hlt
   have hlb : j < b.length := by omega
   have g1 := bA hlt
   have w5 : IntKind.i64.wrap ((j : Int) + 1) = (j : Int) + 1 := aF _ (by omega)
   have db : decide ((j : Int) < (b.length : Int)) = true := decide_eq_true (by omega)
   simp -implicitDefEqProofs only [go_sem, hlt, hlb, aP]
   refine aC hC (h24 a[j] (by omega) b[j]) ?_
   simp -implicitDefEqProofs only [go_sem]
   by_cases hx : a[j] = b[j]
   ·have e2 : a[j].same b[j] = true := same_iff.2 hx
    simp -implicitDefEqProofs only [go_sem, e2, Bool.not_true]
    refine ⟨(), _, Wk.pick (Nat.zero_le _) (by simp [go_sem, w5]), ?_⟩
    rw [List.take_succ_eq_append_getElem hlt, List.take_succ_eq_append_getElem hlb, hI, hx]
   ·have e2 : a[j].same b[j] = false := gN hx
    have e3 : sames a b = false := by
     rw [Bool.eq_false_iff]
     intro h
     have := sames_iff.1 h
     subst this
     exact hx rfl
    simp -implicitDefEqProofs only [go_sem, e2, e3, Bool.not_false]
    refine aD ?_ ?_ <;> simp [go_sem]
  ·have hge := aK hlt
   rw [aQ hge, aQ (by omega)] at hI
   have e3 : sames a b = true := sames_iff.2 hI
   simp -implicitDefEqProofs only [go_sem, hlt, e3]
   refine aD ?_ ?_ <;> simp [go_sem]
 ·have e : ((a.length : Int) != (b.length : Int)) = true := by simp; omega
  have e3 : sames a b = false := by
   rw [Bool.eq_false_iff]
   intro h
   exact hl (by rw [sames_iff.1 h])
  simp -implicitDefEqProofs only [go_sem, e, e3]
  refine aD ?_ ?_ <;> simp [go_sem]
theorem h56 (c : Cl) (hs : sizes c.parts < 2 ^ 30) : Pure (PC GL) 56 [encCl c, encCl c] (.b true) := by
 have hp : sizes c.parts = sizes c.head + (sizes c.guard + sizes c.body) := by simp [Cl.parts, cF]
 have l1 := aM c.head
 have l2 := aM c.guard
 have l3 := aM c.body
 have q1 := h35 (GL := GL) c.head (by omega) c.head (by omega)
 have q2 := h35 (GL := GL) c.guard (by omega) c.guard (by omega)
 have q3 := h35 (GL := GL) c.body (by omega) c.body (by omega)
 rw [sames_iff.2 rfl] at q1 q2 q3
 refine k56.pure (by simp) (by simp [go_sem]) (by simp [go_sem]) ?_
 simp -implicitDefEqProofs only [go_sem, c56, r56, encCl, beq_self_eq_true]
 refine aC hC q1 ?_
 simp -implicitDefEqProofs only [go_sem]
 refine aC hC q2 ?_
 simp -implicitDefEqProofs only [go_sem]
 refine aC hC q3 ?_
 simp -implicitDefEqProofs only [go_sem]
 refine aD ?_ ?_ <;> simp [go_sem]
end Go.Rip
namespace Go.Rip
open Go Go.Proofs
set_option maxRecDepth 100000
variable {GL : Glob}
attribute [local irreducible] Pure
def ownA (a sz : Nat) (l : List AV) : AV := if l = [] then .v (.slice none 0 0) else .own a sz l
theorem ownA_cons {a sz : Nat} {l : List AV} (h : l ≠ []) : ownA a sz l = .own a sz l := if_neg h
theorem ownA_snoc (a sz : Nat) (l : List AV) (x : AV) : ownA a sz (l ++ [x]) = .own a sz (l ++ [x]) := by simp [ownA]
theorem wkr_ownA (a sz : Nat) (l : List AV) : wkr (ownA a sz l) (.sl sz l) := by
 unfold ownA; split
 ·simp [wkr, *]
 ·simp [wkr]
theorem h159 (q : Pr) (hl : q.clauses.length < 2 ^ 40) (hq : ∀ c ∈ q.clauses, sizes c.parts < 2 ^ 30) : Pure (PC GL) 159 [encPr q] (encPr q) := by
 refine k159.pure (by simp) (by simp [go_sem]) (by simp [go_sem]) ?_
 simp -implicitDefEqProofs only [go_sem, c159, r159, encPr]
 refine aZ hC (fun j (_ : Nat) => [(14, .i j), (12, .sl 5 (q.clauses.map encCl)), (13, .i q.clauses.length), (2, .ref 1 0), (3, .ref 2 0)])
  (fun j a h' => h'[1]? = some (.cells 60 [.str [], .i 0, .v (.slice none 0 0)]) /\ h'[2]? = some (.cells 60 [.str q.name, .i q.arity, ownA a 5 ((q.clauses.take j).map encCl)]) /\ (j = 0 ∨ h'[a]? = some (.spare 68 5))) q.clauses.length ?_ fun j a h2 hj ⟨f1, f2, f3⟩ => ?_
 ·exact ⟨0, _, Wk.pick (Nat.zero_le _) (by simp [go_sem]), rfl, rfl, .inl rfl⟩
 have f1_g := fun l => aE (l := l) f1
 have f1_s := fun o l => aJ (l := l) f1 o
 have f1_e := fun o l => aH (o := o) (l := l) f1
 have f1_h := fun o => aL (o := o) f1
 have f2_g := fun l => aE (l := l) f2
 have f2_s := fun o l => aJ (l := l) f2 o
 have f2_e := fun o l => aH (o := o) (l := l) f2
 have f2_h := fun o => aL (o := o) f2
 simp -implicitDefEqProofs only [go_sem]
 refine aG (fun hlt => ?_) (fun hlt => ?_)
 ·have hlt := aI hlt
  have w5 : IntKind.i64.wrap ((j : Int) + 1) = (j : Int) + 1 := aF _ (by omega)
  have hc := hq _ (List.getElem_mem hlt)
  have hs : (q.clauses.take (j + 1)).map encCl = (q.clauses.take j).map encCl ++ [encCl q.clauses[j]] := bI hlt encCl
  obtain ⟨c, hcd⟩ : ∃ c, q.clauses[j] = c := ⟨_, rfl⟩
  rw [hcd] at hc hs
  have hp : sizes c.parts = sizes c.head + (sizes c.guard + sizes c.body) := by simp [Cl.parts, cF]
  have q1 := h207 (GL := GL) _ c.head (Nat.le_refl _) (by omega)
  have q2 := h207 (GL := GL) _ c.guard (Nat.le_refl _) (by omega)
  have q3 := h207 (GL := GL) _ c.body (Nat.le_refl _) (by omega)
  simp -implicitDefEqProofs only [go_sem, hlt, aP, hcd, encCl, f2_g]
  refine aC hC q1 ?_
  simp -implicitDefEqProofs only [go_sem, f2_g]
  refine aC hC q2 ?_
  simp -implicitDefEqProofs only [go_sem, f2_g]
  refine aC hC q3 ?_
  simp -implicitDefEqProofs only [go_sem, List.append_assoc, f2_g, f2_s]
  have nx : j = 0 ∨ (q.clauses.take j).map encCl ≠ [] := by
   rcases Nat.eq_zero_or_pos j with h | h
   ·exact .inl h
   ·refine .inr fun e => ?_
    have := congrArg List.length e
    simp only [List.length_map, List.length_take, List.length_nil] at this
    omega
  have ll : ((q.clauses.take j).map encCl).length <= q.clauses.length := by simp; omega
  have hso : ownA (h2.length + 2) 5 ((q.clauses.take (j + 1)).map encCl) = .own (h2.length + 2) 5 ((q.clauses.take j).map encCl ++ [encCl c]) := by rw [hs, ownA_snoc]
  rcases nx with rfl | hne
  ·simp -implicitDefEqProofs only [go_sem, kB, w5]
   refine ⟨by simp, h2.length + 2, _, Wk.pick (Nat.zero_le _) (by simp [go_sem]), ?_, ?_, .inr ?_⟩
   ·rw [aE]
    rw [aN (by omega)]; exact f1
   ·rw [hso]; exact f2_e _ _
   ·rw [List.getElem?_append_right (by simp)]; simp
  ·have f4 := f3.resolve_left (by rintro rfl; exact hne rfl)
   have f4_g := fun l => aE (l := l) f4
   have f4_s := fun o l => aJ (l := l) f4 o
   have f4_e := fun o l => aH (o := o) (l := l) f4
   have f4_h := fun o => aL (o := o) f4
   have f2_f4b := fun o l => bE (o := o) (l := l) f2 f4 (by simp)
   have f2_f4s := fun o l x => dJ (o := o) (l := l) (x' := x) f2 f4 (by simp)
   have f2_f4g := fun o l x => cZ (o := o) (l := l) (x' := x) f2 f4 (by simp)
   have f2_f4k := fun o l x => cY (o := o) (l := l) (x' := x) f2 f4 (by simp)
   generalize hL : (q.clauses.take j).map encCl = L at *
   simp -implicitDefEqProofs only [go_sem, kB, ownA_cons hne, List.append_assoc, f4_g, f4_s, f2_f4b, f2_f4s, w5]
   refine ⟨by omega, h2.length + 2, _, Wk.pick (Nat.zero_le _) (by simp [go_sem]), ?_, ?_, .inr ?_⟩
   ·rw [aE]
    rw [aN (by omega), aN (bS f4 f1 (by simp))]; exact f1
   ·rw [hso]; exact f2_f4g _ _ _
   ·rw [List.getElem?_append_right (by simp)]; simp
 ·have hge := aK hlt
  rw [cC hge] at f2
  have f2_g := fun l => aE (l := l) f2
  have f2_s := fun o l => aJ (l := l) f2 o
  have f2_e := fun o l => aH (o := o) (l := l) f2
  have f2_h := fun o => aL (o := o) f2
  simp -implicitDefEqProofs only [go_sem, hlt, f1, f1_h, f2]
  refine aD ?_ ?_
  ·simp only [wkr, wkrs, and_true, true_and]
   exact wkr_ownA _ _ _
  ·simp [go_sem]
def vecA (a sz : Nat) (l : List AV) : AV := if l = [] then .v (.slice none 0 0) else .vec a sz l.length
theorem gC {a sz : Nat} {l : List AV} (h : l ≠ []) : vecA a sz l = .vec a sz l.length := if_neg h
theorem qQ (a sz : Nat) (l : List AV) (x : AV) : vecA a sz (l ++ [x]) = .vec a sz (l.length + 1) := by simp [vecA]
theorem wP (a sz : Nat) (l : List AV) : (vecA a sz l).solid = true := by unfold vecA; split <;> rfl
theorem vV (a sz : Nat) (l : List AV) : (vecA a sz l).cells = [vecA a sz l] := by unfold vecA; split <;> rfl
theorem wW (φ : Nat -> Nat -> Nat -> AV) (l : List Tm) : fzGs φ (l.map enc) = l.map enc := by rw [<- fB]; exact dZ φ l
theorem fzG_encCl (φ : Nat -> Nat -> Nat -> AV) (c : Cl) : fzG φ (encCl c) = encCl c := by simp only [encCl, fzG, fzGs, wW]
theorem uK (φ : Nat -> Nat -> Nat -> AV) : ∀ l : List Cl, fzGs φ (l.map encCl) = l.map encCl
 | [] => rfl
 | c :: r => by simp only [List.map_cons, fzGs, fzG_encCl, uK φ r]
theorem fzG_encPr (φ : Nat -> Nat -> Nat -> AV) (q : Pr) : fzG φ (encPr q) = encPr q := by simp only [encPr, fzG, fzGs, uK]
theorem fin_vecs {a : Nat} {l : List AV} {h : List AObj} {T : TypeId} {s : Nat} {e : Int} (ha : l = [] ∨ h[a]? = some (.buf T s l)) (hb : bds 0 l) (hz : ∀ x ∈ l, fz x = x) :
  ∃ y h', Wk GL 0 [(0, .tup [.agg [vecA a 3 l], .i e])] h [(0, y)] h' /\ h' = [] /\ ARes.val y = ARes.val (.tup [.agg [.sl 3 l], .i e]) := by
 by_cases hl : l = []
 ·rw [hl]
  exact aD (bL (by simp [vecA, wkr, wkrs]) rfl) (by simp [go_sem])
 ·have ha := ha.resolve_left hl
  have e1 : fzN h 1 (.tup [.agg [.vec a 3 l.length], .i e]) = .tup [.agg [.sl 3 l], .i e] := by
   have : fzN h 0 = fz := rfl
   simp only [fzN, fzG, fzGs, ha, List.take_length]
   rw [show Nat.ble l.length l.length = true from aY _]
   have : l.map fz = l := by
    conv => rhs; rw [<- List.map_id l]
    exact List.map_congr_left fun x hx => hz x hx
   simp only [this]
  rw [gC hl]
  have hb : bd 0 (fzN h 1 (.tup [.agg [.vec a 3 l.length], .i e])) := by rw [e1]; simp [go_sem, hb]
  have := Wk.fzN (GL := GL) 1 hb
  rw [e1] at this
  exact ⟨_, [], this, rfl, rfl⟩
theorem h73 (q : Pr) (hl : q.clauses.length < 2 ^ 40) (hq : ∀ c ∈ q.clauses, sizes c.parts < 2 ^ 30) : Pure (PC GL) 73 [encPr q, encPr q] (.b true) := by
 refine k73.pure (by simp) (by simp [go_sem]) (by simp [go_sem]) ?_
 simp -implicitDefEqProofs only [go_sem, c73, r73, encPr, bne_self_eq_false, beq_self_eq_true, Bool.not_true]
 refine aZ hC (fun j (_ : Unit) => [(5, .i j), (2, .ref 0 0), (3, .ref 1 0)])
  (fun j (_ : Unit) h' => h'[0]? = some (.cells 60 [.str q.name, .i q.arity, .sl 5 (q.clauses.map encCl)]) /\ h'[1]? = some (.cells 60 [.str q.name, .i q.arity, .sl 5 (q.clauses.map encCl)])) q.clauses.length ⟨(), _, Wk.pick (Nat.zero_le _) (by simp [go_sem]), rfl, rfl⟩ fun j _ h2 hj ⟨f1, f2⟩ => ?_
 have f1_g := fun l => aE (l := l) f1
 have f1_s := fun o l => aJ (l := l) f1 o
 have f1_e := fun o l => aH (o := o) (l := l) f1
 have f1_h := fun o => aL (o := o) f1
 have f2_g := fun l => aE (l := l) f2
 have f2_s := fun o l => aJ (l := l) f2 o
 have f2_e := fun o l => aH (o := o) (l := l) f2
 have f2_h := fun o => aL (o := o) f2
 simp -implicitDefEqProofs only [go_sem, f1]
 refine aG (fun hlt => ?_) (fun hlt => ?_)
 ·have hlt := aI hlt
  have w5 : IntKind.i64.wrap ((j : Int) + 1) = (j : Int) + 1 := aF _ (by omega)
  have q56 := h56 (GL := GL) q.clauses[j] (hq _ (List.getElem_mem hlt))
  simp -implicitDefEqProofs only [go_sem, hlt, aP, f1, f2]
  refine aC hC q56 ?_
  simp -implicitDefEqProofs only [go_sem, Bool.not_true, w5]
  refine ⟨(), _, Wk.pick (Nat.zero_le _) (by simp [go_sem]), ?_, ?_⟩ <;> first | exact f1 | exact f2 | simp [f1, f2]
 ·simp -implicitDefEqProofs only [go_sem, hlt]
  refine aD ?_ ?_ <;> simp [go_sem]
theorem h30 (p : Pg) (hp : p.small) : Pure (PC GL) 30 [encPg p, encPg p] (.b true) := by
 have hl := hp.l
 refine k30.pure (by simp) (by simp [go_sem]) (by simp [go_sem]) ?_
 simp -implicitDefEqProofs only [go_sem, c30, r30, encPg, bne_self_eq_false]
 refine aZ hC (fun j (_ : Unit) => [(5, .i j), (2, .ref 0 0), (3, .ref 1 0)])
  (fun j (_ : Unit) h' => h'[0]? = some (.cells 37 [.sl 3 (p.procs.map encPr)]) /\ h'[1]? = some (.cells 37 [.sl 3 (p.procs.map encPr)])) p.procs.length ⟨(), _, Wk.pick (Nat.zero_le _) (by simp [go_sem]), rfl, rfl⟩ fun j _ h2 hj ⟨f1, f2⟩ => ?_
 have f1_g := fun l => aE (l := l) f1
 have f1_s := fun o l => aJ (l := l) f1 o
 have f1_e := fun o l => aH (o := o) (l := l) f1
 have f1_h := fun o => aL (o := o) f1
 have f2_g := fun l => aE (l := l) f2
 have f2_s := fun o l => aJ (l := l) f2 o
 have f2_e := fun o l => aH (o := o) (l := l) f2
 have f2_h := fun o => aL (o := o) f2
 simp -implicitDefEqProofs only [go_sem, f1]
 refine aG (fun hlt => ?_) (fun hlt => ?_)
 ·have hlt := aI hlt
  have w5 : IntKind.i64.wrap ((j : Int) + 1) = (j : Int) + 1 := aF _ (by omega)
  have hqs := hp.q _ (List.getElem_mem hlt)
  have hc := hqs.c
  have q73 := h73 (GL := GL) p.procs[j] (by omega) fun c hcm => by have := (hqs.t c hcm).1; omega
  simp -implicitDefEqProofs only [go_sem, hlt, aP, f1, f2]
  refine aC hC q73 ?_
  simp -implicitDefEqProofs only [go_sem, Bool.not_true, w5]
  refine ⟨(), _, Wk.pick (Nat.zero_le _) (by simp [go_sem]), ?_, ?_⟩ <;> first | exact f1 | exact f2 | simp [f1, f2]
 ·simp -implicitDefEqProofs only [go_sem, hlt]
  refine aD ?_ ?_ <;> simp [go_sem]
noncomputable def dq {α : Type} (a b : α) : Bool := @decide (a = b) (Classical.propDecidable _)
theorem dq_iff {α : Type} {a b : α} : dq a b = true ↔ a = b := by simp [dq]
theorem vX {α : Type} (a : α) : dq a a = true := dq_iff.2 rfl
theorem dq_no {α : Type} {a b : α} (h : a ≠ b) : dq a b = false := by rw [Bool.eq_false_iff]; exact fun e => h (dq_iff.1 e)
theorem h176 (a b : List Tm) (hb : a.length < 2 ^ 40) (hq : ∀ x ∈ a, ∀ y, Pure (PC GL) 177 [enc x, enc y] (.b (dq x y))) : Pure (PC GL) 176 [.sl 4 (a.map enc), .sl 4 (b.map enc), .fn (.func 177) [] []] (.b (dq a b)) := by
 refine k176.pure (by simp) (by simp [go_sem]) (by simp [go_sem]) ?_
 by_cases hl : a.length = b.length
 ·have e : ((a.length : Int) != (b.length : Int)) = false := by simp [hl]
  simp -implicitDefEqProofs only [go_sem, c176, r176, e]
  refine aZ hC (fun j (_ : Unit) => [(17, .i j), (15, .sl 4 (a.map enc)), (16, .i a.length), (1, .sl 4 (b.map enc)), (2, .fn (.func 177) [] [])]) (fun j (_ : Unit) _ => a.take j = b.take j) a.length ⟨(), _, Wk.pick (Nat.zero_le _) (by simp [go_sem]), by simp⟩ fun j _ h hj hI => ?_
  simp -implicitDefEqProofs only [go_sem]
  refine aG (fun hlt => ?_) (fun hlt => ?_)
  ·have hlt := aI hlt
   have hlb : j < b.length := by omega
   have w5 : IntKind.i64.wrap ((j : Int) + 1) = (j : Int) + 1 := aF _ (by omega)
   have q := hq a[j] (List.getElem_mem hlt) b[j]
   have hs : dq a b = true -> dq a[j] b[j] = true := fun h => by have := dq_iff.1 h; subst this; exact dq_iff.2 rfl
   have hs2 : a[j] = b[j] -> a.take (j + 1) = b.take (j + 1) := fun h => by rw [List.take_succ_eq_append_getElem hlt, List.take_succ_eq_append_getElem hlb, hI, h]
   skip
   simp -implicitDefEqProofs only [go_sem, hlt, hlb, bnd hlb, aP, aW, bG, List.append_assoc]
   refine aC hC q ?_
   rcases hx : dq a[j] b[j]
   ·have e3 : dq a b = false := by
     rw [Bool.eq_false_iff]
     intro h
     rw [hs h] at hx
     cases hx
    simp -implicitDefEqProofs only [go_sem, e3, Bool.not_false]
    refine aD ?_ ?_ <;> simp [go_sem]
   ·simp -implicitDefEqProofs only [go_sem, Bool.not_true, w5]
    exact ⟨(), _, Wk.pick (Nat.zero_le _) (by simp [go_sem]), hs2 (dq_iff.1 hx)⟩
  ·have hge := aK hlt
   rw [aQ hge, aQ (by omega)] at hI
   have e3 : dq a b = true := dq_iff.2 hI
   simp -implicitDefEqProofs only [go_sem, hlt, e3]
   refine aD ?_ ?_ <;> simp [go_sem]
 ·have e : ((a.length : Int) != (b.length : Int)) = true := by simp; omega
  have e3 : dq a b = false := by
   rw [Bool.eq_false_iff]
   intro h
   exact hl (by rw [dq_iff.1 h])
  simp -implicitDefEqProofs only [go_sem, c176, r176, e, e3]
  refine aD ?_ ?_ <;> simp [go_sem]
theorem h174 (a b : List Cl) (hb : a.length < 2 ^ 40) (hq : ∀ x ∈ a, ∀ y, Pure (PC GL) 175 [encCl x, encCl y] (.b (dq x y))) : Pure (PC GL) 174 [.sl 5 (a.map encCl), .sl 5 (b.map encCl), .fn (.func 175) [] []] (.b (dq a b)) := by
 refine k174.pure (by simp) (by simp [go_sem]) (by simp [go_sem]) ?_
 by_cases hl : a.length = b.length
 ·have e : ((a.length : Int) != (b.length : Int)) = false := by simp [hl]
  simp -implicitDefEqProofs only [go_sem, c174, r174, e]
  refine aZ hC (fun j (_ : Unit) => [(17, .i j), (15, .sl 5 (a.map encCl)), (16, .i a.length), (1, .sl 5 (b.map encCl)), (2, .fn (.func 175) [] [])]) (fun j (_ : Unit) _ => a.take j = b.take j) a.length ⟨(), _, Wk.pick (Nat.zero_le _) (by simp [go_sem]), by simp⟩ fun j _ h hj hI => ?_
  simp -implicitDefEqProofs only [go_sem]
  refine aG (fun hlt => ?_) (fun hlt => ?_)
  ·have hlt := aI hlt
   have hlb : j < b.length := by omega
   have w5 : IntKind.i64.wrap ((j : Int) + 1) = (j : Int) + 1 := aF _ (by omega)
   have q := hq a[j] (List.getElem_mem hlt) b[j]
   have hs : dq a b = true -> dq a[j] b[j] = true := fun h => by have := dq_iff.1 h; subst this; exact dq_iff.2 rfl
   have hs2 : a[j] = b[j] -> a.take (j + 1) = b.take (j + 1) := fun h => by rw [List.take_succ_eq_append_getElem hlt, List.take_succ_eq_append_getElem hlb, hI, h]
   simp only [encCl] at q
   simp -implicitDefEqProofs only [go_sem, hlt, hlb, bnd hlb, aP, aW, bG, List.append_assoc, encCl]
   refine aC hC q ?_
   rcases hx : dq a[j] b[j]
   ·have e3 : dq a b = false := by
     rw [Bool.eq_false_iff]
     intro h
     rw [hs h] at hx
     cases hx
    simp -implicitDefEqProofs only [go_sem, e3, Bool.not_false]
    refine aD ?_ ?_ <;> simp [go_sem]
   ·simp -implicitDefEqProofs only [go_sem, Bool.not_true, w5]
    exact ⟨(), _, Wk.pick (Nat.zero_le _) (by simp [go_sem]), hs2 (dq_iff.1 hx)⟩
  ·have hge := aK hlt
   rw [aQ hge, aQ (by omega)] at hI
   have e3 : dq a b = true := dq_iff.2 hI
   simp -implicitDefEqProofs only [go_sem, hlt, e3]
   refine aD ?_ ?_ <;> simp [go_sem]
 ·have e : ((a.length : Int) != (b.length : Int)) = true := by simp; omega
  have e3 : dq a b = false := by
   rw [Bool.eq_false_iff]
   intro h
   exact hl (by rw [dq_iff.1 h])
  simp -implicitDefEqProofs only [go_sem, c174, r174, e, e3]
  refine aD ?_ ?_ <;> simp [go_sem]
theorem h172 (a b : List Pr) (hb : a.length < 2 ^ 40) (hq : ∀ x ∈ a, ∀ y, Pure (PC GL) 173 [encPr x, encPr y] (.b (dq x y))) : Pure (PC GL) 172 [.sl 3 (a.map encPr), .sl 3 (b.map encPr), .fn (.func 173) [] []] (.b (dq a b)) := by
 refine k172.pure (by simp) (by simp [go_sem]) (by simp [go_sem]) ?_
 by_cases hl : a.length = b.length
 ·have e : ((a.length : Int) != (b.length : Int)) = false := by simp [hl]
  simp -implicitDefEqProofs only [go_sem, c172, r172, e]
  refine aZ hC (fun j (_ : Unit) => [(17, .i j), (15, .sl 3 (a.map encPr)), (16, .i a.length), (1, .sl 3 (b.map encPr)), (2, .fn (.func 173) [] [])]) (fun j (_ : Unit) _ => a.take j = b.take j) a.length ⟨(), _, Wk.pick (Nat.zero_le _) (by simp [go_sem]), by simp⟩ fun j _ h hj hI => ?_
  simp -implicitDefEqProofs only [go_sem]
  refine aG (fun hlt => ?_) (fun hlt => ?_)
  ·have hlt := aI hlt
   have hlb : j < b.length := by omega
   have w5 : IntKind.i64.wrap ((j : Int) + 1) = (j : Int) + 1 := aF _ (by omega)
   have q := hq a[j] (List.getElem_mem hlt) b[j]
   have hs : dq a b = true -> dq a[j] b[j] = true := fun h => by have := dq_iff.1 h; subst this; exact dq_iff.2 rfl
   have hs2 : a[j] = b[j] -> a.take (j + 1) = b.take (j + 1) := fun h => by rw [List.take_succ_eq_append_getElem hlt, List.take_succ_eq_append_getElem hlb, hI, h]
   simp only [encPr] at q
   simp -implicitDefEqProofs only [go_sem, hlt, hlb, bnd hlb, aP, aW, bG, List.append_assoc, encPr]
   refine aC hC q ?_
   rcases hx : dq a[j] b[j]
   ·have e3 : dq a b = false := by
     rw [Bool.eq_false_iff]
     intro h
     rw [hs h] at hx
     cases hx
    simp -implicitDefEqProofs only [go_sem, e3, Bool.not_false]
    refine aD ?_ ?_ <;> simp [go_sem]
   ·simp -implicitDefEqProofs only [go_sem, Bool.not_true, w5]
    exact ⟨(), _, Wk.pick (Nat.zero_le _) (by simp [go_sem]), hs2 (dq_iff.1 hx)⟩
  ·have hge := aK hlt
   rw [aQ hge, aQ (by omega)] at hI
   have e3 : dq a b = true := dq_iff.2 hI
   simp -implicitDefEqProofs only [go_sem, hlt, e3]
   refine aD ?_ ?_ <;> simp [go_sem]
 ·have e : ((a.length : Int) != (b.length : Int)) = true := by simp; omega
  have e3 : dq a b = false := by
   rw [Bool.eq_false_iff]
   intro h
   exact hl (by rw [dq_iff.1 h])
  simp -implicitDefEqProofs only [go_sem, c172, r172, e, e3]
  refine aD ?_ ?_ <;> simp [go_sem]
theorem sames_dq (a b : List Tm) : sames a b = dq a b := rfl
theorem iX {l : List Tm} {x : Tm} (h : x ∈ l) : x.size <= sizes l := by
 obtain ⟨j, hj, rfl⟩ := List.mem_iff_getElem.1 h
 exact bA hj
theorem h177 (a : Tm) : ∀ b, a.size < 2 ^ 30 -> Pure (PC GL) 177 [enc a, enc b] (.b (dq a b)) := by
 induction a using bY with
 | _ a ih =>
 intro b ha
 rw [bC] at ha
 have h4 := aM a.l
 have q := h176 (GL := GL) a.l b.l (by omega) fun x hx y => ih x hx y (by have := iX hx; omega)
 have e : dq a b = ((a.kind == b.kind) && ((a.n == b.n) && ((a.s == b.s) && dq a.l b.l))) := by
  rw [Bool.eq_iff_iff, dq_iff]
  simp only [Bool.and_eq_true, beq_iff_eq, dq_iff]
  constructor
  ·rintro rfl; exact ⟨rfl, rfl, rfl, rfl⟩
  ·rintro ⟨h1, h2, h3, h4⟩
   rw [<- Tm.eta a, <- Tm.eta b, h1, h2, h3, h4]
 rw [e]
 refine k177.pure (by simp) (by simp [go_sem]) (by simp [go_sem]) ?_
 simp -implicitDefEqProofs only [go_sem, c177, r177]
 rcases h1 : a.kind == b.kind
 ·simp -implicitDefEqProofs only [go_sem]
  refine aD ?_ ?_ <;> simp [go_sem]
 rcases h2 : a.n == b.n
 ·simp -implicitDefEqProofs only [go_sem, h2]
  refine aD ?_ ?_ <;> simp [go_sem]
 rcases h3 : a.s == b.s
 ·simp -implicitDefEqProofs only [go_sem, h2, h3]
  refine aD ?_ ?_ <;> simp [go_sem]
 simp -implicitDefEqProofs only [go_sem, h2, h3]
 refine aC hC q ?_
 simp -implicitDefEqProofs only [go_sem]
 refine aD ?_ ?_ <;> simp [go_sem]
theorem dq_cl (a b : Cl) : dq a b = ((a.mark == b.mark) && ((a.vars == b.vars) && (dq a.head b.head && (dq a.guard b.guard && dq a.body b.body)))) := by
 rw [Bool.eq_iff_iff, dq_iff]
 simp only [Bool.and_eq_true, beq_iff_eq, dq_iff]
 constructor
 ·rintro rfl; exact ⟨rfl, rfl, rfl, rfl, rfl⟩
 ·rintro ⟨h1, h2, h3, h4, h5⟩
  cases a; cases b; simp_all
theorem dq_pr (a b : Pr) : dq a b = ((a.name == b.name) && ((a.arity == b.arity) && dq a.clauses b.clauses)) := by
 rw [Bool.eq_iff_iff, dq_iff]
 simp only [Bool.and_eq_true, beq_iff_eq, dq_iff]
 constructor
 ·rintro rfl; exact ⟨rfl, rfl, rfl⟩
 ·rintro ⟨h1, h2, h3⟩
  cases a; cases b; simp_all
theorem dq_pg (a b : Pg) : dq a b = dq a.procs b.procs := by
 rw [Bool.eq_iff_iff, dq_iff, dq_iff]
 constructor
 ·rintro rfl; rfl
 ·intro h1
  cases a; cases b; simp_all
theorem h175 (a b : Cl) (ha : sizes a.parts < 2 ^ 30) : Pure (PC GL) 175 [encCl a, encCl b] (.b (dq a b)) := by
 have hp : sizes a.parts = sizes a.head + (sizes a.guard + sizes a.body) := by simp [Cl.parts, cF]
 have l1 := aM a.head
 have l2 := aM a.guard
 have l3 := aM a.body
 have q1 := h176 (GL := GL) a.head b.head (by omega) fun x hx y => h177 x y (by have := iX hx; omega)
 have q2 := h176 (GL := GL) a.guard b.guard (by omega) fun x hx y => h177 x y (by have := iX hx; omega)
 have q3 := h176 (GL := GL) a.body b.body (by omega) fun x hx y => h177 x y (by have := iX hx; omega)
 refine k175.pure (by simp) (by simp [go_sem]) (by simp [go_sem]) ?_
 unfold c175 r175
 rw [dq_cl]
 simp only [encCl]
 rcases h1 : a.mark == b.mark
 ·simp -implicitDefEqProofs only [go_sem, h1]
  refine aD ?_ ?_ <;> simp [go_sem]
 rcases h2 : a.vars == b.vars
 ·simp -implicitDefEqProofs only [go_sem, h1, h2]
  refine aD ?_ ?_ <;> simp [go_sem]
 simp -implicitDefEqProofs only [go_sem, h1, h2]
 refine aC hC q1 ?_
 rcases h3 : dq a.head b.head
 ·simp -implicitDefEqProofs only [go_sem]
  refine aD ?_ ?_ <;> simp [go_sem]
 simp -implicitDefEqProofs only [go_sem]
 refine aC hC q2 ?_
 rcases h4 : dq a.guard b.guard
 ·simp -implicitDefEqProofs only [go_sem]
  refine aD ?_ ?_ <;> simp [go_sem]
 simp -implicitDefEqProofs only [go_sem]
 refine aC hC q3 ?_
 simp -implicitDefEqProofs only [go_sem]
 refine aD ?_ ?_ <;> simp [go_sem]
theorem h173 (a b : Pr) (hl : a.clauses.length < 2 ^ 40) (ha : ∀ c ∈ a.clauses, sizes c.parts < 2 ^ 30) : Pure (PC GL) 173 [encPr a, encPr b] (.b (dq a b)) := by
 have q := h174 (GL := GL) a.clauses b.clauses hl fun x hx y => h175 x y (ha x hx)
 refine k173.pure (by simp) (by simp [go_sem]) (by simp [go_sem]) ?_
 rw [dq_pr]
 simp -implicitDefEqProofs only [go_sem, c173, r173, encPr]
 rcases h1 : a.name == b.name
 ·simp -implicitDefEqProofs only [go_sem]
  refine aD ?_ ?_ <;> simp [go_sem]
 rcases h2 : a.arity == b.arity
 ·simp -implicitDefEqProofs only [go_sem, h2]
  refine aD ?_ ?_ <;> simp [go_sem]
 simp -implicitDefEqProofs only [go_sem, h2]
 refine aC hC q ?_
 simp -implicitDefEqProofs only [go_sem]
 refine aD ?_ ?_ <;> simp [go_sem]
theorem h81 (p q : Pg) (hp : p.small) : Pure (PC GL) 81 [encPg p, encPg q] (.b (dq p q)) := by
 have hl := hp.l
 have q1 := h172 (GL := GL) p.procs q.procs (by omega) fun x hx y => h173 x y (by have := (hp.q x hx).c; omega) fun c hc => by have := ((hp.q x hx).t c hc).1; omega
 refine k81.pure (by simp) (by simp [go_sem]) (by simp [go_sem]) ?_
 rw [dq_pg]
 simp -implicitDefEqProofs only [go_sem, c81, r81, encPg]
 refine aC hC q1 ?_
 simp -implicitDefEqProofs only [go_sem]
 refine aD ?_ ?_ <;> simp [go_sem]
theorem h56g (a b : Cl) (ha : sizes a.parts < 2 ^ 30) (hb : sizes b.parts < 2 ^ 30) : Pure (PC GL) 56 [encCl a, encCl b] (.b (dq a b)) := by
 have hp : sizes a.parts = sizes a.head + (sizes a.guard + sizes a.body) := by simp [Cl.parts, cF]
 have hp2 : sizes b.parts = sizes b.head + (sizes b.guard + sizes b.body) := by simp [Cl.parts, cF]
 have l1 := aM b.head
 have l2 := aM b.guard
 have l3 := aM b.body
 have q1 := h35 (GL := GL) a.head (by omega) b.head (by omega)
 have q2 := h35 (GL := GL) a.guard (by omega) b.guard (by omega)
 have q3 := h35 (GL := GL) a.body (by omega) b.body (by omega)
 rw [sames_dq] at q1 q2 q3
 refine k56.pure (by simp) (by simp [go_sem]) (by simp [go_sem]) ?_
 unfold c56 r56
 rw [dq_cl]
 simp only [encCl]
 rcases h1 : a.mark == b.mark
 ·simp -implicitDefEqProofs only [go_sem, h1]
  refine aD ?_ ?_ <;> simp [go_sem]
 rcases h2 : a.vars == b.vars
 ·simp -implicitDefEqProofs only [go_sem, h1, h2]
  refine aD ?_ ?_ <;> simp [go_sem]
 simp -implicitDefEqProofs only [go_sem, h1, h2]
 refine aC hC q1 ?_
 rcases h3 : dq a.head b.head
 ·simp -implicitDefEqProofs only [go_sem]
  refine aD ?_ ?_ <;> simp [go_sem]
 simp -implicitDefEqProofs only [go_sem]
 refine aC hC q2 ?_
 rcases h4 : dq a.guard b.guard
 ·simp -implicitDefEqProofs only [go_sem]
  refine aD ?_ ?_ <;> simp [go_sem]
 simp -implicitDefEqProofs only [go_sem]
 refine aC hC q3 ?_
 simp -implicitDefEqProofs only [go_sem]
 refine aD ?_ ?_ <;> simp [go_sem]
theorem h73g (a b : Pr) (hl : a.clauses.length < 2 ^ 40) (ha : ∀ c ∈ a.clauses, sizes c.parts < 2 ^ 30) (hb : ∀ c ∈ b.clauses, sizes c.parts < 2 ^ 30) : Pure (PC GL) 73 [encPr a, encPr b] (.b (dq a b)) := by
 refine k73.pure (by simp) (by simp [go_sem]) (by simp [go_sem]) ?_
 rw [dq_pr]
 simp -implicitDefEqProofs only [go_sem, c73, r73, encPr]
 rcases h1 : a.name == b.name
 ·have e1 : (a.name != b.name) = true := by rw [bne, h1]; rfl
  simp -implicitDefEqProofs only [go_sem]
  refine aD ?_ ?_ <;> simp [go_sem]
 have e1 : (a.name != b.name) = false := by rw [bne, h1]; rfl
 rcases h2 : a.arity == b.arity
 ·have e2 : (a.arity != b.arity) = true := by rw [bne, h2]; rfl
  simp -implicitDefEqProofs only [go_sem, e2]
  refine aD ?_ ?_ <;> simp [go_sem]
 have e2 : (a.arity != b.arity) = false := by rw [bne, h2]; rfl
 by_cases h3 : a.clauses.length = b.clauses.length
 ·have e3 : ((a.clauses.length : Int) != (b.clauses.length : Int)) = false := by simp [h3]
  simp -implicitDefEqProofs only [go_sem, e2, e3]
  refine aZ hC (fun j (_ : Unit) => [(5, .i j), (2, .ref 0 0), (3, .ref 1 0)])
   (fun j (_ : Unit) h' => a.clauses.take j = b.clauses.take j /\ h'[0]? = some (.cells 60 [.str a.name, .i a.arity, .sl 5 (a.clauses.map encCl)]) /\ h'[1]? = some (.cells 60 [.str b.name, .i b.arity, .sl 5 (b.clauses.map encCl)])) a.clauses.length ⟨(), _, Wk.pick (Nat.zero_le _) (by simp [go_sem]), by simp, rfl, rfl⟩ fun j _ h2 hj ⟨hI, f1, f2⟩ => ?_
  have f1_g := fun l => aE (l := l) f1
  have f1_s := fun o l => aJ (l := l) f1 o
  have f1_e := fun o l => aH (o := o) (l := l) f1
  have f1_h := fun o => aL (o := o) f1
  have f2_g := fun l => aE (l := l) f2
  have f2_s := fun o l => aJ (l := l) f2 o
  have f2_e := fun o l => aH (o := o) (l := l) f2
  have f2_h := fun o => aL (o := o) f2
  simp -implicitDefEqProofs only [go_sem, f1]
  refine aG (fun hlt => ?_) (fun hlt => ?_)
  ·have hlt := aI hlt
   have hlb : j < b.clauses.length := by omega
   have w5 : IntKind.i64.wrap ((j : Int) + 1) = (j : Int) + 1 := aF _ (by omega)
   have q := h56g (GL := GL) a.clauses[j] b.clauses[j] (ha _ (List.getElem_mem hlt)) (hb _ (List.getElem_mem hlb))
   have hs : dq a.clauses b.clauses = true -> dq a.clauses[j] b.clauses[j] = true := fun h => by have := dq_iff.1 h; simp only [this, vX]
   have hs2 : a.clauses[j] = b.clauses[j] -> a.clauses.take (j + 1) = b.clauses.take (j + 1) := fun h => by rw [List.take_succ_eq_append_getElem hlt, List.take_succ_eq_append_getElem hlb, hI, h]
   simp -implicitDefEqProofs only [go_sem, hlt, hlb, bnd hlb, aP, f1, f2]
   refine aC hC q ?_
   rcases hx : dq a.clauses[j] b.clauses[j]
   ·have e3 : dq a.clauses b.clauses = false := by
     rw [Bool.eq_false_iff]
     intro h
     rw [hs h] at hx
     cases hx
    simp -implicitDefEqProofs only [go_sem, e3, Bool.not_false]
    refine aD ?_ ?_ <;> simp [go_sem]
   ·simp -implicitDefEqProofs only [go_sem, Bool.not_true, w5]
    exact ⟨(), _, Wk.pick (Nat.zero_le _) (by simp [go_sem]), hs2 (dq_iff.1 hx), f1, f2⟩
  ·have hge := aK hlt
   rw [aQ hge, aQ (by omega)] at hI
   have e4 := dq_iff.2 hI
   simp -implicitDefEqProofs only [go_sem, hlt, e4]
   refine aD ?_ ?_ <;> simp [go_sem]
 ·have e3 : ((a.clauses.length : Int) != (b.clauses.length : Int)) = true := by simp; omega
  have e4 : dq a.clauses b.clauses = false := dq_no fun h => h3 (by rw [h])
  simp -implicitDefEqProofs only [go_sem, e2, e3, e4]
  refine aD ?_ ?_ <;> simp [go_sem]
theorem h30g (a b : Pg) (ha : a.small) (hb : b.small) : Pure (PC GL) 30 [encPg a, encPg b] (.b (dq a b)) := by
 have hl := ha.l
 refine k30.pure (by simp) (by simp [go_sem]) (by simp [go_sem]) ?_
 rw [dq_pg]
 by_cases h3 : a.procs.length = b.procs.length
 ·have e3 : ((a.procs.length : Int) != (b.procs.length : Int)) = false := by simp [h3]
  simp -implicitDefEqProofs only [go_sem, c30, r30, encPg, e3]
  refine aZ hC (fun j (_ : Unit) => [(5, .i j), (2, .ref 0 0), (3, .ref 1 0)])
   (fun j (_ : Unit) h' => a.procs.take j = b.procs.take j /\ h'[0]? = some (.cells 37 [.sl 3 (a.procs.map encPr)]) /\ h'[1]? = some (.cells 37 [.sl 3 (b.procs.map encPr)])) a.procs.length ⟨(), _, Wk.pick (Nat.zero_le _) (by simp [go_sem]), by simp, rfl, rfl⟩ fun j _ h2 hj ⟨hI, f1, f2⟩ => ?_
  have f1_g := fun l => aE (l := l) f1
  have f1_s := fun o l => aJ (l := l) f1 o
  have f1_e := fun o l => aH (o := o) (l := l) f1
  have f1_h := fun o => aL (o := o) f1
  have f2_g := fun l => aE (l := l) f2
  have f2_s := fun o l => aJ (l := l) f2 o
  have f2_e := fun o l => aH (o := o) (l := l) f2
  have f2_h := fun o => aL (o := o) f2
  simp -implicitDefEqProofs only [go_sem, f1]
  refine aG (fun hlt => ?_) (fun hlt => ?_)
  ·have hlt := aI hlt
   have hlb : j < b.procs.length := by omega
   have w5 : IntKind.i64.wrap ((j : Int) + 1) = (j : Int) + 1 := aF _ (by omega)
   have ma := ha.q _ (List.getElem_mem hlt)
   have mb := hb.q _ (List.getElem_mem hlb)
   have mac := ma.c
   have q := h73g (GL := GL) a.procs[j] b.procs[j] (by omega) (fun c hc => by have := (ma.t c hc).1; omega) (fun c hc => by have := (mb.t c hc).1; omega)
   have hs : dq a.procs b.procs = true -> dq a.procs[j] b.procs[j] = true := fun h => by have := dq_iff.1 h; simp only [this, vX]
   have hs2 : a.procs[j] = b.procs[j] -> a.procs.take (j + 1) = b.procs.take (j + 1) := fun h => by rw [List.take_succ_eq_append_getElem hlt, List.take_succ_eq_append_getElem hlb, hI, h]
   simp -implicitDefEqProofs only [go_sem, hlt, hlb, bnd hlb, aP, f1, f2]
   refine aC hC q ?_
   rcases hx : dq a.procs[j] b.procs[j]
   ·have e3 : dq a.procs b.procs = false := by
     rw [Bool.eq_false_iff]
     intro h
     rw [hs h] at hx
     cases hx
    simp -implicitDefEqProofs only [go_sem, e3, Bool.not_false]
    refine aD ?_ ?_ <;> simp [go_sem]
   ·simp -implicitDefEqProofs only [go_sem, Bool.not_true, w5]
    exact ⟨(), _, Wk.pick (Nat.zero_le _) (by simp [go_sem]), hs2 (dq_iff.1 hx), f1, f2⟩
  ·have hge := aK hlt
   rw [aQ hge, aQ (by omega)] at hI
   have e4 := dq_iff.2 hI
   simp -implicitDefEqProofs only [go_sem, hlt, e4]
   refine aD ?_ ?_ <;> simp [go_sem]
 ·have e3 : ((a.procs.length : Int) != (b.procs.length : Int)) = true := by simp; omega
  have e4 : dq a.procs b.procs = false := dq_no fun h => h3 (by rw [h])
  simp -implicitDefEqProofs only [go_sem, c30, r30, encPg, e3, e4]
  refine aD ?_ ?_ <;> simp [go_sem]
end Go.Rip
