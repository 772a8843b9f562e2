/- Trees in memory of their own; equal lists, equal clauses. -/
import Derived.Test.YtndcajdameofjaaGreatDoorRipBE
import Derived.Test.YtndcajdameofjaaGreatDoorRipAU
import Derived.Test.YtndcajdameofjaaGreatDoorRipAI
import Derived.Test.YtndcajdameofjaaGreatDoorRipBD
import Derived.Test.YtndcajdameofjaaGreatDoorRipAS
namespace Go.Rip
open Go
set_option maxRecDepth 100000
theorem bO {α β : Type} {l : List α} {j : Nat} (hlt : j < l.length) (f : α -> β) : (l.take (j + 1)).map f = (l.take j).map f ++ [f l[j]] := by
 rw [List.take_succ_eq_append_getElem hlt, List.map_append]; rfl
theorem cJ {α β : Type} {l : List α} {j : Nat} (h : l.length <= j) (f : α -> β) : (l.take j).map f = l.map f := by rw [List.take_of_length_le h]
variable {GL : Glob}
def vecA (a sz : Nat) (l : List AV) : AV := if l = [] then .v (.slice none 0 0) else .vec a sz l.length
theorem gZ (a sz : Nat) : vecA a sz [] = .v (.slice none 0 0) := rfl
theorem bZ {a sz : Nat} {l : List AV} (h : l ≠ []) : vecA a sz l = .vec a sz l.length := if_neg h
theorem cG (a sz : Nat) (l : List AV) (x : AV) : vecA a sz (l ++ [x]) = .vec a sz (l.length + 1) := by simp [vecA]
theorem h207 : ∀ (n : Nat) (l : List Tm), sizes l <= n -> n < 2 ^ 30 -> Pure (PC GL) 207 [.sl 4 (l.map enc)] (.sl 4 (l.map enc)) := by
 intro n
 induction n with
 | zero =>
  intro l hl _
  have h4 := aQ l
  have : l = [] := List.length_eq_zero_iff.1 (by omega)
  subst this
  refine k207.pure (by simp) (by simp [go_sem]) (by simp [go_sem]) ?_
  simp -implicitDefEqProofs only [c207, r207, go_sem]
  refine bH hC (fun j (_ : Unit) => [(8, .i j), (7, .i (0 : Nat)), (3, .v (.slice none 0 0))]) (fun j (_ : Unit) h => True) 0 ⟨(), _, Wk.pick (Nat.zero_le _) (by simp [go_sem]), trivial⟩ fun j _ h hj _ => ?_
  have : j = 0 := by omega
  subst this
  simp -implicitDefEqProofs only [go_sem, show decide (((0 : Nat) : Int) < ((0 : Nat) : Int)) = false from rfl]
  refine aI ?_ (by simp [go_sem])
  simp [go_sem]
 | succ n ih =>
 intro l hl hn
 have h4 := aQ l
 refine k207.pure (by simp) (by simp [go_sem]) (by simp [go_sem]) ?_
 simp -implicitDefEqProofs only [c207, r207, go_sem]
 refine bH hC (fun j a => [(8, .i j), (3, .own a 4 ((l.take j).map enc)), (6, .sl 4 (l.map enc)), (7, .i l.length)]) (fun j a h => h[a]? = some (.spare 24 4)) l.length ?_ fun j a h hj ha => ?_
 ·refine ⟨0, _, (Wk.own_nil (h := []) 24 4 3 (by simp [go_sem]) (Nat.zero_le _)).trans (Wk.pick (by simp) (by simp [go_sem])), rfl⟩
 have ha_g := fun l => aC (l := l) ha
 have ha_s := fun o l => aE (l := l) ha o
 have ha_e := fun o l => aD (o := o) (l := l) ha
 have ha_h := fun o => aJ (o := o) ha
 simp -implicitDefEqProofs only [go_sem]
 refine aK (fun hlt => ?_) (fun hlt => ?_)
 ·have hlt := aM hlt
  have g1 := bK hlt
  have g2 := bE l[j]
  have w5 : IntKind.i64.wrap ((j : Int) + 1) = (j : Int) + 1 := aP _ (by omega)
  simp -implicitDefEqProofs only [go_sem, hlt, aS]
  refine aG hC (ih l[j].l (by omega) (by omega)) ?_
  simp -implicitDefEqProofs only [go_sem, List.append_assoc, ha_g, ha_s]
  refine ⟨by simp; omega, ?_⟩
  refine ⟨h.length + 2, _, Wk.pick (Nat.zero_le _) (by simp [go_sem, w5, bO hlt]), ?_⟩
  rw [cX (by simp)]; simp
 ·have hge := aL hlt
  simp -implicitDefEqProofs only [go_sem, hlt, cJ hge]
  refine aI ?_ (by simp [go_sem])
  simp [go_sem]
theorem h207s (l : List Tm) (hl : sizes l < 2 ^ 30) (h0 : l ≠ []) (ih : ∀ x ∈ l, Pure (PC GL) 207 [.sl 4 (x.l.map enc)] (.sl 4 (x.l.map enc))) (h : List AObj) :
  Gives (PC GL) 207 [.sl 4 (l.map enc)] h fun y h' => ∃ a, h.length <= a /\ y = .vec a 4 l.length /\ h'[a]? = some (.buf 24 4 (l.map enc)) /\ Keep All h h' := by
 have h4 := aQ l
 refine k207.gives (by simp) ?_
 simp -implicitDefEqProofs only [go_sem, c207, r207]
 refine bH hC (fun j a => [(8, .i j), (3, vecA a 4 ((l.take j).map enc)), (6, .sl 4 (l.map enc)), (7, .i l.length)]) (fun j a h' => Keep All h h' /\ h.length <= a /\ (j = 0 ∨ h'[a]? = some (.buf 24 4 ((l.take j).map enc)))) l.length ?_ fun j a h2 hj ⟨hk, hla, hb⟩ => ?_
 ·exact ⟨h.length, _, Wk.pick (Nat.le_refl _) (by simp [go_sem, vecA]), Keep.refl _ _, Nat.le_refl _, .inl rfl⟩
 have hk1 := hk.1
 simp -implicitDefEqProofs only [go_sem]
 refine aK (fun hlt => ?_) (fun hlt => ?_)
 ·have hlt := aM hlt
  have w5 : IntKind.i64.wrap ((j : Int) + 1) = (j : Int) + 1 := aP _ (by omega)
  rcases Nat.eq_zero_or_pos j with rfl | hj0
  ·simp -implicitDefEqProofs only [go_sem, hlt, aS, List.map_nil, gZ]
   refine aG hC (ih l[0] (List.getElem_mem hlt)) ?_
   simp -implicitDefEqProofs only [go_sem, List.append_assoc, cP]
   refine .inr ⟨by simp, h2.length + 2, _, Wk.pick (by simp; omega) ?_, hk.trans (Keep.app _ _ _), by omega, .inr ?_⟩
   ·have w1 : IntKind.i64.wrap 1 = 1 := rfl
    simp [go_sem, w1, bO hlt, vecA]
   ·simp [bO hlt]
  ·have hb := hb.resolve_left (by omega)
   have hne : (l.take j).map enc ≠ [] := fun e => by
    have := congrArg List.length e
    simp at this
    rcases this with e | e
    ·omega
    ·exact h0 e
   have hb_g := fun l => aC (l := l) hb
   have hb_s := fun o l => aE (l := l) hb o
   have hb_e := fun o l => aD (o := o) (l := l) hb
   have hb_h := fun o => aJ (o := o) hb
   simp -implicitDefEqProofs only [go_sem, hlt, aS, bZ hne]
   refine aG hC (ih l[j] (List.getElem_mem hlt)) ?_
   simp -implicitDefEqProofs only [go_sem, List.append_assoc, hb_g, hb_s, cP]
   have e0 : (l.take j).length = j := by simp; omega
   refine ⟨⟨by omega, by rw [e0]; simp; omega⟩, h2.length + 2, _, Wk.pick (by simp; omega) ?_, ?_, by omega, .inr ?_⟩
   ·simp [go_sem, w5, bO hlt, cG]
   ·exact (hk.turn .dead hb hla).trans (Keep.app _ _ _)
   ·rw [cX (by simp)]; simp [bO hlt]
 ·have hge := aL hlt
  have hb := hb.resolve_left (by have := List.length_pos_iff.2 h0; omega)
  have hne : l.map enc ≠ [] := by simpa using h0
  simp -implicitDefEqProofs only [go_sem, hlt, cJ hge, bZ hne]
  exact aY hk1 ⟨a, hla, by simp, by rw [<- cJ hge]; exact hb, hk⟩
theorem h207v (l : List Tm) (hl : sizes l < 2 ^ 30) (h0 : l ≠ []) (h : List AObj) :
  Gives (PC GL) 207 [.sl 4 (l.map enc)] h fun y h' => ∃ a, h.length <= a /\ y = .vec a 4 l.length /\ h'[a]? = some (.buf 24 4 (l.map enc)) /\ Keep All h h' :=
 h207s l hl h0 (fun x hx => h207 (sizes l) x.l (by obtain ⟨j, hj, rfl⟩ := List.mem_iff_getElem.1 hx; have := bK hj; have := bE l[j]; omega) hl) h
noncomputable def sames (a b : List Tm) : Bool := @decide (a = b) (Classical.propDecidable _)
theorem sames_iff {a b : List Tm} : sames a b = true ↔ a = b := by simp [sames]
theorem h35 (a : List Tm) (hs : sizes a < 2 ^ 30) (b : List Tm) (hb : b.length < 2 ^ 47) : Pure (PC GL) 35 [.sl 4 (a.map enc), .sl 4 (b.map enc)] (.b (sames a b)) := by
 have h4 := aQ a
 refine k35.pure (by simp) (by simp [go_sem]) (by simp [go_sem]) ?_
 simp -implicitDefEqProofs only [c35, r35, go_sem]
 by_cases hl : a.length = b.length
 ·have e : ((a.length : Int) != (b.length : Int)) = false := by simp [hl]
  simp -implicitDefEqProofs only [go_sem, e]
  refine bH hC (fun j (_ : Unit) => [(5, .i j), (0, .sl 4 (a.map enc)), (1, .sl 4 (b.map enc))]) (fun j (_ : Unit) _ => a.take j = b.take j) a.length ⟨(), _, Wk.pick (Nat.zero_le _) (by simp [go_sem]), by simp⟩ fun j _ h hj hI => ?_
  simp -implicitDefEqProofs only [go_sem]
  refine aK (fun hlt => ?_) (fun hlt => ?_)
  ·have hlt := aM hlt
   have hlb : j < b.length := by omega
   have g1 := bK hlt
   have w5 : IntKind.i64.wrap ((j : Int) + 1) = (j : Int) + 1 := aP _ (by omega)
   have db : decide ((j : Int) < (b.length : Int)) = true := decide_eq_true (by omega)
   simp -implicitDefEqProofs only [go_sem, hlt, hlb, aS]
   refine aG hC (h24 a[j] (by omega) b[j]) ?_
   simp -implicitDefEqProofs only [go_sem]
   by_cases hx : a[j] = b[j]
   ·have e2 : a[j].same b[j] = true := same_iff.2 hx
    simp -implicitDefEqProofs only [go_sem, e2, Bool.not_true]
    refine ⟨(), _, Wk.pick (Nat.zero_le _) (by simp [go_sem, w5]), ?_⟩
    rw [List.take_succ_eq_append_getElem hlt, List.take_succ_eq_append_getElem hlb, hI, hx]
   ·have e2 : a[j].same b[j] = false := fV hx
    have e3 : sames a b = false := by
     rw [Bool.eq_false_iff]
     intro h
     have := sames_iff.1 h
     subst this
     exact hx rfl
    simp -implicitDefEqProofs only [go_sem, e2, e3, Bool.not_false]
    refine aI ?_ ?_ <;> simp [go_sem]
  ·have hge := aL hlt
   rw [aT hge, aT (by omega)] at hI
   have e3 : sames a b = true := sames_iff.2 hI
   simp -implicitDefEqProofs only [go_sem, hlt, e3]
   refine aI ?_ ?_ <;> simp [go_sem]
 ·have e : ((a.length : Int) != (b.length : Int)) = true := by simp; omega
  have e3 : sames a b = false := by
   rw [Bool.eq_false_iff]
   intro h
   exact hl (by rw [sames_iff.1 h])
  simp -implicitDefEqProofs only [go_sem, e, e3]
  refine aI ?_ ?_ <;> simp [go_sem]
end Go.Rip
namespace Go.Rip
open Go Go.Proofs
set_option maxRecDepth 100000
variable {GL : Glob}
attribute [local irreducible] Pure
theorem vW (φ : Nat -> Nat -> Nat -> AV) (l : List Tm) : fzGs φ (l.map enc) = l.map enc := by rw [<- dL]; exact cY φ l
theorem fzG_encCl (φ : Nat -> Nat -> Nat -> AV) (c : Cl) : fzG φ (encCl c) = encCl c := by simp only [encCl, fzG, fzGs, vW]
noncomputable def dq {α : Type} (a b : α) : Bool := @decide (a = b) (Classical.propDecidable _)
theorem dq_iff {α : Type} {a b : α} : dq a b = true ↔ a = b := by simp [dq]
theorem pL {α : Type} (a : α) : dq a a = true := dq_iff.2 rfl
theorem dq_no {α : Type} {a b : α} (h : a ≠ b) : dq a b = false := by rw [Bool.eq_false_iff]; exact fun e => h (dq_iff.1 e)
theorem sames_dq (a b : List Tm) : sames a b = dq a b := rfl
theorem dq_cl (a b : Cl) : dq a b = ((a.mark == b.mark) && ((a.vars == b.vars) && (dq a.head b.head && (dq a.guard b.guard && dq a.body b.body)))) := by
 rw [Bool.eq_iff_iff, dq_iff]
 simp only [Bool.and_eq_true, beq_iff_eq, dq_iff]
 constructor
 ·rintro rfl; exact ⟨rfl, rfl, rfl, rfl, rfl⟩
 ·rintro ⟨h1, h2, h3, h4, h5⟩
  cases a; cases b; simp_all
theorem dq_pr (a b : Pr) : dq a b = ((a.name == b.name) && ((a.arity == b.arity) && dq a.clauses b.clauses)) := by
 rw [Bool.eq_iff_iff, dq_iff]
 simp only [Bool.and_eq_true, beq_iff_eq, dq_iff]
 constructor
 ·rintro rfl; exact ⟨rfl, rfl, rfl⟩
 ·rintro ⟨h1, h2, h3⟩
  cases a; cases b; simp_all
theorem dq_pg (a b : Pg) : dq a b = dq a.procs b.procs := by
 rw [Bool.eq_iff_iff, dq_iff, dq_iff]
 constructor
 ·rintro rfl; rfl
 ·intro h1
  cases a; cases b; simp_all
theorem h56g (a b : Cl) (ha : sizes a.parts < 2 ^ 30) (hb : sizes b.parts < 2 ^ 30) : Pure (PC GL) 56 [encCl a, encCl b] (.b (dq a b)) := by
 have hp : sizes a.parts = sizes a.head + (sizes a.guard + sizes a.body) := by simp [Cl.parts, bB]
 have hp2 : sizes b.parts = sizes b.head + (sizes b.guard + sizes b.body) := by simp [Cl.parts, bB]
 have l1 := aQ b.head
 have l2 := aQ b.guard
 have l3 := aQ b.body
 have q1 := h35 (GL := GL) a.head (by omega) b.head (by omega)
 have q2 := h35 (GL := GL) a.guard (by omega) b.guard (by omega)
 have q3 := h35 (GL := GL) a.body (by omega) b.body (by omega)
 rw [sames_dq] at q1 q2 q3
 refine k56.pure (by simp) (by simp [go_sem]) (by simp [go_sem]) ?_
 unfold c56 r56
 rw [dq_cl]
 simp only [encCl]
 rcases h1 : a.mark == b.mark
 ·simp -implicitDefEqProofs only [go_sem, h1]
  refine aI ?_ ?_ <;> simp [go_sem]
 rcases h2 : a.vars == b.vars
 ·simp -implicitDefEqProofs only [go_sem, h1, h2]
  refine aI ?_ ?_ <;> simp [go_sem]
 simp -implicitDefEqProofs only [go_sem, h1, h2]
 refine aG hC q1 ?_
 rcases h3 : dq a.head b.head
 ·simp -implicitDefEqProofs only [go_sem]
  refine aI ?_ ?_ <;> simp [go_sem]
 simp -implicitDefEqProofs only [go_sem]
 refine aG hC q2 ?_
 rcases h4 : dq a.guard b.guard
 ·simp -implicitDefEqProofs only [go_sem]
  refine aI ?_ ?_ <;> simp [go_sem]
 simp -implicitDefEqProofs only [go_sem]
 refine aG hC q3 ?_
 simp -implicitDefEqProofs only [go_sem]
 refine aI ?_ ?_ <;> simp [go_sem]
theorem h73g (a b : Pr) (hl : a.clauses.length < 2 ^ 40) (ha : ∀ c ∈ a.clauses, sizes c.parts < 2 ^ 30) (hb : ∀ c ∈ b.clauses, sizes c.parts < 2 ^ 30) : Pure (PC GL) 73 [encPr a, encPr b] (.b (dq a b)) := by
 refine k73.pure (by simp) (by simp [go_sem]) (by simp [go_sem]) ?_
 rw [dq_pr]
 simp -implicitDefEqProofs only [go_sem, c73, r73, encPr]
 rcases h1 : a.name == b.name
 ·have e1 : (a.name != b.name) = true := by rw [bne, h1]; rfl
  simp -implicitDefEqProofs only [go_sem]
  refine aI ?_ ?_ <;> simp [go_sem]
 have e1 : (a.name != b.name) = false := by rw [bne, h1]; rfl
 rcases h2 : a.arity == b.arity
 ·have e2 : (a.arity != b.arity) = true := by rw [bne, h2]; rfl
  simp -implicitDefEqProofs only [go_sem, e2]
  refine aI ?_ ?_ <;> simp [go_sem]
 have e2 : (a.arity != b.arity) = false := by rw [bne, h2]; rfl
 by_cases h3 : a.clauses.length = b.clauses.length
 ·have e3 : ((a.clauses.length : Int) != (b.clauses.length : Int)) = false := by simp [h3]
  simp -implicitDefEqProofs only [go_sem, e2, e3]
  refine bH hC (fun j (_ : Unit) => [(5, .i j), (2, .ref 0 0), (3, .ref 1 0)])
   (fun j (_ : Unit) h' => a.clauses.take j = b.clauses.take j /\ h'[0]? = some (.cells 60 [.str a.name, .i a.arity, .sl 5 (a.clauses.map encCl)]) /\ h'[1]? = some (.cells 60 [.str b.name, .i b.arity, .sl 5 (b.clauses.map encCl)])) a.clauses.length ⟨(), _, Wk.pick (Nat.zero_le _) (by simp [go_sem]), by simp, rfl, rfl⟩ fun j _ h2 hj ⟨hI, f1, f2⟩ => ?_
  have f1_g := fun l => aC (l := l) f1
  have f1_s := fun o l => aE (l := l) f1 o
  have f1_e := fun o l => aD (o := o) (l := l) f1
  have f1_h := fun o => aJ (o := o) f1
  have f2_g := fun l => aC (l := l) f2
  have f2_s := fun o l => aE (l := l) f2 o
  have f2_e := fun o l => aD (o := o) (l := l) f2
  have f2_h := fun o => aJ (o := o) f2
  simp -implicitDefEqProofs only [go_sem, f1]
  refine aK (fun hlt => ?_) (fun hlt => ?_)
  ·have hlt := aM hlt
   have hlb : j < b.clauses.length := by omega
   have w5 : IntKind.i64.wrap ((j : Int) + 1) = (j : Int) + 1 := aP _ (by omega)
   have q := h56g (GL := GL) a.clauses[j] b.clauses[j] (ha _ (List.getElem_mem hlt)) (hb _ (List.getElem_mem hlb))
   have hs : dq a.clauses b.clauses = true -> dq a.clauses[j] b.clauses[j] = true := fun h => by have := dq_iff.1 h; simp only [this, pL]
   have hs2 : a.clauses[j] = b.clauses[j] -> a.clauses.take (j + 1) = b.clauses.take (j + 1) := fun h => by rw [List.take_succ_eq_append_getElem hlt, List.take_succ_eq_append_getElem hlb, hI, h]
   simp -implicitDefEqProofs only [go_sem, hlt, hlb, bnd hlb, aS, f1, f2]
   refine aG hC q ?_
   rcases hx : dq a.clauses[j] b.clauses[j]
   ·have e3 : dq a.clauses b.clauses = false := by
     rw [Bool.eq_false_iff]
     intro h
     rw [hs h] at hx
     cases hx
    simp -implicitDefEqProofs only [go_sem, e3, Bool.not_false]
    refine aI ?_ ?_ <;> simp [go_sem]
   ·simp -implicitDefEqProofs only [go_sem, Bool.not_true, w5]
    exact ⟨(), _, Wk.pick (Nat.zero_le _) (by simp [go_sem]), hs2 (dq_iff.1 hx), f1, f2⟩
  ·have hge := aL hlt
   rw [aT hge, aT (by omega)] at hI
   have e4 := dq_iff.2 hI
   simp -implicitDefEqProofs only [go_sem, hlt, e4]
   refine aI ?_ ?_ <;> simp [go_sem]
 ·have e3 : ((a.clauses.length : Int) != (b.clauses.length : Int)) = true := by simp; omega
  have e4 : dq a.clauses b.clauses = false := dq_no fun h => h3 (by rw [h])
  simp -implicitDefEqProofs only [go_sem, e2, e3, e4]
  refine aI ?_ ?_ <;> simp [go_sem]
theorem h30g (a b : Pg) (ha : a.small) (hb : b.small) : Pure (PC GL) 30 [encPg a, encPg b] (.b (dq a b)) := by
 have hl := ha.l
 refine k30.pure (by simp) (by simp [go_sem]) (by simp [go_sem]) ?_
 rw [dq_pg]
 by_cases h3 : a.procs.length = b.procs.length
 ·have e3 : ((a.procs.length : Int) != (b.procs.length : Int)) = false := by simp [h3]
  simp -implicitDefEqProofs only [go_sem, c30, r30, encPg, e3]
  refine bH hC (fun j (_ : Unit) => [(5, .i j), (2, .ref 0 0), (3, .ref 1 0)])
   (fun j (_ : Unit) h' => a.procs.take j = b.procs.take j /\ h'[0]? = some (.cells 37 [.sl 3 (a.procs.map encPr)]) /\ h'[1]? = some (.cells 37 [.sl 3 (b.procs.map encPr)])) a.procs.length ⟨(), _, Wk.pick (Nat.zero_le _) (by simp [go_sem]), by simp, rfl, rfl⟩ fun j _ h2 hj ⟨hI, f1, f2⟩ => ?_
  have f1_g := fun l => aC (l := l) f1
  have f1_s := fun o l => aE (l := l) f1 o
  have f1_e := fun o l => aD (o := o) (l := l) f1
  have f1_h := fun o => aJ (o := o) f1
  have f2_g := fun l => aC (l := l) f2
  have f2_s := fun o l => aE (l := l) f2 o
  have f2_e := fun o l => aD (o := o) (l := l) f2
  have f2_h := fun o => aJ (o := o) f2
  simp -implicitDefEqProofs only [go_sem, f1]
  refine aK (fun hlt => ?_) (fun hlt => ?_)
  ·have hlt := aM hlt
   have hlb : j < b.procs.length := by omega
   have w5 : IntKind.i64.wrap ((j : Int) + 1) = (j : Int) + 1 := aP _ (by omega)
   have ma := ha.q _ (List.getElem_mem hlt)
   have mb := hb.q _ (List.getElem_mem hlb)
   have mac := ma.c
   have q := h73g (GL := GL) a.procs[j] b.procs[j] (by omega) (fun c hc => by have := (ma.t c hc).1; omega) (fun c hc => by have := (mb.t c hc).1; omega)
   have hs : dq a.procs b.procs = true -> dq a.procs[j] b.procs[j] = true := fun h => by have := dq_iff.1 h; simp only [this, pL]
   have hs2 : a.procs[j] = b.procs[j] -> a.procs.take (j + 1) = b.procs.take (j + 1) := fun h => by rw [List.take_succ_eq_append_getElem hlt, List.take_succ_eq_append_getElem hlb, hI, h]
   simp -implicitDefEqProofs only [go_sem, hlt, hlb, bnd hlb, aS, f1, f2]
   refine aG hC q ?_
   rcases hx : dq a.procs[j] b.procs[j]
   ·have e3 : dq a.procs b.procs = false := by
     rw [Bool.eq_false_iff]
     intro h
     rw [hs h] at hx
     cases hx
    simp -implicitDefEqProofs only [go_sem, e3, Bool.not_false]
    refine aI ?_ ?_ <;> simp [go_sem]
   ·simp -implicitDefEqProofs only [go_sem, Bool.not_true, w5]
    exact ⟨(), _, Wk.pick (Nat.zero_le _) (by simp [go_sem]), hs2 (dq_iff.1 hx), f1, f2⟩
  ·have hge := aL hlt
   rw [aT hge, aT (by omega)] at hI
   have e4 := dq_iff.2 hI
   simp -implicitDefEqProofs only [go_sem, hlt, e4]
   refine aI ?_ ?_ <;> simp [go_sem]
 ·have e3 : ((a.procs.length : Int) != (b.procs.length : Int)) = true := by simp; omega
  have e4 : dq a.procs b.procs = false := dq_no fun h => h3 (by rw [h])
  simp -implicitDefEqProofs only [go_sem, c30, r30, encPg, e3, e4]
  refine aI ?_ ?_ <;> simp [go_sem]
end Go.Rip
