/- Trees in memory of their own; equal lists, equal clauses. -/
import Derived.Test.YtndcajdameofjaaGreatDoorRipBG
import Derived.Test.YtndcajdameofjaaGreatDoorRipBB
import Derived.Test.YtndcajdameofjaaGreatDoorRipAJ
import Derived.Test.YtndcajdameofjaaGreatDoorRipBF
import Derived.Test.YtndcajdameofjaaGreatDoorRipAZ
namespace Go.Rip
open Go
set_option maxRecDepth 100000
theorem fJ {α β : Type} {l : List α} {j : Nat} (hlt : j < l.length) (f : α -> β) : (l.take (j + 1)).map f = (l.take j).map f ++ [f l[j]] := by
 rw [Bi hlt, De]; rfl
theorem kM {α β : Type} {l : List α} {j : Nat} (h : l.length <= j) (f : α -> β) : (l.take j).map f = l.map f := by rw [Bh h]
variable {GL : Glob}
def vecA (a sz : Nat) (l : List AV) : AV := if l = [] then .v (.slice none 0 0) else .vec a sz l.length
theorem uR (a sz : Nat) : vecA a sz [] = .v (.slice none 0 0) := rfl
theorem dD {a sz : Nat} {l : List AV} (h : l ≠ []) : vecA a sz l = .vec a sz l.length := if_neg h
theorem qJ (a sz : Nat) (l : List AV) (x : AV) : vecA a sz (l ++ [x]) = .vec a sz (l.length + 1) := by simp [vecA]
theorem h207 : ∀ (n : Nat) (l : List Tm), sizes l <= n -> n < 2 ^ 30 -> Pure (PC GL) 207 [.sl 4 (l.map enc)] (.sl 4 (l.map enc)) := by
 intro n
 induction n with
 | zero =>
  intro l hl _
  have h4 := aZ l
  have : l = [] := List.length_eq_zero_iff.1 (by omega)
  subst this
  refine k207.pure (by simp) (by simp [go_sem]) (by simp [go_sem]) ?_
  simp -implicitDefEqProofs only [c207, r207, go_sem]
  refine aV hC (fun j (_ : Unit) => [(8, .i j), (7, .i (0 : Nat)), (3, .v (.slice none 0 0))]) (fun j (_ : Unit) h => True) 0 ⟨(), _, Wk.pick (Ap _) (by simp [go_sem]), trivial⟩ fun j _ h hj _ => ?_
  have : j = 0 := by omega
  subst this
  simp -implicitDefEqProofs only [go_sem, show decide (((0 : Nat) : Int) < ((0 : Nat) : Int)) = false from rfl]
  refine aE ?_ (by simp [go_sem])
  simp [go_sem]
 | succ n ih =>
 intro l hl hn
 have h4 := aZ l
 refine k207.pure (by simp) (by simp [go_sem]) (by simp [go_sem]) ?_
 simp -implicitDefEqProofs only [c207, r207, go_sem]
 refine aV hC (fun j a => [(8, .i j), (3, .own a 4 ((l.take j).map enc)), (6, .sl 4 (l.map enc)), (7, .i l.length)]) (fun j a h => h[a]? = some (.spare 24 4)) l.length ?_ fun j a h hj ha => ?_
 ·refine ⟨0, _, (Wk.own_nil (h := []) 24 4 3 (by simp [go_sem]) (Ap _)).trans (Wk.pick (by simp) (by simp [go_sem])), rfl⟩
 have ha_g := fun l => aF (l := l) ha
 have ha_s := fun o l => aN (l := l) ha o
 have ha_e := fun o l => aM (o := o) (l := l) ha
 have ha_h := fun o => aG (o := o) ha
 simp -implicitDefEqProofs only [go_sem]
 refine aK (fun hlt => ?_) (fun hlt => ?_)
 ·have hlt := aL hlt
  have g1 := cO hlt
  have g2 := cX l[j]
  have w5 : IntKind.i64.wrap ((j : Int) + 1) = (j : Int) + 1 := aD _ (by omega)
  simp -implicitDefEqProofs only [go_sem, hlt, aX]
  refine aC hC (ih l[j].l (by omega) (by omega)) ?_
  simp -implicitDefEqProofs only [go_sem, Aq, ha_g, ha_s]
  refine ⟨by simp; omega, ?_⟩
  refine ⟨h.length + 2, _, Wk.pick (Ap _) (by simp [go_sem, w5, fJ hlt]), ?_⟩
  rw [oX (by simp)]; simp
 ·have hge := aO hlt
  simp -implicitDefEqProofs only [go_sem, hlt, kM hge]
  refine aE ?_ (by simp [go_sem])
  simp [go_sem]
noncomputable def sames (a b : List Tm) : Bool := @decide (a = b) (Classical.propDecidable _)
theorem sames_iff {a b : List Tm} : sames a b = true ↔ a = b := by simp [sames]
theorem h35 (a : List Tm) (hs : sizes a < 2 ^ 30) (b : List Tm) (hb : b.length < 2 ^ 47) : Pure (PC GL) 35 [.sl 4 (a.map enc), .sl 4 (b.map enc)] (.b (sames a b)) := by
 have h4 := aZ a
 refine k35.pure (by simp) (by simp [go_sem]) (by simp [go_sem]) ?_
 simp -implicitDefEqProofs only [c35, r35, go_sem]
 by_cases hl : a.length = b.length
 ·have e : ((a.length : Int) != (b.length : Int)) = false := by simp [hl]
  simp -implicitDefEqProofs only [go_sem, e]
  refine aV hC (fun j (_ : Unit) => [(5, .i j), (0, .sl 4 (a.map enc)), (1, .sl 4 (b.map enc))]) (fun j (_ : Unit) _ => a.take j = b.take j) a.length ⟨(), _, Wk.pick (Ap _) (by simp [go_sem]), by simp⟩ fun j _ h hj hI => ?_
  simp -implicitDefEqProofs only [go_sem]
  refine aK (fun hlt => ?_) (fun hlt => ?_)
  ·have hlt := aL hlt
   have hlb : j < b.length := by omega
   have g1 := cO hlt
   have w5 : IntKind.i64.wrap ((j : Int) + 1) = (j : Int) + 1 := aD _ (by omega)
   have db : decide ((j : Int) < (b.length : Int)) = true := Ac (by omega)
   simp -implicitDefEqProofs only [go_sem, hlt, hlb, aX]
   refine aC hC (h24 a[j] (by omega) b[j]) ?_
   simp -implicitDefEqProofs only [go_sem]
   by_cases hx : a[j] = b[j]
   ·have e2 : a[j].same b[j] = true := same_iff.2 hx
    simp -implicitDefEqProofs only [go_sem, e2, Av]
    refine ⟨(), _, Wk.pick (Ap _) (by simp [go_sem, w5]), ?_⟩
    rw [Bi hlt, Bi hlb, hI, hx]
   ·have e2 : a[j].same b[j] = false := gL hx
    have e3 : sames a b = false := by
     rw [Cj]
     intro h
     have := sames_iff.1 h
     subst this
     exact hx rfl
    simp -implicitDefEqProofs only [go_sem, e2, e3, Ax]
    refine aE ?_ ?_ <;> simp [go_sem]
  ·have hge := aO hlt
   rw [aY hge, aY (by omega)] at hI
   have e3 : sames a b = true := sames_iff.2 hI
   simp -implicitDefEqProofs only [go_sem, hlt, e3]
   refine aE ?_ ?_ <;> simp [go_sem]
 ·have e : ((a.length : Int) != (b.length : Int)) = true := by simp; omega
  have e3 : sames a b = false := by
   rw [Cj]
   intro h
   exact hl (by rw [sames_iff.1 h])
  simp -implicitDefEqProofs only [go_sem, e, e3]
  refine aE ?_ ?_ <;> simp [go_sem]
end Go.Rip
namespace Go.Rip
open Go Go.Proofs
set_option maxRecDepth 100000
variable {GL : Glob}
attribute [local irreducible] Pure
def ownA (a sz : Nat) (l : List AV) : AV := if l = [] then .v (.slice none 0 0) else .own a sz l
theorem ownA_cons {a sz : Nat} {l : List AV} (h : l ≠ []) : ownA a sz l = .own a sz l := if_neg h
theorem ownA_snoc (a sz : Nat) (l : List AV) (x : AV) : ownA a sz (l ++ [x]) = .own a sz (l ++ [x]) := by simp [ownA]
theorem wkr_ownA (a sz : Nat) (l : List AV) : wkr (ownA a sz l) (.sl sz l) := by
 unfold ownA; split
 ·simp [wkr, *]
 ·simp [wkr]
theorem h159 (q : Pr) (hl : q.clauses.length < 2 ^ 40) (hq : ∀ c ∈ q.clauses, sizes c.parts < 2 ^ 30) : Pure (PC GL) 159 [encPr q] (encPr q) := by
 refine k159.pure (by simp) (by simp [go_sem]) (by simp [go_sem]) ?_
 simp -implicitDefEqProofs only [go_sem, c159, r159, encPr]
 refine aV hC (fun j (_ : Nat) => [(14, .i j), (12, .sl 5 (q.clauses.map encCl)), (13, .i q.clauses.length), (2, .ref 1 0), (3, .ref 2 0)])
  (fun j a h' => h'[1]? = some (.cells 60 [.str [], .i 0, .v (.slice none 0 0)]) /\ h'[2]? = some (.cells 60 [.str q.name, .i q.arity, ownA a 5 ((q.clauses.take j).map encCl)]) /\ (j = 0 ∨ h'[a]? = some (.spare 68 5))) q.clauses.length ?_ fun j a h2 hj ⟨f1, f2, f3⟩ => ?_
 ·exact ⟨0, _, Wk.pick (Ap _) (by simp [go_sem]), rfl, rfl, .inl rfl⟩
 have f1_g := fun l => aF (l := l) f1
 have f1_s := fun o l => aN (l := l) f1 o
 have f1_e := fun o l => aM (o := o) (l := l) f1
 have f1_h := fun o => aG (o := o) f1
 have f2_g := fun l => aF (l := l) f2
 have f2_s := fun o l => aN (l := l) f2 o
 have f2_e := fun o l => aM (o := o) (l := l) f2
 have f2_h := fun o => aG (o := o) f2
 simp -implicitDefEqProofs only [go_sem]
 refine aK (fun hlt => ?_) (fun hlt => ?_)
 ·have hlt := aL hlt
  have w5 : IntKind.i64.wrap ((j : Int) + 1) = (j : Int) + 1 := aD _ (by omega)
  have hc := hq _ (Ao hlt)
  have hs : (q.clauses.take (j + 1)).map encCl = (q.clauses.take j).map encCl ++ [encCl q.clauses[j]] := fJ hlt encCl
  obtain ⟨c, hcd⟩ : ∃ c, q.clauses[j] = c := ⟨_, rfl⟩
  rw [hcd] at hc hs
  have hp : sizes c.parts = sizes c.head + (sizes c.guard + sizes c.body) := by simp [Cl.parts, cW]
  have q1 := h207 (GL := GL) _ c.head (Ak _) (by omega)
  have q2 := h207 (GL := GL) _ c.guard (Ak _) (by omega)
  have q3 := h207 (GL := GL) _ c.body (Ak _) (by omega)
  simp -implicitDefEqProofs only [go_sem, hlt, aX, hcd, encCl, f2_g]
  refine aC hC q1 ?_
  simp -implicitDefEqProofs only [go_sem, f2_g]
  refine aC hC q2 ?_
  simp -implicitDefEqProofs only [go_sem, f2_g]
  refine aC hC q3 ?_
  simp -implicitDefEqProofs only [go_sem, Aq, f2_g, f2_s]
  have nx : j = 0 ∨ (q.clauses.take j).map encCl ≠ [] := by
   rcases Nat.eq_zero_or_pos j with h | h
   ·exact .inl h
   ·refine .inr fun e => ?_
    have := congrArg List.length e
    simp only [Af, Df, Dv] at this
    omega
  have ll : ((q.clauses.take j).map encCl).length <= q.clauses.length := by simp; omega
  have hso : ownA (h2.length + 2) 5 ((q.clauses.take (j + 1)).map encCl) = .own (h2.length + 2) 5 ((q.clauses.take j).map encCl ++ [encCl c]) := by rw [hs, ownA_snoc]
  rcases nx with rfl | hne
  ·simp -implicitDefEqProofs only [go_sem, fB, w5]
   refine ⟨by simp, h2.length + 2, _, Wk.pick (Ap _) (by simp [go_sem]), ?_, ?_, .inr ?_⟩
   ·rw [aF]
    rw [aS (by omega)]; exact f1
   ·rw [hso]; exact f2_e _ _
   ·rw [Bd (by simp)]; simp
  ·have f4 := f3.resolve_left (by rintro rfl; exact hne rfl)
   have f4_g := fun l => aF (l := l) f4
   have f4_s := fun o l => aN (l := l) f4 o
   have f4_e := fun o l => aM (o := o) (l := l) f4
   have f4_h := fun o => aG (o := o) f4
   have f2_f4b := fun o l => kA (o := o) (l := l) f2 f4 (by simp)
   have f2_f4s := fun o l x => kF (o := o) (l := l) (x' := x) f2 f4 (by simp)
   have f2_f4g := fun o l x => gX (o := o) (l := l) (x' := x) f2 f4 (by simp)
   have f2_f4k := fun o l x => iJ (o := o) (l := l) (x' := x) f2 f4 (by simp)
   generalize hL : (q.clauses.take j).map encCl = L at *
   simp -implicitDefEqProofs only [go_sem, fB, ownA_cons hne, Aq, f4_g, f4_s, f2_f4b, f2_f4s, w5]
   refine ⟨by omega, h2.length + 2, _, Wk.pick (Ap _) (by simp [go_sem]), ?_, ?_, .inr ?_⟩
   ·rw [aF]
    rw [aS (by omega), aS (bF f4 f1 (by simp))]; exact f1
   ·rw [hso]; exact f2_f4g _ _ _
   ·rw [Bd (by simp)]; simp
 ·have hge := aO hlt
  rw [kM hge] at f2
  have f2_g := fun l => aF (l := l) f2
  have f2_s := fun o l => aN (l := l) f2 o
  have f2_e := fun o l => aM (o := o) (l := l) f2
  have f2_h := fun o => aG (o := o) f2
  simp -implicitDefEqProofs only [go_sem, hlt, f1, f1_h, f2]
  refine aE ?_ ?_
  ·simp only [wkr, wkrs, and_true, true_and]
   exact wkr_ownA _ _ _
  ·simp [go_sem]
theorem wQ (φ : Nat -> Nat -> Nat -> AV) (l : List Tm) : fzGs φ (l.map enc) = l.map enc := by rw [<- iL]; exact fP φ l
theorem fzG_encCl (φ : Nat -> Nat -> Nat -> AV) (c : Cl) : fzG φ (encCl c) = encCl c := by simp only [encCl, fzG, fzGs, wQ]
theorem uX (φ : Nat -> Nat -> Nat -> AV) : ∀ l : List Cl, fzGs φ (l.map encCl) = l.map encCl
 | [] => rfl
 | c :: r => by simp only [Ay, fzGs, fzG_encCl, uX φ r]
theorem fzG_encPr (φ : Nat -> Nat -> Nat -> AV) (q : Pr) : fzG φ (encPr q) = encPr q := by simp only [encPr, fzG, fzGs, uX]
theorem fin_vecs {a : Nat} {l : List AV} {h : List AObj} {T : TypeId} {s : Nat} {e : Int} (ha : l = [] ∨ h[a]? = some (.buf T s l)) (hb : bds 0 l) (hz : ∀ x ∈ l, fz x = x) :
  ∃ y h', Wk GL 0 [(0, .tup [.agg [vecA a 3 l], .i e])] h [(0, y)] h' /\ h' = [] /\ ARes.val y = ARes.val (.tup [.agg [.sl 3 l], .i e]) := by
 by_cases hl : l = []
 ·rw [hl]
  exact aE (fO (by simp [vecA, wkr, wkrs]) rfl) (by simp [go_sem])
 ·have ha := ha.resolve_left hl
  have e1 : fzN h 1 (.tup [.agg [.vec a 3 l.length], .i e]) = .tup [.agg [.sl 3 l], .i e] := by
   have : fzN h 0 = fz := rfl
   simp only [fzN, fzG, fzGs, ha, Eu]
   rw [show Nat.ble l.length l.length = true from aJ _]
   have : l.map fz = l := by
    conv => rhs; rw [<- List.map_id l]
    exact Cx fun x hx => hz x hx
   simp only [this]
  rw [dD hl]
  have hb : bd 0 (fzN h 1 (.tup [.agg [.vec a 3 l.length], .i e])) := by rw [e1]; simp [go_sem, hb]
  have := Wk.fzN (GL := GL) 1 hb
  rw [e1] at this
  exact ⟨_, [], this, rfl, rfl⟩
theorem eL {p : Pg} {q : Qy} : ∀ x ∈ reachR p q, x < p.procs.length := fun x hx => by
 unfold reachR at hx
 split at hx
 ·have := oC hx
  rwa [reachS, cZ, cM] at this
 ·simp at hx
theorem dV (p : Pg) (q : Qy) : (reachR p q).length <= p.procs.length := by
 unfold reachR
 split
 ·have := sY (reachS p q.goals)
  rwa [reachS, cZ, cM] at this
 ·simp
end Go.Rip
namespace Go.Rip
open Go Go.Proofs
set_option maxRecDepth 100000
theorem tK {s : Sym} : ∀ {l : List Sym} {i : Nat}, idxS s l = some i -> ∃ h : i < l.length, l[i] = s
 | [], i, h => by cases h
 | k :: r, i, h => by
  simp only [idxS] at h
  split at h
  ·rename_i e
   obtain rfl := Dp h
   exact ⟨by simp, by simp [e]⟩
  ·obtain ⟨j, hj, rfl⟩ := Br.1 h
   obtain ⟨h1, h2⟩ := tK hj
   exact ⟨by simpa using h1, by simpa using h2⟩
theorem findS_val {s : Sym} {l : List Sym} {i : Nat} (h : findS s l = i) : ∃ h : i < l.length, l[i] = s := by
 unfold findS at h
 split at h
 ·rename_i j hj
  obtain rfl : j = i := by omega
  exact tK hj
 ·omega
theorem vW {l : List Sym} (hn : l.Nodup) {j : Nat} (hj : j < l.length) : findS l[j] l = j := by
 have h := find_self hj
 have : decide (l[j] ∈ l.take j) = false := Ai fun hm => by
  obtain ⟨i, hi, e⟩ := Dc.1 hm
  rw [List.getElem_take] at e
  have hi' : i < j := by simp at hi; omega
  have := (Cz.1 hn)
  have := Cu.1 this i j (by omega) hj hi'
  exact this e
 rw [this] at h
 simpa using h
def Pr.fine (q : Pr) : Bool := nameOk q.name && (!decide (q.arity < 0) && (!decide (q.arity > 16) && (!q.sym.res && !decide ((q.clauses.length : Int) > 32))))
theorem eB : ∀ (l : List Pr) (seen : List Sym), headsOk seen l = true ↔ (l.map Pr.sym).Nodup /\ (∀ q ∈ l, q.sym ∉ seen) /\ ∀ q ∈ l, q.fine = true
 | [], seen => by simp [headsOk]
 | q :: r, seen => by
  rw [headsOk, Ag, eB r]
  have hq : q.head seen = true ↔ q.sym ∉ seen /\ q.fine = true := by
   rw [Pr.head, Ag, Bu, decide_eq_false_iff_not]; rfl
  rw [hq, Ay, Ej]
  constructor
  ·rintro ⟨⟨h1, h2⟩, h3, h4, h5⟩
   refine ⟨⟨fun hm => ?_, h3⟩, fun x hx => ?_, fun x hx => ?_⟩
   ·obtain ⟨y, hy, e⟩ := Bq.1 hm
    exact h4 y hy (by rw [e]; simp)
   ·rcases Ar.1 hx with e | hx
    ·rw [e]; exact h1
    ·exact fun h => h4 x hx (by simp [h])
   ·rcases Ar.1 hx with e | hx
    ·rw [e]; exact h2
    ·exact h5 x hx
  ·rintro ⟨⟨h1, h2⟩, h3, h4⟩
   refine ⟨⟨h3 q (by simp), h4 q (by simp)⟩, h2, fun x hx hm => ?_, fun x hx => h4 x (by simp [hx])⟩
   rcases Az.1 hm with hm | hm
   ·exact h3 x (by simp [hx]) hm
   ·exact h1 (Bq.2 ⟨x, hx, Cp.1 hm⟩)
theorem nD {l : List Sym} {goals : List Tm} : okCalls l [] goals = true ↔ ∀ s ∈ calledS goals, s ∈ l := by
 rw [hF, Bu, Gy]
 simp
theorem oT {p : Pg} {i : Nat} (h : i < p.syms.length) : p.syms[i] = (p.procs[i]'(by simpa [Pg.syms] using h)).sym := by simp [Pg.syms]
section
variable {p : Pg} {q : Qy} {S : List Bool}
end
end Go.Rip
namespace Go.Rip
open Go
set_option maxRecDepth 100000
theorem iU : ∀ a : List UInt8, Op.bytesLess a a = false
 | [] => rfl
 | c :: r => by simp [Op.bytesLess, iU r, UInt8.lt_irrefl]
theorem iX (a b : UInt8) (x y : List UInt8) : Op.bytesLess (a :: x) (b :: y) = true ↔ a < b ∨ (a = b /\ Op.bytesLess x y = true) := by
 simp [Op.bytesLess]
theorem lH : ∀ {a b c : List UInt8}, Op.bytesLess a b = true -> Op.bytesLess b c = true -> Op.bytesLess a c = true
 | _, [], _, h, _ => by simp [Op.bytesLess] at h
 | _, _ :: _, [], _, h => by simp [Op.bytesLess] at h
 | [], _ :: _, _ :: _, _, _ => rfl
 | a :: x, b :: y, c :: z, h, k => by
  rw [iX] at *
  rcases h with h | ⟨rfl, h⟩ <;> rcases k with k | ⟨rfl, k⟩
  ·exact .inl (UInt8.lt_trans h k)
  ·exact .inl h
  ·exact .inl k
  ·exact .inr ⟨rfl, lH h k⟩
theorem wY : ∀ {a b : List UInt8}, Op.bytesLess a b = false -> Op.bytesLess b a = false -> a = b
 | [], [], _, _ => rfl
 | [], _ :: _, h, _ => by simp [Op.bytesLess] at h
 | _ :: _, [], _, h => by simp [Op.bytesLess] at h
 | a :: x, b :: y, h, k => by
  have h1 : ¬ Op.bytesLess (a :: x) (b :: y) = true := by rw [h]; simp
  have k1 : ¬ Op.bytesLess (b :: y) (a :: x) = true := by rw [k]; simp
  rw [iX, not_or] at h1 k1
  have e : a = b := by
   have := h1.1; have := k1.1
   rw [UInt8.lt_iff_toNat_lt] at *
   exact UInt8.toNat_inj.1 (by omega)
  subst e
  have h2 : Op.bytesLess x y = false := by rw [Cj]; exact fun h => h1.2 ⟨rfl, h⟩
  have k2 : Op.bytesLess y x = false := by rw [Cj]; exact fun h => k1.2 ⟨rfl, h⟩
  rw [wY h2 k2]
def ltPr (a b : Pr) : Bool := Op.bytesLess a.name b.name || (a.name == b.name && decide (a.arity < b.arity))
theorem lG (a b : Pr) : ltPr a b = true ↔ Op.bytesLess a.name b.name = true ∨ (a.name = b.name /\ a.arity < b.arity) := by simp [ltPr]
theorem lt_irrefl (a : Pr) : ltPr a a = false := by simp [ltPr, iU]
theorem lt_trans {a b c : Pr} (h : ltPr a b = true) (k : ltPr b c = true) : ltPr a c = true := by
 rw [lG] at *
 rcases h with h | ⟨h, h'⟩ <;> rcases k with k | ⟨k, k'⟩
 ·exact .inl (lH h k)
 ·exact .inl (k ▸ h)
 ·exact .inl (h ▸ k)
 ·exact .inr ⟨h.trans k, by omega⟩
theorem uT {a b : Pr} (h : ltPr a b = true) : ltPr b a = false := by
 rw [Cj]
 intro k
 have := lt_trans h k
 rw [lt_irrefl] at this
 cases this
theorem lt_tri {a b : Pr} (h : ltPr a b = false) (k : ltPr b a = false) : a.sym = b.sym := by
 have h1 : ¬ ltPr a b = true := by rw [h]; simp
 have k1 : ¬ ltPr b a = true := by rw [k]; simp
 rw [lG, not_or] at h1 k1
 have e : a.name = b.name := wY (by rw [Cj]; exact h1.1) (by rw [Cj]; exact k1.1)
 have h2 : ¬ a.arity < b.arity := fun h => h1.2 ⟨e, h⟩
 have k2 : ¬ b.arity < a.arity := fun h => k1.2 ⟨e.symm, h⟩
 have e2 : a.arity = b.arity := by omega
 simp only [Pr.sym, e, e2]
def insPr (q : Pr) : List Pr -> List Pr
 | [] => [q]
 | x :: r => if ltPr q x then q :: x :: r else x :: insPr q r
def sortPr (l : List Pr) : List Pr := l.foldl (fun acc q => insPr q acc) []
theorem gK (q : Pr) : ∀ l, (insPr q l).Perm (q :: l)
 | [] => Ei _
 | x :: r => by
  rw [insPr]
  split
  ·exact Ei _
  ·exact ((gK q r).cons x).trans (List.Perm.swap q x r)
theorem cE (l : List Pr) : (sortPr l).Perm l := by
 have : ∀ (l acc : List Pr), (l.foldl (fun acc q => insPr q acc) acc).Perm (acc ++ l) := by
  intro l
  induction l with
  | nil => intro acc; simp
  | cons x r ih =>
   intro acc
   refine (ih (insPr x acc)).trans ?_
   have h1 := (gK x acc).append_right r
   have h2 : (x :: acc ++ r).Perm (acc ++ x :: r) := by
    rw [Bk]
    exact (Gl).symm
   exact h1.trans h2
 have h := this l []
 rw [Cm] at h
 exact h
abbrev SortedP (l : List Pr) : Prop := l.Pairwise fun a b => ltPr a b = true
theorem lI {q : Pr} : ∀ {l : List Pr}, SortedP l -> (∀ x ∈ l, x.sym ≠ q.sym) -> SortedP (insPr q l)
 | [], _, _ => by simp [insPr]
 | x :: r, h, hn => by
  obtain ⟨h1, h2⟩ := Dd.1 h
  rw [insPr]
  split
  ·rename_i hq
   refine Dd.2 ⟨fun y hy => ?_, h⟩
   rcases Ar.1 hy with e | hy
   ·rw [e]; exact hq
   ·exact lt_trans hq (h1 y hy)
  ·rename_i hq
   have hxq : ltPr x q = true := by
    rcases h3 : ltPr x q with _ | _
    ·exact absurd (lt_tri h3 (by simpa using hq)) (hn x (by simp))
    ·rfl
   refine Dd.2 ⟨fun y hy => ?_, lI h2 fun y hy => hn y (by simp [hy])⟩
   rcases Ar.1 ((gK q r).mem_iff.1 hy) with e | hy
   ·rw [e]; exact hxq
   ·exact h1 y hy
theorem fI {l : List Pr} (hn : (l.map Pr.sym).Nodup) : SortedP (sortPr l) := by
 have : ∀ (l acc : List Pr), ((acc ++ l).map Pr.sym).Nodup -> SortedP acc -> SortedP (l.foldl (fun acc q => insPr q acc) acc) := by
  intro l
  induction l with
  | nil => intro acc _ h; exact h
  | cons x r ih =>
   intro acc hn hs
   have hp : (insPr x acc ++ r).Perm (acc ++ x :: r) := by
    refine ((gK x acc).append_right r).trans ?_
    rw [Bk]
    exact (Gl).symm
   refine ih (insPr x acc) ((hp.map Pr.sym).nodup_iff.2 hn) (lI hs fun y hy e => ?_)
   rw [De, Ay, En] at hn
   exact hn.2.2 y.sym (Bq.2 ⟨y, hy, rfl⟩) x.sym (by simp) e
 exact this l [] (by simpa using hn) Ge
theorem sorted_eq {a b : List Pr} (ha : SortedP a) (hb : SortedP b) (h : a.Perm b) : a = b :=
 Fy (le := fun x y => ltPr x y = true) (fun x y _ _ h1 h2 => by rw [uT h1] at h2; cases h2) ha hb h
def rkQ (S : List Pr) (x : Int) : Pr := if x < 0 then ⟨[], x, []⟩ else if x < S.length then S.getD x.toNat default else ⟨[255], x, []⟩
theorem rkQ_up {S : List Pr} (hs : SortedP S) (hn : ∀ q ∈ S, nameOk q.name = true) {x y : Int} (h : x < y) : ltPr (rkQ S x) (rkQ S y) = true := by
 have mem : ∀ {z : Int}, 0 <= z -> z < S.length -> ∃ h : z.toNat < S.length, rkQ S z = S[z.toNat] := fun {z} h1 h2 => by
  have h3 : z.toNat < S.length := by omega
  exact ⟨h3, by rw [rkQ, if_neg (by omega), if_pos h2]; simp [List.getD, h3]⟩
 have neg : ∀ {z : Int}, z < 0 -> rkQ S z = ⟨[], z, []⟩ := fun {z} h => by rw [rkQ, if_pos h]
 have big : ∀ {z : Int}, (S.length : Int) <= z -> rkQ S z = ⟨[255], z, []⟩ := fun {z} h => by rw [rkQ, if_neg (by omega), if_neg (by omega)]
 have nm : ∀ {i : Nat} (hi : i < S.length), ∃ c r, S[i].name = c :: r /\ c.toNat <= 126 := fun {i} hi => by
  have := hn _ (Ao hi)
  simp only [nameOk, Ag, Cb] at this
  cases hnm : S[i].name with
  | nil => rw [hnm] at this; simp at this
  | cons c r =>
   rw [hnm] at this
   refine ⟨c, r, rfl, ?_⟩
   have := this.2.2
   simp only [Fc, Ag, byteOk, Cb] at this
   exact this.1.2
 rw [lG]
 by_cases x0 : x < 0
 ·rw [neg x0]
  by_cases y0 : y < 0
  ·rw [neg y0]; exact .inr ⟨rfl, h⟩
  by_cases yn : y < S.length
  ·obtain ⟨h3, e⟩ := mem (by omega) yn
   obtain ⟨c, r, e2, -⟩ := nm h3
   rw [e, e2]; exact .inl rfl
  ·rw [big (by omega)]; exact .inl rfl
 by_cases xn : x < S.length
 ·obtain ⟨h3, e⟩ := mem (by omega) xn
  rw [e]
  by_cases yn : y < S.length
  ·obtain ⟨h4, e'⟩ := mem (by omega) yn
   rw [e', <- lG]
   exact Cu.1 hs _ _ h3 h4 (by omega)
  ·rw [big (by omega)]
   obtain ⟨c, r, e2, h5⟩ := nm h3
   rw [e2]
   left
   rw [iX]
   left
   rw [UInt8.lt_iff_toNat_lt]
   show c.toNat < 255
   omega
 ·rw [big (by omega), big (by omega)]
  exact .inr ⟨rfl, h⟩
theorem rkQ_lt {S : List Pr} (hs : SortedP S) (hn : ∀ q ∈ S, nameOk q.name = true) (x y : Int) : ltPr (rkQ S x) (rkQ S y) = decide (x < y) := by
 by_cases h : x < y
 ·rw [rkQ_up hs hn h, Ac h]
 ·rw [Ai h]
  by_cases e : x = y
  ·rw [e, lt_irrefl]
  ·exact uT (rkQ_up hs hn (by omega))
theorem jN {α β : Type} {f : α -> β} {l m' : List β} (h : m'.Perm l) : ∀ {m : List α}, m' = m.map f -> ∃ n : List α, n.Perm m /\ n.map f = l := by
  induction h with
  | nil => intro m e; cases m with
    | nil => exact ⟨[], Ei _, rfl⟩
    | cons a r => cases e
  | cons x _ ih => intro m e; cases m with
    | nil => cases e
    | cons a r =>
      simp only [Ay, Fa] at e
      obtain ⟨n, h1, h2⟩ := ih e.2
      exact ⟨a :: n, h1.cons a, by rw [Ay, h2, e.1]⟩
  | swap x y l => intro m e; match m, e with
    | a :: b :: r, e =>
      simp only [Ay, Fa] at e
      exact ⟨b :: a :: r, List.Perm.swap a b r, by simp [e.1, e.2.1, e.2.2]⟩
  | trans _ _ ih1 ih2 => intro m e
                         obtain ⟨n, h1, h2⟩ := ih1 e
                         obtain ⟨k, h3, h4⟩ := ih2 h2.symm
                         exact ⟨k, h3.trans h1, h4⟩
def ints (n : Nat) : List Int := (List.range n).map fun i : Nat => (i : Int)
theorem vZ (n : Nat) : (ints n).length = n := by simp [ints]
theorem uG (S : List Pr) : (ints S.length).map (rkQ S) = S := by
 apply Ew (by simp [ints])
 intro i h1 h2
 simp only [ints, By, Ga]
 rw [rkQ, if_neg (by omega), if_pos (by omega)]
 simp [List.getD, h2]
theorem uN (n : Nat) : (ints n).Pairwise (· <= ·) := by
 rw [ints, Fg]
 exact List.pairwise_lt_range.imp fun h => by omega
theorem vG {l : List Int} {n : Nat} (hp : l.Perm (ints n)) (hs : Srt 0 l.length l) : l = ints n := by
 refine Fy (le := fun x y : Int => x <= y) (fun x y _ _ h1 h2 => by omega) ?_ (uN n) hp
 rw [Cu]
 intro i j hi hj hij
 have := hs i j (Ap _) hij hj
 simpa [List.getD, hi, hj] using this
theorem ranks {l : List Pr} (_hn : (l.map Pr.sym).Nodup) : ∃ l0 : List Int, l0.Perm (ints l.length) /\ l0.map (rkQ (sortPr l)) = l := by
 have hl : (sortPr l).length = l.length := (cE l).length_eq
 have := jN (f := rkQ (sortPr l)) (cE l) (m := ints (sortPr l).length) (uG _).symm
 rwa [hl] at this
def Pg.sorted (p : Pg) : Pg := if p.ok then ⟨sortPr p.procs⟩ else ⟨[]⟩
theorem sN {p : Pg} (hok : p.ok = true) : (p.procs.map Pr.sym).Nodup /\ ∀ q ∈ p.procs, nameOk q.name = true := by
 simp only [Pg.ok, Pg.tabled, Ag] at hok
 obtain ⟨h1, _, h3⟩ := (eB _ _).1 hok.1.2
 refine ⟨h1, fun q hq => ?_⟩
 have := h3 q hq
 simp only [Pr.fine, Ag] at this
 exact this.1
theorem eF {p : Pg} (hp : p.small) : p.sorted.small := by
 unfold Pg.sorted
 split
 ·exact ⟨by rw [(cE p.procs).length_eq]; exact hp.l, fun q hq => hp.q q ((cE p.procs).mem_iff.1 hq)⟩
 ·exact ⟨by simp, fun q hq => by simp at hq⟩
end Go.Rip
namespace Go.Rip
open Go
set_option maxRecDepth 100000
variable {GL : Glob}
theorem h263 {Q : Int -> Pr} {cf : FuncId} {cc : Int -> Int -> Int} (cQ : Cmp GL Q cf cc) (l0 : List Int) (a b : Nat) (hb : b <= l0.length) (hl : l0.length < 2 ^ 40) (k : Nat) (h : List AObj) (hk : h[k]? = some (.buf 60 3 (l0.map (encQ Q)))) (ha : a < 2 ^ 40) :
  Gives (PC GL) 263 [.vec k 3 l0.length, .i a, .i b, .fn (.func cf) [] []] h fun _ h' => ∃ l', SegP a b l0 l' /\ Srt a b l' /\ h'[k]? = some (.buf 60 3 (l'.map (encQ Q))) /\ Keep (fun i _ => i = k) h h' := by
 have w1 : IntKind.i64.wrap ((a : Int) + 1) = ((a + 1 : Nat) : Int) := by rw [aD _ (by omega)]; simp
 refine k263.gives (by simp) ?_
 simp -implicitDefEqProofs only [go_sem, c263, r263, w1]
 refine aV hC (fun t (_ : List Int) => [(8, .i ((a + 1 + t : Nat) : Int)), (0, .vec k 3 l0.length), (1, .i a), (2, .i b), (3, .fn (.func cf) [] [])]) (fun t l h' => SegP a b l0 l /\ h'[k]? = some (.buf 60 3 (l.map (encQ Q))) /\ Keep (fun i _ => i = k) h h' /\ Srt a (a + 1 + t) l) (b - (a + 1)) ⟨l0, h, Wk.pick (Ak _) (by simp [go_sem]), SegP.refl _ _ _, hk, Keep.refl _ _, fun p q _ _ _ => by omega⟩ fun t l h1 ht ⟨g1, g2, g3, g4⟩ => ?_
 simp -implicitDefEqProofs only [go_sem]
 refine aK (fun hlt => ?_) (fun hlt => ?_)
 ·have hlt : a + 1 + t < b := by have := Cc hlt; omega
  simp -implicitDefEqProofs only [go_sem]
  refine aV hC (fun u (_ : List Int) => [(9, .i ((a + 1 + t - u : Nat) : Int)), (8, .i ((a + 1 + t : Nat) : Int)), (0, .vec k 3 l0.length), (1, .i a), (2, .i b), (3, .fn (.func cf) [] [])]) (fun u l h' => SegP a b l0 l /\ h'[k]? = some (.buf 60 3 (l.map (encQ Q))) /\ Keep (fun i _ => i = k) h h' /\ SrtBut a (a + 1 + t + 1) (a + 1 + t - u) l) (1 + t) ⟨l, h1, Wk.pick g3.1 (by simp [go_sem]), g1, g2, g3, g4.next⟩ fun u l h2 hu ⟨g1, g2, g3, g4⟩ => ?_
  simp -implicitDefEqProofs only [go_sem]
  have hlen : l0.length = l.length := g1.1.symm
  have hjb : a + 1 + t - u < l.length := by omega
  have hju : a + 1 + t - (u + 1) = a + 1 + t - u - 1 := by omega
  have hji : a + 1 + t - u < a + 1 + t + 1 := by omega
  have w3 : IntKind.i64.wrap (((a + 1 + t : Nat) : Int) + 1) = ((a + 1 + (t + 1) : Nat) : Int) := by rw [aD _ (by omega)]; omega
  rw [hju]
  by_cases hja : a < a + 1 + t - u
  ·have hu1 : u < 1 + t := by omega
   generalize a + 1 + t - u = j at *
   have d : decide ((j : Int) > (a : Int)) = true := Ac (by omega)
   have w2 : IntKind.i64.wrap ((j : Int) - 1) = ((j - 1 : Nat) : Int) := by rw [aD _ (by omega)]; omega
   have hj1 : j - 1 < l.length := by omega
   have e1 := aP (Q := Q) hjb
   have e2 := aP (Q := Q) hj1
   simp -implicitDefEqProofs only [go_sem, d, w2, g2, hlen, bnd hjb, bnd hj1, e1, e2, Af, aJ, Ae, true_and, aU]
   refine aC hC (cQ.p _ _) ?_
   simp -implicitDefEqProofs only [go_sem, cQ.d]
   refine aK (fun hc => ?_) (fun hc => ?_)
   ·simp -implicitDefEqProofs only [go_sem, w2, g2, bnd hjb, bnd hj1, e1, e2, aG g2, bP (Q := Q) hj1, Af, As, aJ, Ae, true_and, aU, bG, Bg, bM]
    exact ⟨hu1, swp l j (j - 1), _, Wk.pick (by simpa using g3.1) (by simp [go_sem]), g1.trans (SegP.swp (by omega) (by omega) (by omega)), aG g2, g3.trans (Keep.set _ g2 rfl), g4.swp hja hji (by omega) (Cc hc)⟩
   ·simp -implicitDefEqProofs only [go_sem, w3]
    exact ⟨by omega, l, h2, Wk.pick g3.1 (by simp [go_sem]), g1, g2, g3, g4.all fun _ => Dq hc⟩
  ·generalize a + 1 + t - u = j at *
   have d : decide ((j : Int) > (a : Int)) = false := Ai (by omega)
   simp -implicitDefEqProofs only [go_sem, d, w3]
   exact ⟨by omega, l, h2, Wk.pick g3.1 (by simp [go_sem]), g1, g2, g3, g4.all fun h => absurd h hja⟩
 ·have hlt : ¬ (a + 1 + t < b) := fun hh => by have := Dq hlt; omega
  simp -implicitDefEqProofs only [go_sem]
  exact aH g3.1 ⟨l, g1, fun p q hp hpq hq => g4 p q hp hpq (by omega), g2, g3⟩
theorem h320 {Q : Int -> Pr} {cf : FuncId} {cc : Int -> Int -> Int} (cQ : Cmp GL Q cf cc) (l : List Int) (i j : Nat) (hi : i < l.length) (hj : j < l.length) (k c : Nat) (T : TypeId) (s : Int) (h : List AObj) (hk : h[k]? = some (.buf 60 3 (l.map (encQ Q)))) (hc : h[c]? = some (.cells T [.v (.int .i64 s)])) :
  Gives (PC GL) 320 [.vec k 3 l.length, .i i, .i j, .ref c 0, .fn (.func cf) [] []] h fun x h' => ∃ i' j' : Nat, x = .tup [.i i', .i j'] /\ ((i' = i /\ j' = j) ∨ (i' = j /\ j' = i)) /\ (∃ s', h'[c]? = some (.cells T [.v (.int .i64 s')])) /\ Keep (fun i _ => i = c) h h' := by
 refine k320.gives (by simp) ?_
 have e1 := aP (Q := Q) hi
 have e2 := aP (Q := Q) hj
 simp -implicitDefEqProofs only [go_sem, c320, r320, hk, bnd hi, bnd hj, e1, e2, Af, aJ, Ae, true_and, aU]
 refine aC hC (cQ.p _ _) ?_
 simp -implicitDefEqProofs only [go_sem, cQ.d]
 refine aK (fun hlt => ?_) (fun hlt => ?_)
 ·simp -implicitDefEqProofs only [go_sem, hc]
  exact aH (by simp) ⟨j, i, rfl, .inr ⟨rfl, rfl⟩, ⟨_, aG hc⟩, Keep.set _ hc rfl⟩
 ·simp -implicitDefEqProofs only [go_sem]
  exact aH (Ak _) ⟨i, j, rfl, .inl ⟨rfl, rfl⟩, ⟨_, hc⟩, Keep.refl _ _⟩
theorem h307 {Q : Int -> Pr} {cf : FuncId} {cc : Int -> Int -> Int} (cQ : Cmp GL Q cf cc) (l : List Int) (i j m : Nat) (hi : i < l.length) (hj : j < l.length) (hm : m < l.length) (k c : Nat) (T : TypeId) (s : Int) (h : List AObj) (hk : h[k]? = some (.buf 60 3 (l.map (encQ Q)))) (hc : h[c]? = some (.cells T [.v (.int .i64 s)])) :
  Gives (PC GL) 307 [.vec k 3 l.length, .i i, .i j, .i m, .ref c 0, .fn (.func cf) [] []] h fun x h' => ∃ p : Nat, x = .i p /\ (p = i ∨ p = j ∨ p = m) /\ (∃ s', h'[c]? = some (.cells T [.v (.int .i64 s')])) /\ Keep (fun i _ => i = c) h h' := by
 have hkc : k ≠ c := by rintro rfl; rw [hk] at hc; cases hc
 refine k307.gives (by simp) ?_
 simp -implicitDefEqProofs only [go_sem, c307, r307]
 refine aI hC (h320 cQ l i j hi hj k c T s h hk hc) fun x h1 ⟨i1, j1, hx, q, ⟨s1, c1⟩, k1⟩ => ?_
 subst hx
 have hk1 := k1.get hk hkc
 have b1 : i1 < l.length /\ j1 < l.length := by omega
 simp -implicitDefEqProofs only [go_sem]
 refine aI hC (h320 cQ l j1 m b1.2 hm k c T s1 h1 hk1 c1) fun x h2 ⟨j2, m2, hx, q2, ⟨s2, c2⟩, k2⟩ => ?_
 subst hx
 have hk2 := k2.get hk1 hkc
 have b2 : j2 < l.length := by omega
 simp -implicitDefEqProofs only [go_sem]
 refine aI hC (h320 cQ l i1 j2 b1.1 b2 k c T s2 h2 hk2 c2) fun x h3 ⟨i3, j3, hx, q3, ⟨s3, c3⟩, k3⟩ => ?_
 subst hx
 simp -implicitDefEqProofs only [go_sem]
 have kk := (k1.trans k2).trans k3
 refine aH kk.1 ⟨j3, rfl, ?_, ⟨s3, c3⟩, kk⟩
 omega
theorem h306 {Q : Int -> Pr} {cf : FuncId} {cc : Int -> Int -> Int} (cQ : Cmp GL Q cf cc) (l : List Int) (i : Nat) (hi : 0 < i /\ i + 1 < l.length) (hl : l.length < 2 ^ 40) (k c : Nat) (T : TypeId) (s : Int) (h : List AObj) (hk : h[k]? = some (.buf 60 3 (l.map (encQ Q)))) (hc : h[c]? = some (.cells T [.v (.int .i64 s)])) :
  Gives (PC GL) 306 [.vec k 3 l.length, .i i, .ref c 0, .fn (.func cf) [] []] h fun x h' => ∃ p : Nat, x = .i p /\ (i - 1 <= p /\ p <= i + 1) /\ (∃ s', h'[c]? = some (.cells T [.v (.int .i64 s')])) /\ Keep (fun i _ => i = c) h h' := by
 have w1 : IntKind.i64.wrap ((i : Int) - 1) = ((i - 1 : Nat) : Int) := by rw [aD _ (by omega)]; omega
 have w2 : IntKind.i64.wrap ((i : Int) + 1) = ((i + 1 : Nat) : Int) := by rw [aD _ (by omega)]; omega
 refine k306.gives (by simp) ?_
 simp -implicitDefEqProofs only [go_sem, c306, r306, w1, w2]
 refine aI hC (h307 cQ l (i - 1) i (i + 1) (by omega) (by omega) (by omega) k c T s h hk hc) fun x h1 ⟨p, hx, q, c1, k1⟩ => ?_
 subst hx
 simp -implicitDefEqProofs only [go_sem]
 exact aH k1.1 ⟨p, rfl, by omega, c1, k1⟩
theorem h267 {Q : Int -> Pr} {cf : FuncId} {cc : Int -> Int -> Int} (_cQ : Cmp GL Q cf cc) (l0 : List Int) (a b : Nat) (hab : a < b) (hb : b <= l0.length) (hl : l0.length < 2 ^ 40) (k : Nat) (h : List AObj) (hk : h[k]? = some (.buf 60 3 (l0.map (encQ Q)))) :
  Gives (PC GL) 267 [.vec k 3 l0.length, .i a, .i b, .fn (.func cf) [] []] h fun _ h' => ∃ l', SegP a b l0 l' /\ h'[k]? = some (.buf 60 3 (l'.map (encQ Q))) /\ Keep (fun i _ => i = k) h h' := by
 have w1 : IntKind.i64.wrap ((b : Int) - 1) = ((b - 1 - 0 : Nat) : Int) := by rw [aD _ (by omega)]; omega
 refine k267.gives (by simp) ?_
 simp -implicitDefEqProofs only [go_sem, c267, r267, w1]
 refine aV hC (fun t (_ : List Int) => [(8, .i ((a + t : Nat) : Int)), (9, .i ((b - 1 - t : Nat) : Int)), (0, .vec k 3 l0.length), (3, .fn (.func cf) [] [])]) (fun t l h' => SegP a b l0 l /\ h'[k]? = some (.buf 60 3 (l.map (encQ Q))) /\ Keep (fun i _ => i = k) h h') (b - 1 - a) ⟨l0, h, Wk.pick (Ak _) (by simp [go_sem]), SegP.refl _ _ _, hk, Keep.refl _ _⟩ fun t l h1 ht ⟨g1, g2, g3⟩ => ?_
 simp -implicitDefEqProofs only [go_sem]
 have hlen : l0.length = l.length := g1.1.symm
 refine aK (fun hlt => ?_) (fun hlt => ?_)
 ·have hlt : a + t < b - 1 - t := by have := Cc hlt; omega
  have w2 : IntKind.i64.wrap (((a + t : Nat) : Int) + 1) = ((a + (t + 1) : Nat) : Int) := by rw [aD _ (by omega)]; omega
  have w3 : IntKind.i64.wrap (((b - 1 - t : Nat) : Int) - 1) = ((b - 1 - (t + 1) : Nat) : Int) := by rw [aD _ (by omega)]; omega
  have hi : a + t < l.length := by omega
  have hj : b - 1 - t < l.length := by omega
  have ht1 : t < b - 1 - a := by omega
  have hsw := SegP.swp (l := l) (a := a) (b := b) (i := a + t) (j := b - 1 - t) (by omega) (by omega) (by omega)
  generalize hp : a + t = p at *
  generalize hq : b - 1 - t = q at *
  have e1 := aP (Q := Q) hi
  have e2 := aP (Q := Q) hj
  simp -implicitDefEqProofs only [go_sem, g2, hlen, bnd hi, bnd hj, e1, e2, aG g2, bP (Q := Q) hj, w2, w3, Af, As, aJ, Ae, true_and, aU, bG, Bg, bM]
  exact ⟨ht1, swp l p q, _, Wk.pick (by simpa using g3.1) (by simp [go_sem]), g1.trans hsw, aG g2, g3.trans (Keep.set _ g2 rfl)⟩
 ·simp -implicitDefEqProofs only [go_sem]
  exact aH g3.1 ⟨l, g1, g2, g3⟩
theorem h266 {Q : Int -> Pr} {cf : FuncId} {cc : Int -> Int -> Int} (cQ : Cmp GL Q cf cc) (l : List Int) (a b : Nat) (hab : a + 12 < b) (hb : b <= l.length) (hl : l.length < 2 ^ 40) (k : Nat) (h : List AObj) (hk : h[k]? = some (.buf 60 3 (l.map (encQ Q)))) :
  Gives (PC GL) 266 [.vec k 3 l.length, .i a, .i b, .fn (.func cf) [] []] h fun x h' => ∃ (p : Nat) (z : Int), x = .tup [.i p, .i z] /\ (a <= p /\ p < b) /\ Keep All h h' := by
 obtain ⟨L, hL⟩ : ∃ L : Nat, L = b - a := ⟨_, rfl⟩
 have wL : IntKind.i64.wrap ((b : Int) - (a : Int)) = (L : Int) := by rw [aD _ (by omega)]; omega
 have wq : IntKind.i64.wrap (Int.tdiv (L : Int) 4) = ((L / 4 : Nat) : Int) := by
  rw [show Int.tdiv (L : Int) 4 = ((L / 4 : Nat) : Int) from by rw [Dg (by omega)]; omega]
  exact aD _ (by omega)
 have wm : ∀ n : Nat, n <= 3 -> IntKind.i64.wrap (((L / 4 : Nat) : Int) * (n : Int)) = ((L / 4 * n : Nat) : Int) := fun n hn => by
  have : L / 4 * n <= L / 4 * 3 := Es _ hn
  have e : ((L / 4 : Nat) : Int) * (n : Int) = ((L / 4 * n : Nat) : Int) := by rw [Int.natCast_mul]
  rw [e]; exact aD _ (by omega)
 have wa : ∀ n : Nat, n <= 3 -> IntKind.i64.wrap ((a : Int) + ((L / 4 * n : Nat) : Int)) = ((a + L / 4 * n : Nat) : Int) := fun n hn => by
  have : L / 4 * n <= L / 4 * 3 := Es _ hn
  rw [aD _ (by omega)]; omega
 have m1 := wm 1 (by omega)
 have m2 := wm 2 (by omega)
 have m3 := wm 3 (by omega)
 have a1 := wa 1 (by omega)
 have a2 := wa 2 (by omega)
 have a3 := wa 3 (by omega)
 simp only [Int.cast_ofNat_Int] at m1 m2 m3
 have d8 : decide ((L : Int) >= 8) = true := Ac (by omega)
 generalize hi1 : a + L / 4 * 1 = i1 at *
 generalize hi2 : a + L / 4 * 2 = i2 at *
 generalize hi3 : a + L / 4 * 3 = i3 at *
 refine k266.gives (by simp) ?_
 simp -implicitDefEqProofs only [go_sem, c266, r266, wL, wq, show ((4 : Int) = 0) = False from by simp, if_false]
 have bi1 : a <= i1 /\ i1 < b := by omega
 have bi2 : a <= i2 /\ i2 < b := by omega
 have bi3 : a <= i3 /\ i3 < b := by omega
 simp -implicitDefEqProofs only [go_sem, d8, m1, m2, m3, a1, a2, a3]
 have kk0 : Keep All h (h ++ [.cells 3 [.v (.int .i64 0)]]) := Keep.app _ _ _
 have hk0 : (h ++ [AObj.cells 3 [.v (.int .i64 0)]])[k]? = some (.buf 60 3 (l.map (encQ Q))) := aF hk
 have hc0 : (h ++ [AObj.cells 3 [.v (.int .i64 0)]])[h.length]? = some (.cells 3 [.v (.int .i64 0)]) := by rw [cP]; rfl
 have hkc : k ≠ h.length := by have := aW hk; omega
 generalize hh0 : h ++ [AObj.cells 3 [.v (.int .i64 0)]] = g0 at kk0 hk0 hc0 ⊢
 by_cases h50 : 50 <= L
 ·have d50 : decide ((L : Int) >= 50) = true := Ac (by omega)
  simp -implicitDefEqProofs only [go_sem, d50]
  refine aI hC (h306 cQ l i1 (by omega) hl k h.length 3 0 g0 hk0 hc0) fun x g1 ⟨j1, hx, hj1, ⟨s1, c1⟩, k1⟩ => ?_
  subst hx
  have hk1 := k1.get hk0 hkc
  simp -implicitDefEqProofs only [go_sem]
  refine aI hC (h306 cQ l i2 (by omega) hl k h.length 3 s1 g1 hk1 c1) fun x g2 ⟨j2, hx, hj2, ⟨s2, c2⟩, k2⟩ => ?_
  subst hx
  have hk2 := k2.get hk1 hkc
  simp -implicitDefEqProofs only [go_sem]
  refine aI hC (h306 cQ l i3 (by omega) hl k h.length 3 s2 g2 hk2 c2) fun x g3 ⟨j3, hx, hj3, ⟨s3, c3⟩, k3⟩ => ?_
  subst hx
  have hk3 := k3.get hk2 hkc
  have kk3 : Keep All h g3 := kk0.trans' ((k1.trans k2).trans k3) fun i o hi e => by have := aW hi; omega
  clear k1 k2 k3 c1 c2 hk1 hk2 kk0
  have bj1 : a <= j1 /\ j1 < b := by omega
  have bj2 : a <= j2 /\ j2 < b := by omega
  have bj3 : a <= j3 /\ j3 < b := by omega
  clear bi1 bi2 bi3 a1 a2 a3 hi1 hi2 hi3 hj1 hj2 hj3
  simp -implicitDefEqProofs only [go_sem]
  revert bj1 bj2 bj3 kk3 hk3 c3
  generalize j1 = i1; generalize j2 = i2; generalize j3 = i3; generalize g3 = h1; generalize s3 = s1
  intro hc1 hk1 kk1 bi1 bi2 bi3
  refine aI hC (h307 cQ l i1 i2 i3 (by omega) (by omega) (by omega) k h.length 3 s1 h1 hk1 hc1) fun x h2 ⟨p, hx, hp, ⟨s2, hc2⟩, k2⟩ => ?_
  subst hx
  have kk : Keep All h h2 := kk1.trans' k2 fun i o hi e => by have := aW hi; omega
  have hpb : a <= p /\ p < b := by omega
  simp -implicitDefEqProofs only [go_sem, hc2]
  by_cases z0 : s2 = 0
  ·have d0 : (s2 == 0) = true := by simpa using z0
   simp -implicitDefEqProofs only [go_sem, d0]
   exact aH kk.1 ⟨p, 1, rfl, hpb, kk⟩
  have d0 : (s2 == 0) = false := by simpa using z0
  by_cases z1 : s2 = 12
  ·have d1 : (s2 == 12) = true := by simpa using z1
   simp -implicitDefEqProofs only [go_sem, d0, d1]
   exact aH kk.1 ⟨p, 2, rfl, hpb, kk⟩
  have d1 : (s2 == 12) = false := by simpa using z1
  simp -implicitDefEqProofs only [go_sem, d0, d1]
  exact aH kk.1 ⟨p, 0, rfl, hpb, kk⟩
 ·have d50 : decide ((L : Int) >= 50) = false := Ai (by omega)
  simp -implicitDefEqProofs only [go_sem, d50]
  have hk1 := hk0
  have hc1 := hc0
  have kk1 := kk0
  obtain ⟨s1, hs1⟩ : ∃ s1 : Int, s1 = 0 := ⟨0, rfl⟩
  rw [<- hs1] at hc1
  generalize g0 = h1 at *
  refine aI hC (h307 cQ l i1 i2 i3 (by omega) (by omega) (by omega) k h.length 3 s1 h1 hk1 hc1) fun x h2 ⟨p, hx, hp, ⟨s2, hc2⟩, k2⟩ => ?_
  subst hx
  have kk : Keep All h h2 := kk1.trans' k2 fun i o hi e => by have := aW hi; omega
  have hpb : a <= p /\ p < b := by omega
  simp -implicitDefEqProofs only [go_sem, hc2]
  by_cases z0 : s2 = 0
  ·have d0 : (s2 == 0) = true := by simpa using z0
   simp -implicitDefEqProofs only [go_sem, d0]
   exact aH kk.1 ⟨p, 1, rfl, hpb, kk⟩
  have d0 : (s2 == 0) = false := by simpa using z0
  by_cases z1 : s2 = 12
  ·have d1 : (s2 == 12) = true := by simpa using z1
   simp -implicitDefEqProofs only [go_sem, d0, d1]
   exact aH kk.1 ⟨p, 2, rfl, hpb, kk⟩
  have d1 : (s2 == 12) = false := by simpa using z1
  simp -implicitDefEqProofs only [go_sem, d0, d1]
  exact aH kk.1 ⟨p, 0, rfl, hpb, kk⟩
theorem h303 {Q : Int -> Pr} {cf : FuncId} {cc : Int -> Int -> Int} (cQ : Cmp GL Q cf cc) (l0 : List Int) (lo hi f : Nat) (hb : f + hi <= l0.length) (hl : l0.length < 2 ^ 40) (hlo : lo < 2 ^ 40) (hh : Heap (lo + 1) hi f l0) (k : Nat) (h : List AObj) (hk : h[k]? = some (.buf 60 3 (l0.map (encQ Q)))) :
  Gives (PC GL) 303 [.vec k 3 l0.length, .i lo, .i hi, .i f, .fn (.func cf) [] []] h fun _ h' => ∃ l', SegP f (f + hi) l0 l' /\ Heap lo hi f l' /\ h'[k]? = some (.buf 60 3 (l'.map (encQ Q))) /\ Keep (fun i _ => i = k) h h' := by
 refine k303.gives (by simp) ?_
 simp -implicitDefEqProofs only [go_sem, c303, r303]
 refine aV hC (fun t (a : List Int × Nat) => [(10, .i (a.2 : Nat)), (0, .vec k 3 l0.length), (2, .i hi), (3, .i f), (4, .fn (.func cf) [] [])]) (fun t a h' => SegP f (f + hi) l0 a.1 /\ HeapBut lo hi f a.2 a.1 /\ h'[k]? = some (.buf 60 3 (a.1.map (encQ Q))) /\ Keep (fun i _ => i = k) h h' /\ lo + t <= a.2 /\ a.2 < 2 ^ 40) (hi - lo) ⟨(l0, lo), h, Wk.pick (Ak _) (by simp [go_sem]), SegP.refl _ _ _, HeapBut.start hh, hk, Keep.refl _ _, Ak _, hlo⟩ fun t a h1 ht ⟨g1, g2, g3, g4, g5, g6⟩ => ?_
 obtain ⟨l, r⟩ := a
 dsimp only at g1 g2 g3 g5 g6
 have hlen : l0.length = l.length := g1.1.symm
 have w1 : IntKind.i64.wrap (2 * (r : Int)) = ((2 * r : Nat) : Int) := by rw [aD _ (by omega)]; omega
 have w2 : IntKind.i64.wrap (((2 * r : Nat) : Int) + 1) = ((2 * r + 1 : Nat) : Int) := by rw [aD _ (by omega)]; omega
 have w3 : IntKind.i64.wrap (((2 * r + 1 : Nat) : Int) + 1) = ((2 * r + 2 : Nat) : Int) := by rw [aD _ (by omega)]; omega
 have wf : ∀ x : Nat, x < 2 ^ 42 -> IntKind.i64.wrap ((f : Int) + (x : Int)) = ((f + x : Nat) : Int) := fun x hx => by rw [aD _ (by omega)]; omega
 have wr := wf r (by omega)
 have wc1 := wf (2 * r + 1) (by omega)
 have wc2 := wf (2 * r + 2) (by omega)
 have wc3 : IntKind.i64.wrap (((f + (2 * r + 1) : Nat) : Int) + 1) = ((f + (2 * r + 2) : Nat) : Int) := by rw [aD _ (by omega)]; omega
 simp -implicitDefEqProofs only [go_sem, w1, w2]
 by_cases hch : 2 * r + 1 >= hi
 ·have d1 : decide (((2 * r + 1 : Nat) : Int) >= (hi : Int)) = true := Ac (by omega)
  simp -implicitDefEqProofs only [go_sem, d1]
  exact aH g4.1 ⟨l, g1, g2.done fun c hc hci => by unfold Kid at hc; omega, g3, g4⟩
 have d1 : decide (((2 * r + 1 : Nat) : Int) >= (hi : Int)) = false := Ai (by omega)
 have er := aP (Q := Q) (l := l) (i := f + r) (by omega)
 have ec1 := aP (Q := Q) (l := l) (i := f + (2 * r + 1)) (by omega)
 have br := bnd (i := f + r) (n := l.length) (by omega)
 have bc1 := bnd (i := f + (2 * r + 1)) (n := l.length) (by omega)
 simp -implicitDefEqProofs only [go_sem, d1, w3]
 by_cases hc2 : 2 * r + 2 < hi
 ·have d2 : decide (((2 * r + 2 : Nat) : Int) < (hi : Int)) = true := Ac (by omega)
  have ec2 := aP (Q := Q) (l := l) (i := f + (2 * r + 2)) (by omega)
  have bc2 := bnd (i := f + (2 * r + 2)) (n := l.length) (by omega)
  simp -implicitDefEqProofs only [go_sem, d2, wc1, wc3, g3, hlen, bc1, bc2, ec1, ec2, Af, aJ, Ae, true_and, aU]
  refine aC hC (cQ.p _ _) ?_
  simp -implicitDefEqProofs only [go_sem, cQ.d]
  by_cases hlc : l.getD (f + (2 * r + 1)) 0 < l.getD (f + (2 * r + 2)) 0
  ·have d3 := Ac hlc
   simp -implicitDefEqProofs only [go_sem, d3, w3]
   obtain ⟨m, hmd⟩ : ∃ m, m = 2 * r + 2 := ⟨_, rfl⟩
   have hm : Kid r m := .inr hmd
   have hmi : m < hi := by omega
   have hmax : ∀ c, Kid r c -> c < hi -> l.getD (f + c) 0 <= l.getD (f + m) 0 := fun c hc _ => by
    subst hmd
    rcases hc with rfl | rfl
    ·omega
    ·exact Da _
   simp only [<- hmd]
   have em := aP (Q := Q) (l := l) (i := f + m) (by omega)
   have bm := bnd (i := f + m) (n := l.length) (by omega)
   have wm := wf m (by omega)
   have hml : f + m < l.length := by omega
   simp -implicitDefEqProofs only [go_sem, wr, wm, g3, br, bm, er, em, Af, aJ, Ae, true_and, aU]
   refine aC hC (cQ.p _ _) ?_
   simp -implicitDefEqProofs only [go_sem, cQ.d]
   by_cases hlt : l.getD (f + r) 0 < l.getD (f + m) 0
   ·have d := Ac hlt
    simp -implicitDefEqProofs only [go_sem, d, Av, wr, wm, g3, br, bm, er, em, aG g3, bP (Q := Q) hml, Af, As, aJ, Ae, true_and, aU, bG, Bg, bM]
    exact ⟨by omega, (swp l (f + r) (f + m), m), _, Wk.pick (by simpa using g4.1) (by simp [go_sem]), g1.trans (SegP.swp (by omega) (by omega) (by omega)), g2.step (by omega) hm hmi (by omega) hlt hmax, aG g3, g4.trans (Keep.set _ g3 rfl), by dsimp only; unfold Kid at hm; omega, by dsimp only; omega⟩
   ·have d := Ai hlt
    simp -implicitDefEqProofs only [go_sem, d, Ax]
    exact aH g4.1 ⟨l, g1, g2.done fun c hc hci => by have := hmax c hc hci; omega, g3, g4⟩
  ·have d3 := Ai hlc
   simp -implicitDefEqProofs only [go_sem, d3]
   obtain ⟨m, hmd⟩ : ∃ m, m = 2 * r + 1 := ⟨_, rfl⟩
   have hm : Kid r m := .inl hmd
   have hmi : m < hi := by omega
   have hmax : ∀ c, Kid r c -> c < hi -> l.getD (f + c) 0 <= l.getD (f + m) 0 := fun c hc _ => by
    subst hmd
    rcases hc with rfl | rfl
    ·exact Da _
    ·omega
   simp only [<- hmd]
   have em := aP (Q := Q) (l := l) (i := f + m) (by omega)
   have bm := bnd (i := f + m) (n := l.length) (by omega)
   have wm := wf m (by omega)
   have hml : f + m < l.length := by omega
   simp -implicitDefEqProofs only [go_sem, wr, wm, g3, br, bm, er, em, Af, aJ, Ae, true_and, aU]
   refine aC hC (cQ.p _ _) ?_
   simp -implicitDefEqProofs only [go_sem, cQ.d]
   by_cases hlt : l.getD (f + r) 0 < l.getD (f + m) 0
   ·have d := Ac hlt
    simp -implicitDefEqProofs only [go_sem, d, Av, wr, wm, g3, br, bm, er, em, aG g3, bP (Q := Q) hml, Af, As, aJ, Ae, true_and, aU, bG, Bg, bM]
    exact ⟨by omega, (swp l (f + r) (f + m), m), _, Wk.pick (by simpa using g4.1) (by simp [go_sem]), g1.trans (SegP.swp (by omega) (by omega) (by omega)), g2.step (by omega) hm hmi (by omega) hlt hmax, aG g3, g4.trans (Keep.set _ g3 rfl), by dsimp only; unfold Kid at hm; omega, by dsimp only; omega⟩
   ·have d := Ai hlt
    simp -implicitDefEqProofs only [go_sem, d, Ax]
    exact aH g4.1 ⟨l, g1, g2.done fun c hc hci => by have := hmax c hc hci; omega, g3, g4⟩
 ·have d2 : decide (((2 * r + 2 : Nat) : Int) < (hi : Int)) = false := Ai (by omega)
  simp -implicitDefEqProofs only [go_sem, d2]
  obtain ⟨m, hmd⟩ : ∃ m, m = 2 * r + 1 := ⟨_, rfl⟩
  have hm : Kid r m := .inl hmd
  have hmi : m < hi := by omega
  have hmax : ∀ c, Kid r c -> c < hi -> l.getD (f + c) 0 <= l.getD (f + m) 0 := fun c hc hci => by
   subst hmd
   rcases hc with rfl | rfl
   ·exact Da _
   ·omega
  simp only [<- hmd]
  have em := aP (Q := Q) (l := l) (i := f + m) (by omega)
  have bm := bnd (i := f + m) (n := l.length) (by omega)
  have wm := wf m (by omega)
  have hml : f + m < l.length := by omega
  simp -implicitDefEqProofs only [go_sem, wr, wm, g3, hlen, br, bm, er, em, Af, aJ, Ae, true_and, aU]
  refine aC hC (cQ.p _ _) ?_
  simp -implicitDefEqProofs only [go_sem, cQ.d]
  by_cases hlt : l.getD (f + r) 0 < l.getD (f + m) 0
  ·have d := Ac hlt
   simp -implicitDefEqProofs only [go_sem, d, Av, wr, wm, g3, br, bm, er, em, aG g3, bP (Q := Q) hml, Af, As, aJ, Ae, true_and, aU, bG, Bg, bM]
   exact ⟨by omega, (swp l (f + r) (f + m), m), _, Wk.pick (by simpa using g4.1) (by simp [go_sem]), g1.trans (SegP.swp (by omega) (by omega) (by omega)), g2.step (by omega) hm hmi (by omega) hlt hmax, aG g3, g4.trans (Keep.set _ g3 rfl), by dsimp only; unfold Kid at hm; omega, by dsimp only; omega⟩
  ·have d := Ai hlt
   simp -implicitDefEqProofs only [go_sem, d, Ax]
   exact aH g4.1 ⟨l, g1, g2.done fun c hc hci => by have := hmax c hc hci; omega, g3, g4⟩
theorem h264 {Q : Int -> Pr} {cf : FuncId} {cc : Int -> Int -> Int} (cQ : Cmp GL Q cf cc) (l0 : List Int) (a b : Nat) (hab : a < b) (hb : b <= l0.length) (hl : l0.length < 2 ^ 40) (k : Nat) (h : List AObj) (hk : h[k]? = some (.buf 60 3 (l0.map (encQ Q)))) :
  Gives (PC GL) 264 [.vec k 3 l0.length, .i a, .i b, .fn (.func cf) [] []] h fun _ h' => ∃ l', SegP a b l0 l' /\ Srt a b l' /\ h'[k]? = some (.buf 60 3 (l'.map (encQ Q))) /\ Keep (fun i _ => i = k) h h' := by
 obtain ⟨n, rfl⟩ : ∃ n, b = a + (n + 1) := ⟨b - a - 1, by omega⟩
 have w1 : IntKind.i64.wrap (((a + (n + 1) : Nat) : Int) - (a : Int)) = ((n + 1 : Nat) : Int) := by rw [aD _ (by omega)]; omega
 have w2 : IntKind.i64.wrap (((n + 1 : Nat) : Int) - 1) = (n : Int) := by rw [aD _ (by omega)]; omega
 have w3 : IntKind.i64.wrap (Int.tdiv (n : Int) 2) = ((n / 2 : Nat) : Int) := by
  rw [show Int.tdiv (n : Int) 2 = ((n / 2 : Nat) : Int) from by rw [Dg (by omega)]; omega]
  exact aD _ (by omega)
 refine k264.gives (by simp) ?_
 simp -implicitDefEqProofs only [go_sem, c264, r264, w1, w2, w3, show ((2 : Int) = 0) = False from by simp, if_false]
 refine aV hC (fun t (_ : List Int) => [(11, .i (((n / 2 : Nat) : Int) - (t : Int))), (0, .vec k 3 l0.length), (10, .i ((n + 1 : Nat) : Int)), (8, .i a), (9, .i 0), (3, .fn (.func cf) [] [])]) (fun t l h' => SegP a (a + (n + 1)) l0 l /\ Heap (n / 2 + 1 - t) (n + 1) a l /\ h'[k]? = some (.buf 60 3 (l.map (encQ Q))) /\ Keep (fun i _ => i = k) h h') (n / 2 + 1) ⟨l0, h, Wk.pick (Ak _) (by simp [go_sem]), SegP.refl _ _ _, fun i c h1 h2 h3 => by unfold Kid at h2; omega, hk, Keep.refl _ _⟩ fun t l h1 ht ⟨g1, g2, g3, g4⟩ => ?_
 have hlen : l0.length = l.length := g1.1.symm
 simp -implicitDefEqProofs only [go_sem]
 by_cases hlt : t <= n / 2
 ·have d1 : decide (((n / 2 : Nat) : Int) - (t : Int) >= 0) = true := Ac (by omega)
  obtain ⟨i, hi⟩ : ∃ i : Nat, i = n / 2 - t := ⟨_, rfl⟩
  have ei : ((n / 2 : Nat) : Int) - (t : Int) = (i : Int) := by omega
  have w4 : IntKind.i64.wrap ((i : Int) - 1) = ((n / 2 : Nat) : Int) - ((t + 1 : Nat) : Int) := by rw [aD _ (by omega)]; omega
  rw [ei] at d1
  simp -implicitDefEqProofs only [go_sem, ei, d1, hlen]
  refine aI hC (h303 cQ l i (n + 1) a (by omega) (by omega) (by omega) (by rw [show i + 1 = n / 2 + 1 - t by omega]; exact g2) k h1 g3) fun x h2 ⟨l2, q1, q2, q3, q4⟩ => ?_
  simp -implicitDefEqProofs only [go_sem, w4]
  exact ⟨by omega, l2, h2, Wk.pick (g4.trans q4).1 (by simp [go_sem]), g1.trans q1, by rw [show n / 2 + 1 - (t + 1) = i by omega]; exact q2, q3, g4.trans q4⟩
 have d1 : decide (((n / 2 : Nat) : Int) - (t : Int) >= 0) = false := Ai (by omega)
 have g2' : Heap 0 (n + 1) a l := by have := g2; rwa [show n / 2 + 1 - t = 0 by omega] at this
 simp -implicitDefEqProofs only [go_sem, d1, w2]
 refine aV hC (fun t (_ : List Int) => [(12, .i ((n : Int) - (t : Int))), (0, .vec k 3 l0.length), (8, .i a), (9, .i 0), (3, .fn (.func cf) [] [])]) (fun t l h' => SegP a (a + (n + 1)) l0 l /\ Popped (n + 1 - t) (n + 1) a l /\ h'[k]? = some (.buf 60 3 (l.map (encQ Q))) /\ Keep (fun i _ => i = k) h h') (n + 1) ⟨l, h1, Wk.pick g4.1 (by simp [go_sem]), g1, ⟨g2', fun p q _ _ _ => by omega, fun x y _ _ _ => by omega⟩, g3, g4⟩ fun t l h1 ht ⟨g1, g2, g3, g4⟩ => ?_
 have hlen : l0.length = l.length := g1.1.symm
 simp -implicitDefEqProofs only [go_sem]
 by_cases hlt : t <= n
 ·have d1 : decide ((n : Int) - (t : Int) >= 0) = true := Ac (by omega)
  obtain ⟨i, hi⟩ : ∃ i : Nat, i = n - t := ⟨_, rfl⟩
  have ei : (n : Int) - (t : Int) = (i : Int) := by omega
  have w4 : IntKind.i64.wrap ((i : Int) - 1) = (n : Int) - ((t + 1 : Nat) : Int) := by rw [aD _ (by omega)]; omega
  have w5 : IntKind.i64.wrap ((a : Int) + (i : Int)) = ((a + i : Nat) : Int) := by rw [aD _ (by omega)]; omega
  have hal : a < l.length := by omega
  have hil : a + i < l.length := by omega
  have e1 := aP (Q := Q) hal
  have e2 := aP (Q := Q) hil
  rw [show n + 1 - t = i + 1 by omega] at g2
  rw [ei] at d1
  simp -implicitDefEqProofs only [go_sem, ei, d1, hlen, w5, g3, bnd hal, bnd hil, e1, e2, aG g3, bP (Q := Q) hil, Af, As, aJ, Ae, true_and, aU, bG, Bg, bM]
  have hsw : SegP a (a + (n + 1)) l (swp l a (a + i)) := SegP.swp (by omega) (by omega) (by omega)
  have hls : l.length = (swp l a (a + i)).length := (cG _ _ _).symm
  rw [hls]
  refine aI hC (h303 cQ (swp l a (a + i)) 0 i a (by rw [cG]; omega) (by rw [cG]; omega) (by omega) (g2.1.swp hil) k _ (aG g3)) fun x h2 ⟨l2, q1, q2, q3, q4⟩ => ?_
  simp -implicitDefEqProofs only [go_sem, w4]
  have kk := (g4.trans (Keep.set (.buf 60 3 ((swp l a (a + i)).map (encQ Q))) g3 rfl)).trans q4
  refine ⟨by omega, l2, h2, Wk.pick kk.1 (by simp [go_sem]), (g1.trans hsw).trans (q1.mono (by omega) (by omega)), ?_, q3, kk⟩
  rw [show n + 1 - (t + 1) = i by omega]
  exact g2.step (by omega) (by omega) q1 q2
 ·have d1 : decide ((n : Int) - (t : Int) >= 0) = false := Ai (by omega)
  simp -implicitDefEqProofs only [go_sem, d1]
  refine aH g4.1 ⟨l, g1, fun p q hp hpq hq => ?_, g3, g4⟩
  exact g2.2.1 p q (by omega) hpq hq
theorem h265 {Q : Int -> Pr} {cf : FuncId} {cc : Int -> Int -> Int} (_cQ : Cmp GL Q cf cc) (l0 : List Int) (a b : Nat) (hab : a + 12 < b) (hb : b <= l0.length) (hl : l0.length < 2 ^ 24) (k : Nat) (h : List AObj) (hk : h[k]? = some (.buf 60 3 (l0.map (encQ Q)))) :
  Gives (PC GL) 265 [.vec k 3 l0.length, .i a, .i b, .fn (.func cf) [] []] h fun _ h' => ∃ l', SegP a b l0 l' /\ h'[k]? = some (.buf 60 3 (l'.map (encQ Q))) /\ Keep (fun i _ => i = k) h h' := by
 obtain ⟨L, hL⟩ : ∃ L : Nat, L = b - a := ⟨_, rfl⟩
 obtain ⟨M, hM, q304⟩ := h304 (GL := GL) L (by omega)
 have wL : IntKind.i64.wrap ((b : Int) - (a : Int)) = (L : Int) := by rw [aD _ (by omega)]; omega
 have wU := u64w L (by omega)
 have wq : IntKind.i64.wrap (Int.tdiv (L : Int) 4) = ((L / 4 : Nat) : Int) := by
  rw [show Int.tdiv (L : Int) 4 = ((L / 4 : Nat) : Int) from by rw [Dg (by omega)]; omega]
  exact aD _ (by omega)
 have wm : IntKind.i64.wrap (((L / 4 : Nat) : Int) * 2) = ((L / 4 * 2 : Nat) : Int) := by rw [aD _ (by omega)]; omega
 have wa : IntKind.i64.wrap ((a : Int) + ((L / 4 * 2 : Nat) : Int)) = ((a + L / 4 * 2 : Nat) : Int) := by rw [aD _ (by omega)]; omega
 obtain ⟨q, hq⟩ : ∃ q : Nat, q = a + L / 4 * 2 - 1 := ⟨_, rfl⟩
 have ws : IntKind.i64.wrap (((a + L / 4 * 2 : Nat) : Int) - 1) = ((q + 0 : Nat) : Int) := by rw [aD _ (by omega)]; omega
 have wt : IntKind.i64.wrap (((a + L / 4 * 2 : Nat) : Int) + 1) = ((q + 2 : Nat) : Int) := by rw [aD _ (by omega)]; omega
 have d8 : decide ((L : Int) >= 8) = true := Ac (by omega)
 have wM : IntKind.u64.wrap ((M : Int) - 1) = ((M - 1 : Nat) : Int) := by rw [show (M : Int) - 1 = ((M - 1 : Nat) : Int) by omega]; exact u64w _ (by omega)
 have n4 : ((4 : Int) = 0) = False := by simp
 refine k265.gives (by simp) ?_
 simp -implicitDefEqProofs only [go_sem, c265, r265, wL, d8, wU]
 have hkc : k ≠ h.length := by have := aW hk; omega
 refine aC hC q304 ?_
 simp -implicitDefEqProofs only [go_sem, wq, wm, wa, ws, n4, if_false]
 refine aV hC (fun t (_ : List Int × Int) => [(11, .i ((q + t : Nat) : Int)), (0, .vec k 3 l0.length), (1, .i a), (8, .i L), (9, .ref h.length 0), (10, .v (.int .u64 M)), (3, .fn (.func cf) [] [])]) (fun t a' h' => SegP a b l0 a'.1 /\ h'[k]? = some (.buf 60 3 (a'.1.map (encQ Q))) /\ h'[h.length]? = some (.cells 296 [.v (.int .u64 a'.2)]) /\ Keep (fun i _ => i = k) h h') 3 ⟨(l0, (L : Int)), _, Wk.pick (by simp) (by simp [go_sem]), SegP.refl _ _ _, aF hk, by rw [cP]; rfl, Keep.app _ _ _⟩ fun t a' h1 ht ⟨g1, g2, g3, g4⟩ => ?_
 obtain ⟨l, r⟩ := a'
 dsimp only at g1 g2 g3
 have hlen : l0.length = l.length := g1.1.symm
 simp -implicitDefEqProofs only [go_sem, wq, wm, wa, wt, n4, if_false]
 by_cases hlt : t < 3
 ·have d1 : decide (((q + t : Nat) : Int) <= ((q + 2 : Nat) : Int)) = true := Ac (by omega)
  have w5 : IntKind.i64.wrap (((q + t : Nat) : Int) + 1) = ((q + (t + 1) : Nat) : Int) := by rw [aD _ (by omega)]; omega
  simp -implicitDefEqProofs only [go_sem, d1]
  refine aI hC (h305 _ 296 r h1 g3) fun x h2 ⟨r2, hx, c2, k2⟩ => ?_
  subst hx
  have b2 := k2.get g2 hkc
  have kk : Keep (fun i _ => i = k) h h2 := g4.trans' k2 fun i o hi e => by have := aW hi; omega
  obtain ⟨o, ho, hob⟩ : ∃ o : Nat, IntKind.i64.wrap (bitAnd .u64 r2 ((M - 1 : Nat) : Int)) = (o : Int) /\ o < 2 * L := by
   have := and_le r2 (M - 1)
   refine ⟨(BitVec.ofInt 64 r2 &&& BitVec.ofInt 64 ((M - 1 : Nat) : Int)).toNat, ?_, by omega⟩
   rw [bitAnd]
   show IntKind.i64.wrap (IntKind.u64.wrap ((BitVec.ofInt 64 r2 &&& BitVec.ofInt 64 ((M - 1 : Nat) : Int)).toNat : Int)) = _
   rw [u64w _ (by omega), aD _ (by omega)]
  have hqt : q + t < l.length := by omega
  have hqb : a <= q + t /\ q + t < b := by omega
  generalize hqq : q + t = e at *
  have e1 := aP (Q := Q) hqt
  simp -implicitDefEqProofs only [go_sem, wM, ho]
  by_cases hoL : o >= L
  ·have d2 : decide ((o : Int) >= (L : Int)) = true := Ac (by omega)
   obtain ⟨p, hp⟩ : ∃ p : Nat, p = o - L := ⟨_, rfl⟩
   have wp : IntKind.i64.wrap ((o : Int) - (L : Int)) = (p : Int) := by rw [aD _ (by omega)]; omega
   simp -implicitDefEqProofs only [go_sem, d2, wp]
   have wap : IntKind.i64.wrap ((a : Int) + (p : Int)) = ((a + p : Nat) : Int) := by rw [aD _ (by omega)]; omega
   have hpl : a + p < l.length := by omega
   have e2 := aP (Q := Q) hpl
   simp -implicitDefEqProofs only [go_sem, wap, b2, hlen, bnd hqt, bnd hpl, e1, e2, aG b2, bP (Q := Q) hpl, w5, Af, As, aJ, Ae, true_and, aU, bG, Bg, bM]
   have c3 := (aS (o := .buf 60 3 ((swp l e (a + p)).map (encQ Q))) hkc).trans c2
   exact ⟨hlt, (swp l e (a + p), r2), _, Wk.pick (by simpa using kk.1) (by simp [go_sem]), g1.trans (SegP.swp (by omega) (by omega) (by omega)), aG b2, c3, kk.trans (Keep.set _ b2 rfl)⟩
  ·have d2 : decide ((o : Int) >= (L : Int)) = false := Ai (by omega)
   obtain ⟨p, hp⟩ : ∃ p : Nat, p = o := ⟨_, rfl⟩
   rw [<- hp] at d2 ho ⊢
   simp -implicitDefEqProofs only [go_sem, d2]
   have wap : IntKind.i64.wrap ((a : Int) + (p : Int)) = ((a + p : Nat) : Int) := by rw [aD _ (by omega)]; omega
   have hpl : a + p < l.length := by omega
   have e2 := aP (Q := Q) hpl
   simp -implicitDefEqProofs only [go_sem, wap, b2, hlen, bnd hqt, bnd hpl, e1, e2, aG b2, bP (Q := Q) hpl, w5, Af, As, aJ, Ae, true_and, aU, bG, Bg, bM]
   have c3 := (aS (o := .buf 60 3 ((swp l e (a + p)).map (encQ Q))) hkc).trans c2
   exact ⟨hlt, (swp l e (a + p), r2), _, Wk.pick (by simpa using kk.1) (by simp [go_sem]), g1.trans (SegP.swp (by omega) (by omega) (by omega)), aG b2, c3, kk.trans (Keep.set _ b2 rfl)⟩
 ·have d1 : decide (((q + t : Nat) : Int) <= ((q + 2 : Nat) : Int)) = false := Ai (by omega)
  simp -implicitDefEqProofs only [go_sem, d1]
  exact aH g4.1 ⟨l, g1, g2, g4⟩
set_option maxHeartbeats 4000000 in
theorem h270 {Q : Int -> Pr} {cf : FuncId} {cc : Int -> Int -> Int} (cQ : Cmp GL Q cf cc) (l0 : List Int) (a b p : Nat) (hab : a + 1 < b) (hb : b <= l0.length) (hl : l0.length < 2 ^ 24) (hp : a <= p /\ p < b) (k : Nat) (h : List AObj) (hk : h[k]? = some (.buf 60 3 (l0.map (encQ Q)))) :
    Gives (PC GL) 270 [.vec k 3 l0.length, .i a, .i b, .i p, .fn (.func cf) [] []] h fun x h' => ∃ (m : Nat) (z : Bool) (l' : List Int), x = .tup [.i m, .b z] /\ SegP a b l0 l' /\ Parted a b m l' /\ h'[k]? = some (.buf 60 3 (l'.map (encQ Q))) /\ Keep (fun i _ => i = k) h h' := by
  have w1 : IntKind.i64.wrap ((a : Int) + 1) = ((a + 1 : Nat) : Int) := by rw [aD _ (by omega)]; omega
  have w2 : IntKind.i64.wrap ((b : Int) - 1) = ((b - 1 : Nat) : Int) := by rw [aD _ (by omega)]; omega
  have ha0 : a < l0.length := by omega
  have hp0 : p < l0.length := by omega
  refine k270.gives (by simp) ?_
  simp -implicitDefEqProofs only [go_sem, c270, r270, hk, bnd ha0, bnd hp0, aP (Q := Q) ha0, aP (Q := Q) hp0, aG hk, bP (Q := Q) hp0, w1, w2, Af, As, aJ, Ae, true_and, aU, bG, Bg, bM]
  have g1 : SegP a b l0 (swp l0 a p) := SegP.swp (by omega) (by omega) hb
  have g3 := aG (o := .buf 60 3 ((swp l0 a p).map (encQ Q))) hk
  have g4 : Keep (fun i _ => i = k) h (h.set k (.buf 60 3 ((swp l0 a p).map (encQ Q)))) := Keep.set _ hk rfl
  have hlen : l0.length = (swp l0 a p).length := g1.1.symm
  have g2 : Part a b (a + 1) (b - 1) (swp l0 a p) := ⟨fun x _ _ => by omega, fun x _ _ => by omega, Ak _, by omega, by omega, by omega⟩
  simp only [hlen]
  generalize swp l0 a p = l at g1 g3 g4 hlen g2 ⊢
  generalize h.set k (.buf 60 3 (l.map (encQ Q))) = h1 at g3 g4 ⊢
  have hal : a < l.length := by omega
  have ea := aP (Q := Q) hal
  generalize hi : a + 1 = i at g2 ⊢
  generalize hj : b - 1 = j at g2 ⊢
  refine aV hC (fun u (_ : Unit) => [(12, .i ((i + u : Nat) : Int)), (13, .i ((j : Nat) : Int)), (0, .vec k 3 l.length), (1, .i a), (4, .fn (.func cf) [] [])]) (fun u (_ : Unit) h' => Part a b (i + u) j l /\ h'[k]? = some (.buf 60 3 (l.map (encQ Q))) /\ Keep (fun i _ => i = k) h h') (b - a) ⟨(), _, Wk.pick (by simpa using g4.1) (by simp [go_sem]), g2, g3, g4⟩ fun u _ h2 hu ⟨g2, g3, g4⟩ => ?_
  have hbd := g2.2.2
  have wi : IntKind.i64.wrap (((i + u : Nat) : Int) + 1) = ((i + (u + 1) : Nat) : Int) := by rw [aD _ (by omega)]; omega
  simp -implicitDefEqProofs only [go_sem]
  by_cases ci : i + u <= j /\ l.getD (i + u) 0 < l.getD a 0
  · have d1 : decide (((i + u : Nat) : Int) <= (j : Int)) = true := Ac (by omega)
    have hil : i + u < l.length := by omega
    simp -implicitDefEqProofs only [go_sem, d1, g3, bnd hal, bnd hil, ea, aP (Q := Q) hil, Af, aJ, Ae, true_and, aU]
    refine aC hC (cQ.p _ _) ?_
    simp -implicitDefEqProofs only [go_sem, cQ.d, Ac ci.2, wi]
    exact ⟨by omega, (), h2, Wk.pick g4.1 (by simp [go_sem]), g2.up ci.1 ci.2, g3, g4⟩
  by_cases c2 : i + u <= j
  all_goals (first
    | (have d1 : decide (((i + u : Nat) : Int) <= (j : Int)) = true := Ac (by omega)
       have hil : i + u < l.length := by omega
       have c3 : ¬ l.getD (i + u) 0 < l.getD a 0 := fun h => ci ⟨c2, h⟩
       simp -implicitDefEqProofs only [go_sem, d1, g3, bnd hal, bnd hil, ea, aP (Q := Q) hil, Af, aJ, Ae, true_and, aU]
       refine aC hC (cQ.p _ _) ?_
       simp -implicitDefEqProofs only [go_sem, cQ.d, Ai c3])
    | (have d1 : decide (((i + u : Nat) : Int) <= (j : Int)) = false := Ai (by omega)
       simp -implicitDefEqProofs only [go_sem, d1]))
  all_goals
    first
      | have g7 : a + 1 + t <= i + u := by omega
      | skip
    clear c2 hu wi hbd
    generalize i + u = i at *
    have hjb0 : j < b := g2.2.2.2.1
    have hai0 : a + 1 <= i := g2.2.2.1
    refine aV hC (fun u (_ : Unit) => [(12, .i ((i : Nat) : Int)), (13, .i ((j - u : Nat) : Int)), (0, .vec k 3 l.length), (1, .i a), (4, .fn (.func cf) [] [])]) (fun u (_ : Unit) h' => u <= j /\ Part a b i (j - u) l /\ h'[k]? = some (.buf 60 3 (l.map (encQ Q))) /\ Keep (fun i _ => i = k) h h') (b - a) ⟨(), _, Wk.pick (by simpa using g4.1) (by simp [go_sem]), Ap _, g2, g3, g4⟩ fun u _ h2 hu ⟨g5, g2, g3, g4⟩ => ?_
    have hbd := g2.2.2
    have hju : j - (u + 1) = j - u - 1 := by omega
    have wj : 1 <= j - u -> IntKind.i64.wrap (((j - u : Nat) : Int) - 1) = ((j - u - 1 : Nat) : Int) := fun h => by rw [aD _ (by omega)]; omega
    simp -implicitDefEqProofs only [go_sem]
    by_cases cj : i <= j - u /\ ¬ l.getD (j - u) 0 < l.getD a 0
    · have d1 : decide ((i : Int) <= ((j - u : Nat) : Int)) = true := Ac (by omega)
      have hjl : j - u < l.length := by omega
      simp -implicitDefEqProofs only [go_sem, d1, g3, bnd hal, bnd hjl, ea, aP (Q := Q) hjl, Af, aJ, Ae, true_and, aU]
      refine aC hC (cQ.p _ _) ?_
      simp -implicitDefEqProofs only [go_sem, cQ.d, Ai cj.2, Ax, wj (by omega), hju]
      exact ⟨by omega, (), h2, Wk.pick g4.1 (by simp [go_sem]), by omega, g2.down cj.1 cj.2, g3, g4⟩
    have cii : i <= j - u -> ¬ l.getD i 0 < l.getD a 0 := fun h hh => ci ⟨by omega, hh⟩
    have cjj : i <= j - u -> l.getD (j - u) 0 < l.getD a 0 := fun h => Bz fun hh => cj ⟨h, hh⟩
    by_cases c2 : i <= j - u
    all_goals (first
      | (have d1 : decide ((i : Int) <= ((j - u : Nat) : Int)) = true := Ac (by omega)
         have hjl : j - u < l.length := by omega
         have c3 : l.getD (j - u) 0 < l.getD a 0 := Bz fun h => cj ⟨c2, h⟩
         simp -implicitDefEqProofs only [go_sem, d1, g3, bnd hal, bnd hjl, ea, aP (Q := Q) hjl, Af, aJ, Ae, true_and, aU]
         refine aC hC (cQ.p _ _) ?_
         simp -implicitDefEqProofs only [go_sem, cQ.d, Ac c3, Av])
      | (have d1 : decide ((i : Int) <= ((j - u : Nat) : Int)) = false := Ai (by omega)
         simp -implicitDefEqProofs only [go_sem, d1]))
    all_goals
      clear c2 hu wj hbd hju g5 ci cj hjb0
      generalize j - u = j at *
      by_cases hij : i <= j
      · have d1 : decide ((i : Int) > (j : Int)) = false := Ai (by omega)
        have hbd := g2.2.2
        have hil : i < l.length := by omega
        have hjl : j < l.length := by omega
        have wi : IntKind.i64.wrap ((i : Int) + 1) = ((i + 1 : Nat) : Int) := by rw [aD _ (by omega)]; omega
        have wj : IntKind.i64.wrap ((j : Int) - 1) = ((j - 1 : Nat) : Int) := by rw [aD _ (by omega)]; omega
        have p2 := g2.swp hij (cii hij) (cjj hij) (by omega)
        have p1 := g1.trans (SegP.swp (i := i) (j := j) (by omega) (by omega) (by omega))
        have p3 := aG (o := .buf 60 3 ((swp l i j).map (encQ Q))) g3
        have p4 := g4.trans (Keep.set (.buf 60 3 ((swp l i j).map (encQ Q))) g3 rfl)
        simp -implicitDefEqProofs only [go_sem, d1, g3, bnd hil, bnd hjl, aP (Q := Q) hil, aP (Q := Q) hjl, aG g3, bP (Q := Q) hjl, wi, wj, Af, As, aJ, Ae, true_and, aU, bG, Bg, bM]
        refine aV hC (fun t (x : List Int × Nat × Nat) => [(12, .i (x.2.1 : Nat)), (13, .i (x.2.2 : Nat)), (0, .vec k 3 l0.length), (1, .i a), (4, .fn (.func cf) [] [])]) (fun t x h' => SegP a b l0 x.1 /\ Part a b x.2.1 x.2.2 x.1 /\ h'[k]? = some (.buf 60 3 (x.1.map (encQ Q))) /\ Keep (fun i _ => i = k) h h' /\ a + 1 + t <= x.2.1) (b - a) ⟨(swp l i j, i + 1, j - 1), _, Wk.pick (by simpa using g4.1) (by simp [go_sem, hlen]), p1, p2, p3, p4, by dsimp only; omega⟩ fun t x h2 ht ⟨g1, g2, g3, g4, g6⟩ => ?_
        clear p1 p2 p3 p4 cii cjj hal ea hlen wi wj hil hjl hbd d1
        obtain ⟨l, i, j⟩ := x
        dsimp only at g1 g2 g3 g6
        have hlen : l0.length = l.length := g1.1.symm
        have hal : a < l.length := by omega
        have ea := aP (Q := Q) hal
        simp only [hlen]
        simp -implicitDefEqProofs only [go_sem]
        refine aV hC (fun u (_ : Unit) => [(12, .i ((i + u : Nat) : Int)), (13, .i ((j : Nat) : Int)), (0, .vec k 3 l.length), (1, .i a), (4, .fn (.func cf) [] [])]) (fun u (_ : Unit) h' => Part a b (i + u) j l /\ h'[k]? = some (.buf 60 3 (l.map (encQ Q))) /\ Keep (fun i _ => i = k) h h') (b - a) ⟨(), _, Wk.pick (by simpa using g4.1) (by simp [go_sem]), g2, g3, g4⟩ fun u _ h2 hu ⟨g2, g3, g4⟩ => ?_
        have hbd := g2.2.2
        have wi : IntKind.i64.wrap (((i + u : Nat) : Int) + 1) = ((i + (u + 1) : Nat) : Int) := by rw [aD _ (by omega)]; omega
        simp -implicitDefEqProofs only [go_sem]
        by_cases ci : i + u <= j /\ l.getD (i + u) 0 < l.getD a 0
        · have d1 : decide (((i + u : Nat) : Int) <= (j : Int)) = true := Ac (by omega)
          have hil : i + u < l.length := by omega
          simp -implicitDefEqProofs only [go_sem, d1, g3, bnd hal, bnd hil, ea, aP (Q := Q) hil, Af, aJ, Ae, true_and, aU]
          refine aC hC (cQ.p _ _) ?_
          simp -implicitDefEqProofs only [go_sem, cQ.d, Ac ci.2, wi]
          exact ⟨by omega, (), h2, Wk.pick g4.1 (by simp [go_sem]), g2.up ci.1 ci.2, g3, g4⟩
        by_cases c2 : i + u <= j
        all_goals (first
          | (have d1 : decide (((i + u : Nat) : Int) <= (j : Int)) = true := Ac (by omega)
             have hil : i + u < l.length := by omega
             have c3 : ¬ l.getD (i + u) 0 < l.getD a 0 := fun h => ci ⟨c2, h⟩
             simp -implicitDefEqProofs only [go_sem, d1, g3, bnd hal, bnd hil, ea, aP (Q := Q) hil, Af, aJ, Ae, true_and, aU]
             refine aC hC (cQ.p _ _) ?_
             simp -implicitDefEqProofs only [go_sem, cQ.d, Ai c3])
          | (have d1 : decide (((i + u : Nat) : Int) <= (j : Int)) = false := Ai (by omega)
             simp -implicitDefEqProofs only [go_sem, d1]))
        all_goals
          first
            | have g7 : a + 1 + t <= i + u := by omega
            | skip
          clear c2 hu wi hbd
          generalize i + u = i at *
          have hjb0 : j < b := g2.2.2.2.1
          have hai0 : a + 1 <= i := g2.2.2.1
          refine aV hC (fun u (_ : Unit) => [(12, .i ((i : Nat) : Int)), (13, .i ((j - u : Nat) : Int)), (0, .vec k 3 l.length), (1, .i a), (4, .fn (.func cf) [] [])]) (fun u (_ : Unit) h' => u <= j /\ Part a b i (j - u) l /\ h'[k]? = some (.buf 60 3 (l.map (encQ Q))) /\ Keep (fun i _ => i = k) h h') (b - a) ⟨(), _, Wk.pick (by simpa using g4.1) (by simp [go_sem]), Ap _, g2, g3, g4⟩ fun u _ h2 hu ⟨g5, g2, g3, g4⟩ => ?_
          have hbd := g2.2.2
          have hju : j - (u + 1) = j - u - 1 := by omega
          have wj : 1 <= j - u -> IntKind.i64.wrap (((j - u : Nat) : Int) - 1) = ((j - u - 1 : Nat) : Int) := fun h => by rw [aD _ (by omega)]; omega
          simp -implicitDefEqProofs only [go_sem]
          by_cases cj : i <= j - u /\ ¬ l.getD (j - u) 0 < l.getD a 0
          · have d1 : decide ((i : Int) <= ((j - u : Nat) : Int)) = true := Ac (by omega)
            have hjl : j - u < l.length := by omega
            simp -implicitDefEqProofs only [go_sem, d1, g3, bnd hal, bnd hjl, ea, aP (Q := Q) hjl, Af, aJ, Ae, true_and, aU]
            refine aC hC (cQ.p _ _) ?_
            simp -implicitDefEqProofs only [go_sem, cQ.d, Ai cj.2, Ax, wj (by omega), hju]
            exact ⟨by omega, (), h2, Wk.pick g4.1 (by simp [go_sem]), by omega, g2.down cj.1 cj.2, g3, g4⟩
          have cii : i <= j - u -> ¬ l.getD i 0 < l.getD a 0 := fun h hh => ci ⟨by omega, hh⟩
          have cjj : i <= j - u -> l.getD (j - u) 0 < l.getD a 0 := fun h => Bz fun hh => cj ⟨h, hh⟩
          by_cases c2 : i <= j - u
          all_goals (first
            | (have d1 : decide ((i : Int) <= ((j - u : Nat) : Int)) = true := Ac (by omega)
               have hjl : j - u < l.length := by omega
               have c3 : l.getD (j - u) 0 < l.getD a 0 := Bz fun h => cj ⟨c2, h⟩
               simp -implicitDefEqProofs only [go_sem, d1, g3, bnd hal, bnd hjl, ea, aP (Q := Q) hjl, Af, aJ, Ae, true_and, aU]
               refine aC hC (cQ.p _ _) ?_
               simp -implicitDefEqProofs only [go_sem, cQ.d, Ac c3, Av])
            | (have d1 : decide ((i : Int) <= ((j - u : Nat) : Int)) = false := Ai (by omega)
               simp -implicitDefEqProofs only [go_sem, d1]))
          all_goals
            clear c2 hu wj hbd hju g5 ci cj hjb0
            generalize j - u = j at *
            by_cases hij : i <= j
            · have d1 : decide ((i : Int) > (j : Int)) = false := Ai (by omega)
              have hbd := g2.2.2
              have hil : i < l.length := by omega
              have hjl : j < l.length := by omega
              have wi : IntKind.i64.wrap ((i : Int) + 1) = ((i + 1 : Nat) : Int) := by rw [aD _ (by omega)]; omega
              have wj : IntKind.i64.wrap ((j : Int) - 1) = ((j - 1 : Nat) : Int) := by rw [aD _ (by omega)]; omega
              have p2 := g2.swp hij (cii hij) (cjj hij) (by omega)
              have p1 := g1.trans (SegP.swp (i := i) (j := j) (by omega) (by omega) (by omega))
              have p3 := aG (o := .buf 60 3 ((swp l i j).map (encQ Q))) g3
              have p4 := g4.trans (Keep.set (.buf 60 3 ((swp l i j).map (encQ Q))) g3 rfl)
              simp -implicitDefEqProofs only [go_sem, d1, g3, bnd hil, bnd hjl, aP (Q := Q) hil, aP (Q := Q) hjl, aG g3, bP (Q := Q) hjl, wi, wj, Af, As, aJ, Ae, true_and, aU, bG, Bg, bM]
              exact ⟨by omega, (swp l i j, i + 1, j - 1), _, Wk.pick (by simpa using g4.1) (by simp [go_sem]), p1, p2, p3, p4, by dsimp only; omega⟩
            · have d1 : decide ((i : Int) > (j : Int)) = true := Ac (by omega)
              have hjl : j < l.length := by have := g2.2.2.2.1; omega
              simp -implicitDefEqProofs only [go_sem, d1, g3, bnd hal, bnd hjl, ea, aP (Q := Q) hjl, aG g3, bP (Q := Q) hal, Af, As, aJ, Ae, true_and, aU, bG, Bg, bM]
              refine aH (by simpa using g4.1) ⟨j, _, swp l j a, rfl, g1.trans (SegP.swp (by have := g2.2.2; omega) (by omega) (by omega)), g2.done hij (by omega), aG g3, g4.trans (Keep.set _ g3 rfl)⟩
      · have d1 : decide ((i : Int) > (j : Int)) = true := Ac (by omega)
        have hjl : j < l.length := by have := g2.2.2.2.1; omega
        simp -implicitDefEqProofs only [go_sem, d1, g3, bnd hal, bnd hjl, ea, aP (Q := Q) hjl, aG g3, bP (Q := Q) hal, Af, As, aJ, Ae, true_and, aU, bG, Bg, bM]
        refine aH (by simpa using g4.1) ⟨j, _, swp l j a, rfl, g1.trans (SegP.swp (by have := g2.2.2; omega) (by omega) (by omega)), g2.done hij (by omega), aG g3, g4.trans (Keep.set _ g3 rfl)⟩
set_option maxHeartbeats 4000000 in
theorem h269 {Q : Int -> Pr} {cf : FuncId} {cc : Int -> Int -> Int} (cQ : Cmp GL Q cf cc) (l0 : List Int) (a b p : Nat) (hab : a + 1 < b) (hb : b <= l0.length) (hl : l0.length < 2 ^ 24) (hp : a <= p /\ p < b) (k : Nat) (h : List AObj) (hk : h[k]? = some (.buf 60 3 (l0.map (encQ Q)))) :
    Gives (PC GL) 269 [.vec k 3 l0.length, .i a, .i b, .i p, .fn (.func cf) [] []] h fun x h' => ∃ (m : Nat) (l' : List Int), x = .i m /\ SegP a b l0 l' /\ PartedE a b (l0.getD p 0) m l' /\ h'[k]? = some (.buf 60 3 (l'.map (encQ Q))) /\ Keep (fun i _ => i = k) h h' := by
  have w1 : IntKind.i64.wrap ((a : Int) + 1) = ((a + 1 : Nat) : Int) := by rw [aD _ (by omega)]; omega
  have w2 : IntKind.i64.wrap ((b : Int) - 1) = ((b - 1 : Nat) : Int) := by rw [aD _ (by omega)]; omega
  have ha0 : a < l0.length := by omega
  have hp0 : p < l0.length := by omega
  refine k269.gives (by simp) ?_
  simp -implicitDefEqProofs only [go_sem, c269, r269, hk, bnd ha0, bnd hp0, aP (Q := Q) ha0, aP (Q := Q) hp0, aG hk, bP (Q := Q) hp0, w1, w2, Af, As, aJ, Ae, true_and, aU, bG, Bg, bM]
  have g1 : SegP a b l0 (swp l0 a p) := SegP.swp (by omega) (by omega) hb
  have g3 := aG (o := .buf 60 3 ((swp l0 a p).map (encQ Q))) hk
  have g4 : Keep (fun i _ => i = k) h (h.set k (.buf 60 3 ((swp l0 a p).map (encQ Q)))) := Keep.set _ hk rfl
  have hpv : (swp l0 a p).getD a 0 = l0.getD p 0 := by
    rw [cR ha0 hp0]
    by_cases e : a = p
    · rw [if_pos e, e]
    · rw [if_neg e, if_pos rfl]
  have g2 : PartE a b (l0.getD p 0) (a + 1) (b - 1) (swp l0 a p) := ⟨fun x _ _ => by omega, fun x _ _ => by omega, Ak _, by omega, by omega, by omega, hpv⟩
  generalize l0.getD p 0 = pv at g2 ⊢
  refine aV hC (fun t (x : List Int × Nat × Nat) => [(11, .i (x.2.1 : Nat)), (12, .i (x.2.2 : Nat)), (0, .vec k 3 l0.length), (1, .i a), (4, .fn (.func cf) [] [])]) (fun t x h' => SegP a b l0 x.1 /\ PartE a b pv x.2.1 x.2.2 x.1 /\ h'[k]? = some (.buf 60 3 (x.1.map (encQ Q))) /\ Keep (fun i _ => i = k) h h' /\ a + 1 + t <= x.2.1) (b - a) ⟨(swp l0 a p, a + 1, b - 1), _, Wk.pick g4.1 (by simp [go_sem]), g1, g2, g3, g4, Ak _⟩ fun t x h2 ht ⟨g1, g2, g3, g4, g6⟩ => ?_
  obtain ⟨l, i, j⟩ := x
  dsimp only at g1 g2 g3 g6
  have hlen : l0.length = l.length := g1.1.symm
  have hal : a < l.length := by omega
  have ea := aP (Q := Q) hal
  simp only [hlen]
  simp -implicitDefEqProofs only [go_sem]
  refine aV hC (fun u (_ : Unit) => [(11, .i ((i + u : Nat) : Int)), (12, .i ((j : Nat) : Int)), (0, .vec k 3 l.length), (1, .i a), (4, .fn (.func cf) [] [])]) (fun u (_ : Unit) h' => PartE a b pv (i + u) j l /\ h'[k]? = some (.buf 60 3 (l.map (encQ Q))) /\ Keep (fun i _ => i = k) h h') (b - a) ⟨(), _, Wk.pick (by simpa using g4.1) (by simp [go_sem]), g2, g3, g4⟩ fun u _ h2 hu ⟨g2, g3, g4⟩ => ?_
  have hbd := g2.2.2
  have wi : IntKind.i64.wrap (((i + u : Nat) : Int) + 1) = ((i + (u + 1) : Nat) : Int) := by rw [aD _ (by omega)]; omega
  simp -implicitDefEqProofs only [go_sem]
  by_cases ci : i + u <= j /\ ¬ l.getD a 0 < l.getD (i + u) 0
  · have d1 : decide (((i + u : Nat) : Int) <= (j : Int)) = true := Ac (by omega)
    have hil : i + u < l.length := by omega
    simp -implicitDefEqProofs only [go_sem, d1, g3, bnd hal, bnd hil, ea, aP (Q := Q) hil, Af, aJ, Ae, true_and, aU]
    refine aC hC (cQ.p _ _) ?_
    simp -implicitDefEqProofs only [go_sem, cQ.d, Ai ci.2, Ax, wi]
    exact ⟨by omega, (), h2, Wk.pick g4.1 (by simp [go_sem]), g2.up ci.1 ci.2, g3, g4⟩
  by_cases c2 : i + u <= j
  all_goals (first
    | (have d1 : decide (((i + u : Nat) : Int) <= (j : Int)) = true := Ac (by omega)
       have hil : i + u < l.length := by omega
       have c3 : l.getD a 0 < l.getD (i + u) 0 := Bz fun h => ci ⟨c2, h⟩
       simp -implicitDefEqProofs only [go_sem, d1, g3, bnd hal, bnd hil, ea, aP (Q := Q) hil, Af, aJ, Ae, true_and, aU]
       refine aC hC (cQ.p _ _) ?_
       simp -implicitDefEqProofs only [go_sem, cQ.d, Ac c3, Av])
    | (have d1 : decide (((i + u : Nat) : Int) <= (j : Int)) = false := Ai (by omega)
       simp -implicitDefEqProofs only [go_sem, d1]))
  all_goals
    have g7 : a + 1 + t <= i + u := by omega
    clear c2 hu wi hbd
    generalize i + u = i at *
    have hjb0 : j < b := g2.2.2.2.1
    have hai0 : a + 1 <= i := g2.2.2.1
    refine aV hC (fun u (_ : Unit) => [(11, .i ((i : Nat) : Int)), (12, .i ((j - u : Nat) : Int)), (0, .vec k 3 l.length), (1, .i a), (4, .fn (.func cf) [] [])]) (fun u (_ : Unit) h' => u <= j /\ PartE a b pv i (j - u) l /\ h'[k]? = some (.buf 60 3 (l.map (encQ Q))) /\ Keep (fun i _ => i = k) h h') (b - a) ⟨(), _, Wk.pick (by simpa using g4.1) (by simp [go_sem]), Ap _, g2, g3, g4⟩ fun u _ h2 hu ⟨g5, g2, g3, g4⟩ => ?_
    have hbd := g2.2.2
    have hju : j - (u + 1) = j - u - 1 := by omega
    have wj : 1 <= j - u -> IntKind.i64.wrap (((j - u : Nat) : Int) - 1) = ((j - u - 1 : Nat) : Int) := fun h => by rw [aD _ (by omega)]; omega
    simp -implicitDefEqProofs only [go_sem]
    by_cases cj : i <= j - u /\ l.getD a 0 < l.getD (j - u) 0
    · have d1 : decide ((i : Int) <= ((j - u : Nat) : Int)) = true := Ac (by omega)
      have hjl : j - u < l.length := by omega
      simp -implicitDefEqProofs only [go_sem, d1, g3, bnd hal, bnd hjl, ea, aP (Q := Q) hjl, Af, aJ, Ae, true_and, aU]
      refine aC hC (cQ.p _ _) ?_
      simp -implicitDefEqProofs only [go_sem, cQ.d, Ac cj.2, wj (by omega), hju]
      exact ⟨by omega, (), h2, Wk.pick g4.1 (by simp [go_sem]), by omega, g2.down cj.1 cj.2, g3, g4⟩
    have cii : i <= j - u -> l.getD a 0 < l.getD i 0 := fun h => Bz fun hh => ci ⟨by omega, hh⟩
    have cjj : i <= j - u -> ¬ l.getD a 0 < l.getD (j - u) 0 := fun h hh => cj ⟨h, hh⟩
    by_cases c2 : i <= j - u
    all_goals (first
      | (have d1 : decide ((i : Int) <= ((j - u : Nat) : Int)) = true := Ac (by omega)
         have hjl : j - u < l.length := by omega
         have c3 : ¬ l.getD a 0 < l.getD (j - u) 0 := fun h => cj ⟨c2, h⟩
         simp -implicitDefEqProofs only [go_sem, d1, g3, bnd hal, bnd hjl, ea, aP (Q := Q) hjl, Af, aJ, Ae, true_and, aU]
         refine aC hC (cQ.p _ _) ?_
         simp -implicitDefEqProofs only [go_sem, cQ.d, Ai c3])
      | (have d1 : decide ((i : Int) <= ((j - u : Nat) : Int)) = false := Ai (by omega)
         simp -implicitDefEqProofs only [go_sem, d1]))
    all_goals
      clear c2 hu wj hbd hju g5 ci cj hjb0
      generalize j - u = j at *
      by_cases hij : i <= j
      · have d1 : decide ((i : Int) > (j : Int)) = false := Ai (by omega)
        have hbd := g2.2.2
        have hil : i < l.length := by omega
        have hjl : j < l.length := by omega
        have wi : IntKind.i64.wrap ((i : Int) + 1) = ((i + 1 : Nat) : Int) := by rw [aD _ (by omega)]; omega
        have wj : IntKind.i64.wrap ((j : Int) - 1) = ((j - 1 : Nat) : Int) := by rw [aD _ (by omega)]; omega
        have p2 := g2.swp hij (cii hij) (cjj hij) (by omega)
        have p1 := g1.trans (SegP.swp (i := i) (j := j) (by omega) (by omega) (by omega))
        have p3 := aG (o := .buf 60 3 ((swp l i j).map (encQ Q))) g3
        have p4 := g4.trans (Keep.set (.buf 60 3 ((swp l i j).map (encQ Q))) g3 rfl)
        simp -implicitDefEqProofs only [go_sem, d1, g3, bnd hil, bnd hjl, aP (Q := Q) hil, aP (Q := Q) hjl, aG g3, bP (Q := Q) hjl, wi, wj, Af, As, aJ, Ae, true_and, aU, bG, Bg, bM]
        exact ⟨by omega, (swp l i j, i + 1, j - 1), _, Wk.pick (by simpa using g4.1) (by simp [go_sem]), p1, p2, p3, p4, by dsimp only; omega⟩
      · have d1 : decide ((i : Int) > (j : Int)) = true := Ac (by omega)
        simp -implicitDefEqProofs only [go_sem, d1]
        have hbd := g2.2.2
        exact aH g4.1 ⟨i, l, rfl, g1, g2.done hij, g3, g4⟩
set_option maxHeartbeats 4000000 in
theorem h268 {Q : Int -> Pr} {cf : FuncId} {cc : Int -> Int -> Int} (cQ : Cmp GL Q cf cc) (l0 : List Int) (a b : Nat) (hab : a + 12 < b) (hb : b <= l0.length) (hl : l0.length < 2 ^ 24) (hlow : Low a b l0) (k : Nat) (h : List AObj) (hk : h[k]? = some (.buf 60 3 (l0.map (encQ Q)))) :
    Gives (PC GL) 268 [.vec k 3 l0.length, .i a, .i b, .fn (.func cf) [] []] h fun x h' => ∃ (z : Bool) (l' : List Int), x = .b z /\ SegP a b l0 l' /\ (z = true -> Srt a b l') /\ h'[k]? = some (.buf 60 3 (l'.map (encQ Q))) /\ Keep (fun i _ => i = k) h h' := by
  have w1 : IntKind.i64.wrap ((a : Int) + 1) = ((a + 1 : Nat) : Int) := by rw [aD _ (by omega)]; omega
  refine k268.gives (by simp) ?_
  simp -implicitDefEqProofs only [go_sem, c268, r268, w1]
  refine aV hC (fun t (x : List Int × Nat) => [(10, .i (t : Nat)), (9, .i (x.2 : Nat)), (0, .vec k 3 l0.length), (1, .i a), (2, .i b), (3, .fn (.func cf) [] [])]) (fun t x h' => SegP a b l0 x.1 /\ h'[k]? = some (.buf 60 3 (x.1.map (encQ Q))) /\ Keep (fun i _ => i = k) h h' /\ Srt a x.2 x.1 /\ a + 1 <= x.2 /\ x.2 <= b) 5 ⟨(l0, a + 1), h, Wk.pick (Ak _) (by simp [go_sem]), SegP.refl _ _ _, hk, Keep.refl _ _, fun p q _ _ _ => by omega, Ak _, by dsimp only; omega⟩ fun t x h1 ht ⟨g1, g3, g4, g5, g6, g7⟩ => ?_
  obtain ⟨l, i⟩ := x
  dsimp only at g1 g3 g5 g6 g7
  have hlen : l0.length = l.length := g1.1.symm
  have wt : IntKind.i64.wrap ((t : Int) + 1) = ((t + 1 : Nat) : Int) := by rw [aD _ (by omega)]; omega
  simp only [hlen]
  simp -implicitDefEqProofs only [go_sem]
  by_cases ht5 : t < 5
  · have d0 : decide ((t : Int) < 5) = true := Ac (by omega)
    simp -implicitDefEqProofs only [go_sem, d0]
    refine aV hC (fun u (_ : Unit) => [(9, .i ((i + u : Nat) : Int)), (10, .i (t : Nat)), (0, .vec k 3 l.length), (1, .i a), (2, .i b), (3, .fn (.func cf) [] [])]) (fun u (_ : Unit) h' => h'[k]? = some (.buf 60 3 (l.map (encQ Q))) /\ Keep (fun i _ => i = k) h h' /\ Srt a (i + u) l /\ i + u <= b) (b - i) ⟨(), h1, Wk.pick g4.1 (by simp [go_sem]), g3, g4, g5, g7⟩ fun u _ h2 hu ⟨g3, g4, g5, g7⟩ => ?_
    have wi : IntKind.i64.wrap (((i + u : Nat) : Int) + 1) = ((i + (u + 1) : Nat) : Int) := by rw [aD _ (by omega)]; omega
    have wi1 : IntKind.i64.wrap (((i + u : Nat) : Int) - 1) = ((i + u - 1 : Nat) : Int) := by rw [aD _ (by omega)]; omega
    have hi1l : i + u - 1 < l.length := by omega
    simp -implicitDefEqProofs only [go_sem]
    by_cases c1 : i + u < b /\ ¬ l.getD (i + u) 0 < l.getD (i + u - 1) 0
    · have d1 : decide (((i + u : Nat) : Int) < (b : Int)) = true := Ac (by omega)
      have hil : i + u < l.length := by omega
      simp -implicitDefEqProofs only [go_sem, d1, wi1, g3, bnd hil, bnd hi1l, aP (Q := Q) hil, aP (Q := Q) hi1l, Af, aJ, Ae, true_and, aU]
      refine aC hC (cQ.p _ _) ?_
      simp -implicitDefEqProofs only [go_sem, cQ.d, Ai c1.2, Ax, wi]
      exact ⟨by omega, (), h2, Wk.pick g4.1 (by simp [go_sem]), g3, g4, g5.grow (by omega) c1.2, by omega⟩
    by_cases c2 : i + u < b
    · have d1 : decide (((i + u : Nat) : Int) < (b : Int)) = true := Ac (by omega)
      have hil : i + u < l.length := by omega
      have c3 : l.getD (i + u) 0 < l.getD (i + u - 1) 0 := Bz fun h => c1 ⟨c2, h⟩
      have de : (((i + u : Nat) : Int) == (b : Int)) = false := by simp; omega
      have wba : IntKind.i64.wrap ((b : Int) - (a : Int)) = ((b - a : Nat) : Int) := by rw [aD _ (by omega)]; omega
      simp -implicitDefEqProofs only [go_sem, d1, wi1, g3, bnd hil, bnd hi1l, aP (Q := Q) hil, aP (Q := Q) hi1l, Af, aJ, Ae, true_and, aU]
      refine aC hC (cQ.p _ _) ?_
      simp -implicitDefEqProofs only [go_sem, cQ.d, Ac c3, Av, de, wba]
      by_cases h50 : b - a < 50
      · have d5 : decide (((b - a : Nat) : Int) < 50) = true := Ac (by omega)
        simp -implicitDefEqProofs only [go_sem, d5]
        exact aH g4.1 ⟨false, l, rfl, g1, (fun h => nomatch h), g3, g4⟩
      have d5 : decide (((b - a : Nat) : Int) < 50) = false := Ai (by omega)
      simp -implicitDefEqProofs only [go_sem, d5, wi1, g3, bnd hil, bnd hi1l, aP (Q := Q) hil, aP (Q := Q) hi1l, aG g3, bP (Q := Q) hi1l, Af, As, aJ, Ae, true_and, aU, bG, Bg, bM]
      have s1 : SegP a b l (swp l (i + u) (i + u - 1)) := SegP.swp (by omega) (by omega) (by omega)
      have lo1 := ((hlow.seg g1 hb).seg s1 (by omega))
      have q1 := g1.trans s1
      have q3 := aG (o := .buf 60 3 ((swp l (i + u) (i + u - 1)).map (encQ Q))) g3
      have q4 := g4.trans (Keep.set (.buf 60 3 ((swp l (i + u) (i + u - 1)).map (encQ Q))) g3 rfl)
      have q5 : SrtBut a (i + u) (i + u - 1) (swp l (i + u) (i + u - 1)) := fun p q hp hpq hq hne => by
        have g := cR (l := l) (i := i + u) (j := i + u - 1) (by omega) (by omega)
        rw [g, g, if_neg (by omega), if_neg (by omega), if_neg (by omega), if_neg (by omega)]
        exact g5 p q hp hpq (by omega)
      have hea : a + 1 <= i + u := by omega
      clear g1 g3 g4 g5 hi1l c3 hil c1 de d1 wi s1
      generalize i + u = e at *
      generalize hl1 : swp l e (e - 1) = l1 at *
      have hlen1 : l.length = l1.length := by rw [<- hl1, cG]
      generalize h2.set k (.buf 60 3 (l1.map (encQ Q))) = h3 at *
      have wea : IntKind.i64.wrap ((e : Int) - (a : Int)) = ((e - a : Nat) : Int) := by rw [aD _ (by omega)]; omega
      have wbe : IntKind.i64.wrap ((b : Int) - (e : Int)) = ((b - e : Nat) : Int) := by rw [aD _ (by omega)]; omega
      have we1 : IntKind.i64.wrap ((e : Int) + 1) = ((e + 1 : Nat) : Int) := by rw [aD _ (by omega)]; omega
      simp only [hlen1]
      rw [wea]
      clear hl1 hlen1 hlen
      have hlen : l0.length = l1.length := q1.1.symm
      by_cases h2a : e - a >= 2
      · have d6 : decide (((e - a : Nat) : Int) >= 2) = true := Ac (by omega)
        simp -implicitDefEqProofs only [go_sem, d6, wi1]
        refine aV hC (fun v (_ : List Int) => [(11, .i ((e - 1 - v : Nat) : Int)), (9, .i (e : Nat)), (10, .i (t : Nat)), (0, .vec k 3 l1.length), (1, .i a), (2, .i b), (3, .fn (.func cf) [] [])]) (fun v m h' => SegP a b l0 m /\ Low a b m /\ h'[k]? = some (.buf 60 3 (m.map (encQ Q))) /\ Keep (fun i _ => i = k) h h' /\ SrtBut a e (e - 1 - v) m /\ a + v <= e - 1) (e - 1 - a) ⟨l1, h3, Wk.pick q4.1 (by simp [go_sem]), q1, lo1, q3, q4, q5, by omega⟩ fun v m h4 hv ⟨r1, r2, r3, r4, r5, r6⟩ => ?_
        have hlen2 : l1.length = m.length := by rw [<- hlen]; exact r1.1.symm
        simp only [hlen2]
        simp -implicitDefEqProofs only [go_sem]
        obtain ⟨j, hj⟩ : ∃ j, j = e - 1 - v := ⟨_, rfl⟩
        have hju : e - 1 - (v + 1) = j - 1 := by omega
        simp only [<- hj, hju] at r5 ⊢
        have hjl : j < m.length := by have := r1.1; omega
        have hj1l : j - 1 < m.length := by omega
        have hje : j < e := by omega
        have wj : 1 <= j -> IntKind.i64.wrap ((j : Int) - 1) = ((j - 1 : Nat) : Int) := fun h => by rw [aD _ (by omega)]; omega
        have hml : m.length = l0.length := r1.1
        by_cases cj : 1 <= j /\ m.getD j 0 < m.getD (j - 1) 0
        · have haj : a < j := by
            rcases r2 with r2 | r2
            · omega
            · by_cases e2 : j = a
              · have := r2 a (Ak _) (by omega)
                rw [e2] at cj
                omega
              · omega
          have d7 : decide ((j : Int) >= 1) = true := Ac (by omega)
          have wj := wj cj.1
          have s1 : SegP a b m (swp m j (j - 1)) := SegP.swp (by omega) (by omega) (by omega)
          simp -implicitDefEqProofs only [go_sem, d7, wj, r3, bnd hjl, bnd hj1l, aP (Q := Q) hjl, aP (Q := Q) hj1l, Af, aJ, Ae, true_and, aU]
          refine aC hC (cQ.p _ _) ?_
          simp -implicitDefEqProofs only [go_sem, cQ.d, Ac cj.2, Av, wj, r3, bnd hjl, bnd hj1l, aP (Q := Q) hjl, aP (Q := Q) hj1l, aG r3, bP (Q := Q) hj1l, Af, As, aJ, Ae, true_and, aU, bG, Bg, bM]
          exact ⟨by omega, swp m j (j - 1), _, Wk.pick (by simpa using r4.1) (by simp [go_sem]), r1.trans s1, r2.seg s1 (by omega), aG r3, r4.trans (Keep.set _ r3 rfl), r5.swp haj hje (by omega) cj.2, by omega⟩
        have r7 : Srt a e m := r5.all fun haj hlt => cj ⟨by omega, hlt⟩
        by_cases c4 : 1 <= j
        all_goals (first
          | (have d7 : decide ((j : Int) >= 1) = true := Ac (by omega)
             have c5 : ¬ m.getD j 0 < m.getD (j - 1) 0 := fun h => cj ⟨c4, h⟩
             have wj := wj c4
             simp -implicitDefEqProofs only [go_sem, d7, wj, r3, bnd hjl, bnd hj1l, aP (Q := Q) hjl, aP (Q := Q) hj1l, Af, aJ, Ae, true_and, aU]
             refine aC hC (cQ.p _ _) ?_
             simp -implicitDefEqProofs only [go_sem, cQ.d, Ai c5, Ax])
          | (have d7 : decide ((j : Int) >= 1) = false := Ai (by omega)
             simp -implicitDefEqProofs only [go_sem, d7]))
        all_goals
          clear cj hjl hj1l wj r5 r2 c4 hj hju
          have hme : m.length = l0.length := r1.1
          by_cases h2b : b - e >= 2
          · have d7 : decide (((b - e : Nat) : Int) >= 2) = true := Ac (by omega)
            simp -implicitDefEqProofs only [go_sem, d7, wbe, we1]
            refine aV hC (fun v (_ : List Int) => [(12, .i ((e + 1 + v : Nat) : Int)), (9, .i (e : Nat)), (10, .i (t : Nat)), (0, .vec k 3 m.length), (1, .i a), (2, .i b), (3, .fn (.func cf) [] [])]) (fun v m' h' => SegP e b m m' /\ h'[k]? = some (.buf 60 3 (m'.map (encQ Q))) /\ Keep (fun i _ => i = k) h h') (b - (e + 1)) ⟨m, h4, Wk.pick r4.1 (by simp [go_sem]), SegP.refl _ _ _, r3, r4⟩ fun v m2 h5 hv ⟨s1, s3, s4⟩ => ?_
            have hlen3 : m.length = m2.length := s1.1.symm
            have wv : IntKind.i64.wrap (((e + 1 + v : Nat) : Int) + 1) = ((e + 1 + (v + 1) : Nat) : Int) := by rw [aD _ (by omega)]; omega
            have wv1 : IntKind.i64.wrap (((e + 1 + v : Nat) : Int) - 1) = ((e + v : Nat) : Int) := by rw [aD _ (by omega)]; omega
            simp only [hlen3]
            simp -implicitDefEqProofs only [go_sem]
            by_cases ck : e + 1 + v < b /\ m2.getD (e + 1 + v) 0 < m2.getD (e + v) 0
            · have d8 : decide (((e + 1 + v : Nat) : Int) < (b : Int)) = true := Ac (by omega)
              have hxl : e + 1 + v < m2.length := by omega
              have hyl : e + v < m2.length := by omega
              simp -implicitDefEqProofs only [go_sem, d8, wv1, s3, bnd hxl, bnd hyl, aP (Q := Q) hxl, aP (Q := Q) hyl, Af, aJ, Ae, true_and, aU]
              refine aC hC (cQ.p _ _) ?_
              simp -implicitDefEqProofs only [go_sem, cQ.d, Ac ck.2, Av, wv1, s3, bnd hxl, bnd hyl, aP (Q := Q) hxl, aP (Q := Q) hyl, aG s3, bP (Q := Q) hyl, wv, Af, As, aJ, Ae, true_and, aU, bG, Bg, bM]
              exact ⟨by omega, swp m2 (e + 1 + v) (e + v), _, Wk.pick (by simpa using s4.1) (by simp [go_sem]), s1.trans (SegP.swp (by omega) (by omega) (by omega)), aG s3, s4.trans (Keep.set _ s3 rfl)⟩
            by_cases c4 : e + 1 + v < b
            all_goals (first
              | (have d8 : decide (((e + 1 + v : Nat) : Int) < (b : Int)) = true := Ac (by omega)
                 have hxl : e + 1 + v < m2.length := by omega
                 have hyl : e + v < m2.length := by omega
                 have c5 : ¬ m2.getD (e + 1 + v) 0 < m2.getD (e + v) 0 := fun h => ck ⟨c4, h⟩
                 simp -implicitDefEqProofs only [go_sem, d8, wv1, s3, bnd hxl, bnd hyl, aP (Q := Q) hxl, aP (Q := Q) hyl, Af, aJ, Ae, true_and, aU]
                 refine aC hC (cQ.p _ _) ?_
                 simp -implicitDefEqProofs only [go_sem, cQ.d, Ai c5, Ax, wt])
              | (have d8 : decide (((e + 1 + v : Nat) : Int) < (b : Int)) = false := Ai (by omega)
                 simp -implicitDefEqProofs only [go_sem, d8, wt]))
            all_goals
              exact ⟨ht5, (m2, e), h5, Wk.pick s4.1 (by simp [go_sem]), r1.trans (s1.mono (by omega) (Ak _)), s3, s4, r7.seg s1 (Ak _), hea, g7⟩
          · have d7 : decide (((b - e : Nat) : Int) >= 2) = false := Ai (by omega)
            simp -implicitDefEqProofs only [go_sem, d7, wbe, wt]
            exact ⟨ht5, (m, e), h4, Wk.pick r4.1 (by simp [go_sem]), r1, r3, r4, r7, hea, g7⟩
      · have d6 : decide (((e - a : Nat) : Int) >= 2) = false := Ai (by omega)
        simp -implicitDefEqProofs only [go_sem, d6]
        have r7 : Srt a e l1 := fun p q _ _ _ => by omega
        have r1 := q1
        have r3 := q3
        have r4 := q4
        clear q1 q3 q4 q5 lo1
        generalize l1 = m at *
        generalize h3 = h4 at *
        have hme : m.length = l0.length := r1.1
        by_cases h2b : b - e >= 2
        · have d7 : decide (((b - e : Nat) : Int) >= 2) = true := Ac (by omega)
          simp -implicitDefEqProofs only [go_sem, d7, wbe, we1]
          refine aV hC (fun v (_ : List Int) => [(12, .i ((e + 1 + v : Nat) : Int)), (9, .i (e : Nat)), (10, .i (t : Nat)), (0, .vec k 3 m.length), (1, .i a), (2, .i b), (3, .fn (.func cf) [] [])]) (fun v m' h' => SegP e b m m' /\ h'[k]? = some (.buf 60 3 (m'.map (encQ Q))) /\ Keep (fun i _ => i = k) h h') (b - (e + 1)) ⟨m, h4, Wk.pick r4.1 (by simp [go_sem]), SegP.refl _ _ _, r3, r4⟩ fun v m2 h5 hv ⟨s1, s3, s4⟩ => ?_
          have hlen3 : m.length = m2.length := s1.1.symm
          have wv : IntKind.i64.wrap (((e + 1 + v : Nat) : Int) + 1) = ((e + 1 + (v + 1) : Nat) : Int) := by rw [aD _ (by omega)]; omega
          have wv1 : IntKind.i64.wrap (((e + 1 + v : Nat) : Int) - 1) = ((e + v : Nat) : Int) := by rw [aD _ (by omega)]; omega
          simp only [hlen3]
          simp -implicitDefEqProofs only [go_sem]
          by_cases ck : e + 1 + v < b /\ m2.getD (e + 1 + v) 0 < m2.getD (e + v) 0
          · have d8 : decide (((e + 1 + v : Nat) : Int) < (b : Int)) = true := Ac (by omega)
            have hxl : e + 1 + v < m2.length := by omega
            have hyl : e + v < m2.length := by omega
            simp -implicitDefEqProofs only [go_sem, d8, wv1, s3, bnd hxl, bnd hyl, aP (Q := Q) hxl, aP (Q := Q) hyl, Af, aJ, Ae, true_and, aU]
            refine aC hC (cQ.p _ _) ?_
            simp -implicitDefEqProofs only [go_sem, cQ.d, Ac ck.2, Av, wv1, s3, bnd hxl, bnd hyl, aP (Q := Q) hxl, aP (Q := Q) hyl, aG s3, bP (Q := Q) hyl, wv, Af, As, aJ, Ae, true_and, aU, bG, Bg, bM]
            exact ⟨by omega, swp m2 (e + 1 + v) (e + v), _, Wk.pick (by simpa using s4.1) (by simp [go_sem]), s1.trans (SegP.swp (by omega) (by omega) (by omega)), aG s3, s4.trans (Keep.set _ s3 rfl)⟩
          by_cases c4 : e + 1 + v < b
          all_goals (first
            | (have d8 : decide (((e + 1 + v : Nat) : Int) < (b : Int)) = true := Ac (by omega)
               have hxl : e + 1 + v < m2.length := by omega
               have hyl : e + v < m2.length := by omega
               have c5 : ¬ m2.getD (e + 1 + v) 0 < m2.getD (e + v) 0 := fun h => ck ⟨c4, h⟩
               simp -implicitDefEqProofs only [go_sem, d8, wv1, s3, bnd hxl, bnd hyl, aP (Q := Q) hxl, aP (Q := Q) hyl, Af, aJ, Ae, true_and, aU]
               refine aC hC (cQ.p _ _) ?_
               simp -implicitDefEqProofs only [go_sem, cQ.d, Ai c5, Ax, wt])
            | (have d8 : decide (((e + 1 + v : Nat) : Int) < (b : Int)) = false := Ai (by omega)
               simp -implicitDefEqProofs only [go_sem, d8, wt]))
          all_goals
            exact ⟨ht5, (m2, e), h5, Wk.pick s4.1 (by simp [go_sem]), r1.trans (s1.mono (by omega) (Ak _)), s3, s4, r7.seg s1 (Ak _), hea, g7⟩
        · have d7 : decide (((b - e : Nat) : Int) >= 2) = false := Ai (by omega)
          simp -implicitDefEqProofs only [go_sem, d7, wbe, wt]
          exact ⟨ht5, (m, e), h4, Wk.pick r4.1 (by simp [go_sem]), r1, r3, r4, r7, hea, g7⟩
    · have d1 : decide (((i + u : Nat) : Int) < (b : Int)) = false := Ai (by omega)
      have de : (((i + u : Nat) : Int) == (b : Int)) = true := by simp; omega
      simp -implicitDefEqProofs only [go_sem, d1, de]
      exact aH g4.1 ⟨true, l, rfl, g1, fun _ p q hp hpq hq => g5 p q hp hpq (by omega), g3, g4⟩
  · have d0 : decide ((t : Int) < 5) = false := Ai (by omega)
    simp -implicitDefEqProofs only [go_sem, d0]
    exact aH g4.1 ⟨false, l, rfl, g1, (fun h => nomatch h), g3, g4⟩
end Go.Rip
