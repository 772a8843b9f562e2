/- Procedures that goals call: their numbers, each once. -/
import Derived.Test.YtndcajdameofjaaGreatDoorProg
import Derived.KernelRfl
import Derived.Test.YtndcajdameofjaaGreatDoorRipAW
import Derived.Test.YtndcajdameofjaaGreatDoorRipBD
import Derived.Test.YtndcajdameofjaaGreatDoorRipBE
import Derived.Test.YtndcajdameofjaaGreatDoorRipAI
import Derived.Test.YtndcajdameofjaaGreatDoorRipAL
namespace Go.Rip
open Go Go.Proofs
set_option maxRecDepth 100000
variable {GL : Glob}
attribute [local irreducible] Pure
theorem call_wk {f : FuncId} {args args' : List AV} {h : List AObj} {R : ARes -> List AObj -> Prop} (hw : wkrs args args') (hc : PC GL (.fn f) args' h R) : PC GL (.fn f) args h R :=
 fun E A G w vs hW ha => hc E A G w vs hW (Reps.wk _ _ _ hw ha)
theorem h227n : Pure (PC GLs) 227 [.v (.slice none 0 0)] (.tup []) := bR bP mo0 (n := 3000) (by kernel_rfl) (by kernel_rfl)
theorem h228n : Pure (PC GLs) 228 [.v (.slice none 0 0)] (.v (.slice none 0 0)) := bR bP mo0 (n := 3000) (by kernel_rfl) (by kernel_rfl)
def calB (p : Pg) (l : List Tm) : List Bool := (List.range p.procs.length).map fun k : Nat => (calledS l).any fun s => findS s p.syms == (k : Int)
def calI (p : Pg) (l : List Tm) : List Int := (calledS l).map fun s => findS s p.syms
theorem calI_len (p : Pg) (l : List Tm) : (calI p l).length = (calledS l).length := by simp [calI]
theorem calB_len (p : Pg) (l : List Tm) : (calB p l).length = p.procs.length := by simp [calB]
theorem mkd_calB {p : Pg} {l : List Tm} {i : Nat} (hi : i < p.procs.length) : mkd (calB p l) i = (calledS l).any fun s => findS s p.syms == (i : Int) := by
 rw [mkd_get (by rw [calB_len]; exact hi)]
 simp [calB]
theorem findS_mem {s : Sym} {l : List Sym} (h : s ∈ l) : ∃ i : Nat, i < l.length /\ findS s l = i := by
 obtain ⟨i, h1, h2⟩ := idxS_some h
 exact ⟨i, h2, by rw [findS, h1]⟩
theorem called_syms {p : Pg} {l : List Tm} (hc : okCalls p.syms [] l = true) : ∀ s ∈ calledS l, s ∈ p.syms := by
 rw [okCalls_nil, Bool.not_eq_true', List.any_eq_false] at hc
 intro s hs
 have := hc s hs
 simpa using this
theorem mem_calI {p : Pg} {l : List Tm} (hc : okCalls p.syms [] l = true) (x : Int) : x ∈ calI p l ↔ ∃ i : Nat, mkd (calB p l) i = true /\ x = i := by
 have hs := called_syms hc
 constructor
 ·intro hx
  obtain ⟨s, h1, rfl⟩ := List.mem_map.1 hx
  obtain ⟨i, hi, e⟩ := findS_mem (hs s h1)
  have hi' : i < p.procs.length := by simpa [Pg.syms] using hi
  exact ⟨i, by rw [mkd_calB hi']; exact List.any_eq_true.2 ⟨s, h1, by simpa using e⟩, e⟩
 ·rintro ⟨i, h1, rfl⟩
  have hi : i < p.procs.length := by have := mkd_lt h1; rwa [calB_len] at this
  rw [mkd_calB hi, List.any_eq_true] at h1
  obtain ⟨s, h2, h3⟩ := h1
  exact List.mem_map.2 ⟨s, h2, by simpa using h3⟩
theorem ixs_calB {p : Pg} {l : List Tm} (hc : okCalls p.syms [] l = true) {l' : List Int} (hp : (calI p l).Perm l') (hs : Srt 0 (calI p l).length l') : ded l' l'.length = ixs (calB p l) := by
 refine ixs_of (ded_incr (by rw [<- hp.length_eq]; exact hs) _ (Nat.le_refl _)) fun x => ?_
 rw [mem_ded, <- mem_calI hc, hp.mem_iff]
 constructor
 ·rintro ⟨i, hi, rfl⟩
  simp [List.getD, hi]
 ·intro hx
  obtain ⟨i, hi, e⟩ := List.mem_iff_getElem.1 hx
  exact ⟨i, hi, by simp [List.getD, hi, e]⟩
def outA (k : Nat) (l : List Int) : AV := if l = [] then .v (.slice none 0 0) else .vec k 1 l.length
theorem outA_nil (k : Nat) : outA k [] = .v (.slice none 0 0) := rfl
theorem outA_cons {k : Nat} {l : List Int} (h : l ≠ []) : outA k l = .vec k 1 l.length := if_neg h
theorem wkr_nilI : wkr (.v (.slice none 0 0)) (.sl 1 (([] : List Int).map encI)) := by simp [wkr]
theorem wkr_ownI (b : Nat) (l : List AV) : wkr (.own b 1 l) (.sl 1 l) := by simp [wkr]
theorem h154 (p : Pg) (goals : List Tm) (hg : goals.length < 2 ^ 24) (hc : okCalls p.syms [] goals = true) (km : Nat) (h : List AObj) (hk : h[km]? = some (tabO p.syms)) :
  Adds (PC GLs) 154 [.agg [.sl 3 (p.procs.map encPr), .mp km, .v (.map none)], .sl 4 (goals.map enc)] h (.sl 1 ((ixs (calB p goals)).map encI)) := by
 have q226 := h226 (GL := GLs) goals (by omega)
 have q142 := fun s h' (hk' : h'[km]? = some (tabO p.syms)) => h142 (GL := GLs) p.syms s km h' hk'
 have hcl := calledS_len goals
 have hfl := calI_len p goals
 simp only [tabV] at q142
 refine k154.gives (by simp) ?_
 simp -implicitDefEqProofs only [go_sem, c154, r154]
 refine aC hC q226 ?_
 simp -implicitDefEqProofs only [go_sem]
 refine bB hC (fun j (x : List Int × Nat) => [(13, .i j), (11, .sl 2 ((calledS goals).map encSym)), (12, .i (calledS goals).length), (2, .ref h.length 0), (5, outA x.2 x.1)])
  (fun j x h' => x.1 = (calI p goals).take j /\ Keep All h h' /\ h'[h.length]? = some (.cells 153 [.sl 3 (p.procs.map encPr), .mp km, .v (.map none)]) /\ (x.1 = [] ∨ h'[x.2]? = some (.buf 3 1 (x.1.map encI)) /\ h.length <= x.2)) (calledS goals).length ?_ fun j x h2 hj ⟨g1, g2, g3, g4⟩ => ?_
 ·exact ⟨([], 0), _, Wk.pick (by simp) (by simp [go_sem, outA]), rfl, Keep.app _ _ _, by rw [get_at]; rfl, .inl rfl⟩
 obtain ⟨l, b⟩ := x
 dsimp only at g1 g4
 have g3_g := fun l => aG (l := l) g3
 have g3_s := fun o l => aR (l := l) g3 o
 have g3_e := fun o l => aS (o := o) (l := l) g3
 have g3_h := fun o => aL (o := o) g3
 simp -implicitDefEqProofs only [go_sem]
 refine aJ (fun hlt => ?_) (fun hlt => ?_)
 ·have hlt := aM hlt
  have hlt' : j < (calI p goals).length := by omega
  have w5 : IntKind.i64.wrap ((j : Int) + 1) = (j : Int) + 1 := aD _ (by omega)
  have hx : (calI p goals)[j] = findS (calledS goals)[j] p.syms := by simp [calI]
  have hs : (calI p goals).take (j + 1) = l ++ [findS (calledS goals)[j] p.syms] := by rw [bH hlt', hx, g1]
  have hll : l.length <= j := by rw [g1]; simp; omega
  have q := fun h' hk' => q142 (calledS goals)[j] h' hk'
  simp only [encSym] at q
  simp -implicitDefEqProofs only [go_sem, hlt, aW, encSym, g3_g]
  refine cS hC (q _ ((g2.trans (Keep.app _ _ _)).got hk)) fun h3 k3 => ?_
  have k4 : Keep All h h3 := g2.trans k3.left
  have g5 := k3.left.got g3
  by_cases hn : l = []
  ·subst hn
   simp -implicitDefEqProofs only [go_sem, outA_nil, blt01, w5, List.append_assoc]
   refine ⟨by simp, ([findS (calledS goals)[j] p.syms], h3.length + 1), _, Wk.pick (by simp; have := k4.1; omega) (by simp [go_sem, outA]), by rw [hs]; rfl, k4.trans (Keep.app _ _ _), aG g5, .inr ⟨?_, by have := k4.1; dsimp only; omega⟩⟩
   rw [aE]; rfl
  ·have g6 := k3.left.got (g4.resolve_left hn).1
   have hb := (g4.resolve_left hn).2
   have k5 := ((k4.trans (Keep.app All h3 [.spare 3 1])).turn .dead (aG g6) hb).trans (Keep.app All _ [.buf 3 1 (l.map encI ++ [.v (.int .i64 (findS (calledS goals)[j] p.syms))])])
   simp -implicitDefEqProofs only [go_sem, outA_cons hn, aG g6, blt01, w5]
   refine ⟨by simp; omega, (l ++ [findS (calledS goals)[j] p.syms], h3.length + 1), _, Wk.pick k5.1 (by simp [go_sem, outA]), hs.symm, k5, ?_, .inr ⟨?_, by have := k4.1; dsimp only; omega⟩⟩
   ·have := (k3.left.trans (Keep.app All h3 [.spare 3 1])).got g3
    rw [aG]
    rw [aT (by rintro rfl; rw [g5] at g6; cases g6)]
    exact this
   ·rw [List.getElem?_append_right (by simp)]
    simp [encI]
 ·have hge := aN hlt
  have hl : l = calI p goals := by rw [g1, List.take_of_length_le (by omega)]
  subst hl
  simp -implicitDefEqProofs only [go_sem, hlt]
  by_cases hn : calI p goals = []
  ·rw [hn]
   simp -implicitDefEqProofs only [go_sem, outA_nil]
   refine aC hC h227n ?_
   simp -implicitDefEqProofs only [go_sem]
   refine aC hC h228n ?_
   simp -implicitDefEqProofs only [go_sem]
   have e : ixs (calB p goals) = [] := by
    have := ixs_calB hc (List.Perm.refl _) (fun p q _ _ h => by rw [hn] at h; simp at h)
    rw [<- this, hn]; rfl
   exact dA g2.1 wkr_nilI ⟨by rw [e], g2⟩
  ·obtain ⟨g5, g6⟩ := g4.resolve_left hn
   have hl24 : (calI p goals).length < 2 ^ 24 := by omega
   have hpos : 0 < (calI p goals).length := List.length_pos_iff.2 hn
   simp -implicitDefEqProofs only [go_sem, outA_cons hn]
   refine aH hC (h227 _ hpos hl24 b _ g5) fun _ h3 ⟨l', s1, s2, s3, s4⟩ => ?_
   have hle := s1.length_eq
   simp -implicitDefEqProofs only [go_sem, hle]
   refine aH hC (h228d l' (by omega) b _ s3) fun x h4 hx => ?_
   have e := ixs_calB hc s1 s2
   have k5 : Keep All h h3 := g2.trans' s4 fun i o hi e => by have := aQ hi; omega
   rcases hx with ⟨rfl, rfl, e2⟩ | ⟨c, rfl, k6⟩
   ·simp -implicitDefEqProofs only [go_sem]
    refine fin_freeze s3 k5.1 (by simp) ⟨?_, k5.freeze _ _ g6⟩
    rw [List.take_of_length_le (by simp), <- e, e2]
   ·simp -implicitDefEqProofs only [go_sem]
    refine dA ?_ (wkr_ownI _ _) ⟨by rw [e], ?_⟩
    ·exact (k5.trans' k6 fun i o hi e => by have := aQ hi; omega).1
    ·exact k5.trans' k6 fun i o hi e => by have := aQ hi; omega
def encB (b : Bool) : AV := .v (.bool b)
def encN (n : Nat) : AV := .v (.int .i64 n)
theorem free_encN : Free encN := ⟨fun κ a => by simp only [encN, ren], fun n a => by simp only [encN, bd]⟩
@[go_sem] theorem bds_nums (n : Nat) (l : List Nat) : bds n (l.map encN) = True := free_encN.bds n l
def nxs (l : List Bool) : List Nat := (List.range l.length).filter (mkd l)
theorem mem_nxs {l : List Bool} {k : Nat} : k ∈ nxs l ↔ mkd l k = true := by
 simp only [nxs, List.mem_filter, List.mem_range]
 exact ⟨fun h => h.2, fun h => ⟨mkd_lt h, h⟩⟩
theorem ixs_enc (l : List Bool) : (ixs l).map encI = (nxs l).map encN := by
 simp only [ixs, ixsN, nxs, List.map_map]; rfl
theorem nxs_len (l : List Bool) : (nxs l).length <= l.length := by
 have := List.length_filter_le (mkd l) (List.range l.length)
 simpa [nxs] using this
def orN (l : List Bool) (ks : List Nat) : List Bool := (List.range l.length).map fun k => mkd l k || ks.contains k
def rndF (G : Nat -> List Nat) (l : List Bool) : Nat -> List Bool
 | 0 => l
 | j + 1 => if mkd (rndF G l j) j then orN (rndF G l j) (G j) else rndF G l j
def rndsF (G : Nat -> List Nat) (l : List Bool) : Nat -> List Bool
 | 0 => l
 | r + 1 => rndF G (rndsF G l r) l.length
def closeF (G : Nat -> List Nat) (l : List Bool) : List Bool := rndsF G l l.length
def Pr.goals (q : Pr) : List Tm := q.clauses.flatMap Cl.body
def calG (p : Pg) (i : Nat) : List Bool := calB p (p.procs.getD i default).goals
def calN (p : Pg) (i : Nat) : List Nat := nxs (calG p i)
theorem calG_len (p : Pg) (i : Nat) : (calG p i).length = p.procs.length := calB_len _ _
structure Pg.calls (p : Pg) : Prop where
 n : p.procs.length < 2 ^ 24
 m : ∀ i, i < p.procs.length -> (p.procs.getD i default).clauses.length < 2 ^ 24
 c : ∀ i, i < p.procs.length -> okCalls p.syms [] (p.procs.getD i default).goals = true /\ (p.procs.getD i default).goals.length < 2 ^ 24
theorem okCalls_flat (l more : List Sym) (cs : List Cl) : okCalls l more (cs.flatMap Cl.body) = cs.all fun c => okCalls l more c.body := by
 induction cs with
 | nil => rfl
 | cons c r ih => rw [List.flatMap_cons, List.all_cons, <- ih, okCalls, List.all_append]; rfl
theorem flat_len_le : ∀ (cs : List Cl) (b : Nat), (∀ c ∈ cs, c.body.length <= b) -> (cs.flatMap Cl.body).length <= cs.length * b
 | [], _, _ => by simp
 | c :: r, b, h => by
  have h1 := h c (by simp)
  have h2 := flat_len_le r b fun x hx => h x (by simp [hx])
  rw [List.flatMap_cons, List.length_append, List.length_cons, Nat.add_mul]; omega
theorem Pg.small.calls {p : Pg} (hs : p.small) (hok : p.ok = true) : p.calls := by
 refine ⟨by have := hs.l; omega, fun i hi => ?_, fun i hi => ?_⟩
 ·have hm : p.procs.getD i default ∈ p.procs := by simp [List.getD, hi]
  have := (hs.q _ hm).c; omega
 have hm : p.procs.getD i default ∈ p.procs := by simp [List.getD, hi]
 generalize p.procs.getD i default = q at hm
 have hq := hs.q q hm
 constructor
 ·simp only [Pg.ok, Bool.and_eq_true] at hok
  have := List.all_eq_true.1 hok.2 q hm
  simp only [okClauses] at this
  rw [Pr.goals, okCalls_flat, List.all_eq_true]
  intro c hc
  have := List.all_eq_true.1 this c hc
  simp only [Bool.and_eq_true] at this
  exact this.2
 ·have := flat_len_le q.clauses 5000 fun c hc => by
   have h1 := (hq.t c hc).1
   have h2 := body_len c
   omega
  have h3 := hq.c
  have : q.clauses.length * 5000 <= 120 * 5000 := Nat.mul_le_mul_right _ h3
  rw [Pr.goals]; omega
theorem flat_take_snoc {cs : List Cl} {j : Nat} (h : j < cs.length) : (cs.take (j + 1)).flatMap Cl.body = (cs.take j).flatMap Cl.body ++ cs[j].body := by
 rw [bH h, List.flatMap_append]; simp
theorem flat_take_len (cs : List Cl) (j : Nat) : ((cs.take j).flatMap Cl.body).length <= (cs.flatMap Cl.body).length := by
 conv => rhs; rw [<- List.take_append_drop j cs]
 rw [List.flatMap_append, List.length_append]; omega
theorem h133 (p : Pg) (hp : p.calls) (i : Nat) (hi : i < p.procs.length) (km : Nat) (h : List AObj) (hk : h[km]? = some (tabO p.syms)) :
  Adds (PC GLs) 133 [.agg [.sl 3 (p.procs.map encPr), .mp km, .v (.map none)], .i i] h (.sl 1 ((calN p i).map encN)) := by
 obtain ⟨hc, hl⟩ := hp.c i hi
 have hq : p.procs.getD i default = p.procs[i] := by simp [List.getD, hi]
 have hcn : (calN p i).map encN = (ixs (calB p p.procs[i].goals)).map encI := by rw [ixs_enc, calN, calG, hq]
 have hm := hp.m i hi
 rw [hq] at hc hl hm
 have q154 := fun h' hk' => h154 p p.procs[i].goals hl hc km h' hk'
 rw [hcn]
 have hpq : p.procs[i].goals = p.procs[i].clauses.flatMap Cl.body := rfl
 rw [hpq] at hl
 refine k133.gives (by simp) ?_
 simp -implicitDefEqProofs only [go_sem, c133, r133, bnd hi, hi, aW, encPr]
 generalize p.procs[i] = q at *
 refine bB hC (fun j a => [(16, .i j), (14, .sl 5 (q.clauses.map encCl)), (15, .i q.clauses.length), (2, .ref h.length 0), (5, .own a 4 (((q.clauses.take j).flatMap Cl.body).map enc))])
  (fun j a h' => Keep All h h' /\ h'[h.length]? = some (.cells 153 [.sl 3 (p.procs.map encPr), .mp km, .v (.map none)]) /\ h'[a]? = some (.spare 24 4) /\ h.length < a) q.clauses.length ?_ fun j a h2 hj ⟨g1, g2, g3, g4⟩ => ?_
 ·refine ⟨h.length + 1, _, (Wk.own_nil 24 4 5 (by simp [go_sem]) (by simp)).trans (Wk.pick (by simp) (by simp [go_sem])), ?_, ?_, ?_, by omega⟩
  ·exact (Keep.app _ _ _).trans (Keep.app _ _ _)
  ·rw [List.append_assoc, get_at]; rfl
  ·rw [List.append_assoc, aE]; rfl
 have g2_g := fun l => aG (l := l) g2
 have g2_s := fun o l => aR (l := l) g2 o
 have g2_e := fun o l => aS (o := o) (l := l) g2
 have g2_h := fun o => aL (o := o) g2
 have g3_g := fun l => aG (l := l) g3
 have g3_s := fun o l => aR (l := l) g3 o
 have g3_e := fun o l => aS (o := o) (l := l) g3
 have g3_h := fun o => aL (o := o) g3
 simp -implicitDefEqProofs only [go_sem]
 refine aJ (fun hlt => ?_) (fun hlt => ?_)
 ·have hlt := aM hlt
  have w5 : IntKind.i64.wrap ((j : Int) + 1) = (j : Int) + 1 := aD _ (by omega)
  have hs := flat_take_snoc hlt
  have hsl := flat_take_len q.clauses (j + 1)
  rw [hs, List.length_append] at hsl
  simp -implicitDefEqProofs only [go_sem, hlt, aW, encCl, List.append_assoc, g3_g, g3_s]
  refine ⟨by omega, ?_⟩
  have k5 := (g1.turn .dead g3 (by omega)).trans (Keep.app All _ [.cells 68 (encCl q.clauses[j]).cells, .spare 24 4])
  refine ⟨h2.length + 1, _, Wk.pick ?_ (by simp [go_sem, w5, hs]), ?_, ?_, ?_, by have := g1.1; omega⟩
  ·have := k5.1
   simpa using this
  ·have := k5
   simp only [encCl, AV.cells] at this
   exact this
  ·rw [aG]
   rw [aT (by omega)]
   exact g2
  ·rw [List.getElem?_append_right (by simp)]
   simp
 ·have hge := aN hlt
  rw [aV hge] at *
  simp -implicitDefEqProofs only [go_sem, hlt, g2]
  refine call_wk (args' := [.agg [.sl 3 (p.procs.map encPr), .mp km, .v (.map none)], .sl 4 (q.goals.map enc)]) (by simp [wkrs, wkr, Pr.goals]) ?_
  refine cS hC (q154 _ (g1.got hk)) fun h3 k3 => ?_
  simp -implicitDefEqProofs only [go_sem]
  exact aK (g1.trans k3).1 ⟨rfl, g1.trans k3⟩
structure VH (p : Pg) (km sb k xb vb : Nat) (l : List Bool) (h : List AObj) : Prop where
 s : h[sb]? = some (.cells 92 [.vec k 1 l.length])
 k : h[k]? = some (.buf 4 1 (l.map encB))
 x : h[xb]? = some (.cells 153 [.sl 3 (p.procs.map encPr), .mp km, .v (.map none)])
 v : h[vb]? = some (.cells 240 [.fn (.func 225) [] [.ref sb 0, .ref xb 0, .ref vb 0]])
 t : h[km]? = some (tabO p.syms)
theorem VH.keep {p : Pg} {km sb k xb vb : Nat} {l l' : List Bool} {h h' : List AObj} (H : VH p km sb k xb vb l h) (hk : Keep (fun i _ => i = k) h h') (hl : l'.length = l.length) (h2 : h'[k]? = some (.buf 4 1 (l'.map encB))) : VH p km sb k xb vb l' h' := by
 refine ⟨?_, h2, hk.get H.x (dE H.x H.k (by simp)), hk.get H.v (dE H.v H.k (by simp)), hk.get H.t (dE H.t H.k (by simp [tabO]))⟩
 rw [hl]
 exact hk.get H.s (dE H.s H.k (by simp))
def callsE (p : Pg) (i : Int) : Int := if p.ok then (if i < 0 ∨ i >= p.procs.length then 1 else 0) else 5
def callsR (p : Pg) (i : Int) : List Nat := if callsE p i = 0 then calN p i.toNat else []
theorem wkr_nilN : wkr (.v (.slice none 0 0)) (.sl 1 (([] : List Nat).map encN)) := by simp [wkr]
theorem bne50 : ((5 : Int) != 0) = true := rfl
theorem h42 (p : Pg) (hp : p.small) (i : Int) : Pure (PC GLs) 42 [encPg p, .i i] (.tup [.sl 1 ((callsR p i).map encN), .i (callsE p i)]) := by
 have q116 := fun h => h116 p hp.fits h
 simp only [encPg] at q116
 have hl := hp.l
 refine k42.pure (by simp) (by simp [go_sem]) (by simp [go_sem]) ?_
 simp -implicitDefEqProofs only [go_sem, c42, r42, encPg]
 refine aH hC (q116 _) fun x h1 ⟨y, hx, hk1, hy⟩ => ?_
 subst hx
 have o1 := hk1.got (i := 0) rfl
 have o1_g := fun l => aG (l := l) o1
 have o1_s := fun o l => aR (l := l) o1 o
 have o1_e := fun o l => aS (o := o) (l := l) o1
 have o1_h := fun o => aL (o := o) o1
 rcases hy with ⟨hy, k, rfl, hk⟩ | ⟨hy, rfl⟩
 ·have e0 : okE true = 0 := rfl
  by_cases hb : i < 0 ∨ i >= p.procs.length
  ·have hE : callsE p i = 1 := by simp [callsE, hy, hb]
   have hR : callsR p i = [] := by simp [callsR, hE]
   rw [hE, hR]
   have fin : ∃ y h', Wk GLs 0 [(0, .tup [.v (.slice none 0 0), .v (.int .i64 1)])] (h1 ++ [.cells 153 [.sl 3 (p.procs.map encPr), .mp k, .v (.map none)]]) [(0, y)] h' /\ h' = [] /\ ARes.val y = ARes.val (.tup [.sl 1 (([] : List Nat).map encN), .i 1]) := aF (wkr_pair wkr_nilN rfl) (by simp [go_sem])
   by_cases h0 : i < 0
   ·have d0 : decide (i < 0) = true := decide_eq_true h0
    simp -implicitDefEqProofs only [go_sem, hy, e0, bne_self_eq_false, d0]
    exact fin
   ·have d0 : decide (i < 0) = false := decide_eq_false h0
    have d1 : decide (i >= (p.procs.length : Int)) = true := decide_eq_true (hb.resolve_left h0)
    simp -implicitDefEqProofs only [go_sem, o1_g, hy, e0, bne_self_eq_false, d0, d1]
    exact fin
  ·have hE : callsE p i = 0 := by simp [callsE, hy, hb]
   have hR : callsR p i = calN p i.toNat := by simp [callsR, hE]
   rw [hE, hR]
   have h0 : ¬ i < 0 := fun h => hb (.inl h)
   have h1' : ¬ i >= p.procs.length := fun h => hb (.inr h)
   have d0 : decide (i < 0) = false := decide_eq_false h0
   have d1 : decide (i >= (p.procs.length : Int)) = false := decide_eq_false h1'
   have q := h133 p (hp.calls hy) i.toNat (by omega) k (h1 ++ [.cells 153 [.sl 3 (p.procs.map encPr), .mp k, .v (.map none)]]) (aG hk)
   rw [Int.toNat_of_nonneg (by omega)] at q
   simp -implicitDefEqProofs only [go_sem, o1_g, hy, e0, bne_self_eq_false, d0, d1]
   refine cS hC q fun h2 hk2 => ?_
   simp -implicitDefEqProofs only [go_sem]
   exact aF (wkr_refl _) (by simp [go_sem, free_encN.bds])
 ·have e0 : okE false = 5 := rfl
  have hE : callsE p i = 5 := by simp [callsE, hy]
  have hR : callsR p i = [] := by simp [callsR, hE]
  rw [hE, hR]
  simp -implicitDefEqProofs only [go_sem, hy, e0, bne50]
  exact aF (wkr_pair wkr_nilN rfl) (by simp [go_sem])
def rowM (p : Pg) (i : Nat) : List Bool := closeF (calN p) (calG p i)
def encRow (p : Pg) (i : Nat) : AV := .sl 1 ((rowM p i).map encB)
def rowsA (p : Pg) (j : Nat) : List AV := (List.range p.procs.length).map fun i => if i < j then encRow p i else .v (.slice none 0 0)
structure CH (p : Pg) (tb kt kd : Nat) (done : List Bool) (h : List AObj) : Prop where
 b : h[tb]? = some (.cells 89 [.vec kt 1 p.procs.length])
 t : h[kt]? = some (.buf 92 1 (rowsA p p.procs.length))
 d : h[kd]? = some (.buf 4 1 (done.map encB))
theorem CH.keep {p : Pg} {tb kt kd : Nat} {done : List Bool} {h h' : List AObj} (H : CH p tb kt kd done h) (k : Keep All h h') : CH p tb kt kd done h' := ⟨k.got H.b, k.got H.t, k.got H.d⟩
theorem CH.set {p : Pg} {tb kt kd : Nat} {done : List Bool} {h : List AObj} (H : CH p tb kt kd done h) (d2 : List Bool) : CH p tb kt kd d2 (h.set kd (.buf 4 1 (d2.map encB))) :=
 ⟨by rw [aT (dE H.d H.b (by simp))]; exact H.b, by rw [aT (dE H.d H.t (by simp))]; exact H.t, aL H.d⟩
structure RH (p : Pg) (ks : List Nat) (j : Nat) (h : List AObj) : Prop where
 n : ks.length = j
 r : ∀ i, i < j -> h[ks.getD i 0]? = some (.buf 4 1 ((rowM p i).map encB))
theorem RH.keep {p : Pg} {ks : List Nat} {j : Nat} {h h' : List AObj} {K : Nat -> AObj -> Prop} (H : RH p ks j h) (k : Keep K h h') (hn : ∀ i, i < j -> ∀ o, ¬ K (ks.getD i 0) o) : RH p ks j h' :=
 ⟨H.n, fun i hi => k.get (H.r i hi) (hn i hi _)⟩
theorem RH.all {p : Pg} {ks : List Nat} {j : Nat} {h h' : List AObj} (H : RH p ks j h) (k : Keep All h h') : RH p ks j h' := H.keep k fun _ _ _ h => h
theorem RH.lt {p : Pg} {ks : List Nat} {j : Nat} {h : List AObj} (H : RH p ks j h) {i : Nat} (hi : i < j) : ks.getD i 0 < h.length := aQ (H.r i hi)
theorem fzGs_terms (φ : Nat -> Nat -> Nat -> AV) (l : List Tm) : fzGs φ (l.map enc) = l.map enc := by rw [<- encs_map]; exact fzGs_encs φ l
theorem fzG_encCl (φ : Nat -> Nat -> Nat -> AV) (c : Cl) : fzG φ (encCl c) = encCl c := by simp only [encCl, fzG, fzGs, fzGs_terms]
theorem fzGs_cls (φ : Nat -> Nat -> Nat -> AV) : ∀ l : List Cl, fzGs φ (l.map encCl) = l.map encCl
 | [] => rfl
 | c :: r => by simp only [List.map_cons, fzGs, fzG_encCl, fzGs_cls φ r]
theorem fzG_encPr (φ : Nat -> Nat -> Nat -> AV) (q : Pr) : fzG φ (encPr q) = encPr q := by simp only [encPr, fzG, fzGs, fzGs_cls]
end Go.Rip
namespace Go.Rip
open Go Go.Proofs
set_option maxRecDepth 100000
theorem idxS_val {s : Sym} : ∀ {l : List Sym} {i : Nat}, idxS s l = some i -> ∃ h : i < l.length, l[i] = s
 | [], i, h => by cases h
 | k :: r, i, h => by
  simp only [idxS] at h
  split at h
  ·rename_i e
   obtain rfl := Option.some.inj h
   exact ⟨by simp, by simp [e]⟩
  ·obtain ⟨j, hj, rfl⟩ := Option.map_eq_some_iff.1 h
   obtain ⟨h1, h2⟩ := idxS_val hj
   exact ⟨by simpa using h1, by simpa using h2⟩
theorem findS_val {s : Sym} {l : List Sym} {i : Nat} (h : findS s l = i) : ∃ h : i < l.length, l[i] = s := by
 unfold findS at h
 split at h
 ·rename_i j hj
  obtain rfl : j = i := by omega
  exact idxS_val hj
 ·omega
def Pr.fine (q : Pr) : Bool := nameOk q.name && (!decide (q.arity < 0) && (!decide (q.arity > 16) && (!q.sym.res && !decide ((q.clauses.length : Int) > 32))))
theorem dB : ∀ (l : List Pr) (seen : List Sym), headsOk seen l = true ↔ (l.map Pr.sym).Nodup /\ (∀ q ∈ l, q.sym ∉ seen) /\ ∀ q ∈ l, q.fine = true
 | [], seen => by simp [headsOk]
 | q :: r, seen => by
  rw [headsOk, Bool.and_eq_true, dB r]
  have hq : q.head seen = true ↔ q.sym ∉ seen /\ q.fine = true := by
   rw [Pr.head, Bool.and_eq_true, Bool.not_eq_true', decide_eq_false_iff_not]; rfl
  rw [hq, List.map_cons, List.nodup_cons]
  constructor
  ·rintro ⟨⟨h1, h2⟩, h3, h4, h5⟩
   refine ⟨⟨fun hm => ?_, h3⟩, fun x hx => ?_, fun x hx => ?_⟩
   ·obtain ⟨y, hy, e⟩ := List.mem_map.1 hm
    exact h4 y hy (by rw [e]; simp)
   ·rcases List.mem_cons.1 hx with e | hx
    ·rw [e]; exact h1
    ·exact fun h => h4 x hx (by simp [h])
   ·rcases List.mem_cons.1 hx with e | hx
    ·rw [e]; exact h2
    ·exact h5 x hx
  ·rintro ⟨⟨h1, h2⟩, h3, h4⟩
   refine ⟨⟨h3 q (by simp), h4 q (by simp)⟩, h2, fun x hx hm => ?_, fun x hx => h4 x (by simp [hx])⟩
   rcases List.mem_append.1 hm with hm | hm
   ·exact h3 x (by simp [hx]) hm
   ·exact h1 (List.mem_map.2 ⟨x, hx, List.mem_singleton.1 hm⟩)
theorem headsOk_sub {l m : List Pr} (h : l.Sublist m) (hm : headsOk [] m = true) : headsOk [] l = true := by
 rw [dB] at hm ⊢
 exact ⟨hm.1.sublist (h.map _), fun q hq => hm.2.1 q (h.subset hq), fun q hq => hm.2.2 q (h.subset hq)⟩
theorem tabled_syms {p : Pg} (h : p.tabled = true) : p.syms.Nodup := by
 simp only [Pg.tabled, Bool.and_eq_true] at h
 exact ((dB _ _).1 h.2).1
theorem goals_ok {p : Pg} (ha : ∀ x ∈ p.procs, okClauses p.syms [] x = true) {x : Pr} (hx : x ∈ p.procs) : okCalls p.syms [] x.goals = true := by
 have := ha x hx
 simp only [okClauses] at this
 rw [Pr.goals, okCalls_flat, List.all_eq_true]
 intro c hc
 have := List.all_eq_true.1 this c hc
 simp only [Bool.and_eq_true] at this
 exact this.2
theorem okCalls_iff {l : List Sym} {goals : List Tm} : okCalls l [] goals = true ↔ ∀ s ∈ calledS goals, s ∈ l := by
 rw [okCalls_nil, Bool.not_eq_true', List.any_eq_false]
 simp
theorem syms_get {p : Pg} {i : Nat} (h : i < p.syms.length) : p.syms[i] = (p.procs[i]'(by simpa [Pg.syms] using h)).sym := by simp [Pg.syms]
theorem called_in {p : Pg} (_hn : p.syms.Nodup) {goals : List Tm} (hg : okCalls p.syms [] goals = true) {s : Sym} (hs : s ∈ calledS goals) : ∃ k, ∃ hk : k < p.procs.length, p.procs[k].sym = s /\ mkd (calB p goals) k = true := by
 obtain ⟨k, hk, e⟩ := findS_mem (okCalls_iff.1 hg s hs)
 obtain ⟨h1, h2⟩ := findS_val e
 have hk' : k < p.procs.length := by simpa [Pg.syms] using hk
 refine ⟨k, hk', by rw [<- h2, syms_get], ?_⟩
 rw [mkd_calB hk']
 exact List.any_eq_true.2 ⟨s, hs, by simpa using e⟩
section
variable {p : Pg} {q : Qy} {S : List Bool}
theorem calN_mem {k x : Nat} (hk : k < p.procs.length) : x ∈ calN p k ↔ mkd (calB p p.procs[k].goals) x = true := by
 rw [calN, mem_nxs, calG]
 simp [List.getD, hk]
end
end Go.Rip
namespace Go.Rip
open Go
set_option maxRecDepth 100000
section
variable (g : Int -> Int)
theorem sym_sub {u : Tm} (hu : u.gkind = 1) : (u.sub (varF g)).sym = u.sym := by
 have h : u.kind ≠ 1 := fun h => by
  rw [Tm.gkind, if_pos (by simp [Tm.isSym, h])] at hu
  cases hu
 obtain ⟨_, b⟩ := cU g u
 rw [Tm.sym, Tm.sym, (b h).2.1, (b h).2.2, List.length_map]
theorem goal_call {u : Tm} (hf : u.isFun [64] 2 = false) (h : u.goal.1 = 1) : u.gkind = 1 /\ u.goal.2.2 = u := by
 simp only [Tm.goal, hf] at h ⊢
 split at h
 ·cases h
 ·rename_i h0
  rw [if_neg h0]
  exact ⟨h, rfl⟩
theorem callee_sub (t : Tm) : (t.sub (varF g)).callee = t.callee := by
 have gs := goal_sub g t
 rw [Tm.callee, Tm.callee, gs]
 by_cases h1 : t.goal.1 = 1
 ·have h1b : (t.goal.1 == 1) = true := by simpa using h1
  rw [if_pos h1b, if_pos h1b]
  congr 1
  cases hf : t.isFun [64] 2
  ·obtain ⟨a1, a2⟩ := goal_call hf h1
   obtain ⟨b1, b2⟩ := goal_call (u := t.sub (varF g)) (by rw [isFun_sub]; exact hf) (by rw [gs]; exact h1)
   rw [a2, b2]
   exact sym_sub g a1
  ·obtain ⟨a, b⟩ := cU g t
   have h5 : t.kind = 5 := by rw [(isFun_inv hf).1]; rfl
   have h : t.kind ≠ 1 := by omega
   rw [Tm.goal, hf] at h1
   rw [Tm.goal, Tm.goal, isFun_sub, hf, (b h).2.2]
   rcases hl : t.l with _ | ⟨x, _ | ⟨p, _ | ⟨q, r⟩⟩⟩
   ·rfl
   ·rfl
   ·rw [hl] at h1
    simp only [List.map_cons, List.map_nil] at h1 ⊢
    obtain ⟨pa, pb⟩ := cU g p
    split at h1
    ·cases h1
    ·rename_i hn
     have hp : p.kind ≠ 1 := fun e => hn (.inl (by omega))
     have hn2 : ¬((p.sub (varF g)).kind ≠ 2 ∨ (p.sub (varF g)).n < 0 ∨ (p.sub (varF g)).n > 15 ∨ (x.sub (varF g)).gkind = 0) := by
      rw [pa, (pb hp).1, gkind_sub]; exact hn
     rw [if_neg hn, if_neg hn2]
     exact sym_sub g h1
   ·rfl
 ·have h1b : ¬ (t.goal.1 == 1) = true := by simpa using h1
  rw [if_neg h1b, if_neg h1b]
theorem calledS_sub (l : List Tm) : calledS (l.map (Tm.sub (varF g))) = calledS l := by
 rw [calledS, calledS, List.filterMap_map]
 congr 1
 funext t
 exact callee_sub g t
end
theorem okCalls_sublist {l : List Sym} {a b : List Tm} (h : a.Sublist b) (hb : okCalls l [] b = true) : okCalls l [] a = true := by
 rw [okCalls] at hb ⊢
 exact List.all_eq_true.2 fun x hx => List.all_eq_true.1 hb x (h.subset hx)
theorem normal_calls {c : Cl} (h : nodesOks c.parts = true) : calledS c.normal.body = calledS c.body := by
 rw [normal_eq h]; exact calledS_sub _ _
theorem ok_erase {p : Pg} (hok : p.ok = true) {k : Nat} (hn : ∀ i, i < p.procs.length -> i ≠ k -> k ∉ calN p i) : (⟨p.procs.eraseIdx k⟩ : Pg).ok = true := by
 have hs : (p.procs.eraseIdx k).Sublist p.procs := List.eraseIdx_sublist _ _
 simp only [Pg.ok, Bool.and_eq_true, List.all_eq_true] at hok
 obtain ⟨ht, ha⟩ := hok
 have hsy := tabled_syms ht
 have ht' := ht
 simp only [Pg.tabled, Bool.and_eq_true] at ht'
 simp only [Pg.ok, Pg.tabled, Bool.and_eq_true]
 refine ⟨⟨?_, headsOk_sub hs ht'.2⟩, List.all_eq_true.2 fun x hx => ?_⟩
 ·have h1 := hs.length_le
  have h2 := ht'.1
  simp only [Bool.not_eq_true', decide_eq_false_iff_not] at h2 ⊢
  omega
 ·have hx' := hs.subset hx
  have h1 := ha x hx'
  obtain ⟨i, hi, hik, rfl⟩ := List.mem_eraseIdx_iff_getElem.1 hx
  have hg := goals_ok (p := p) ha hx'
  have hc : okCalls (Pg.syms ⟨p.procs.eraseIdx k⟩) [] p.procs[i].goals = true := by
   rw [okCalls_iff]
   intro s hs
   obtain ⟨j, hj, e, hm⟩ := called_in hsy hg hs
   have hjk : j ≠ k := fun e => hn i hi hik (by rw [calN_mem hi]; exact e ▸ hm)
   rw [<- e]
   exact List.mem_map.2 ⟨p.procs[j], List.mem_eraseIdx_iff_getElem.2 ⟨j, hj, hjk, rfl⟩, rfl⟩
  simp only [okClauses] at h1 ⊢
  rw [Pr.goals, okCalls_flat] at hc
  refine List.all_eq_true.2 fun c hcm => ?_
  have h2 := List.all_eq_true.1 h1 c hcm
  have h3 := List.all_eq_true.1 hc c hcm
  simp only [Bool.and_eq_true] at h2 ⊢
  exact ⟨h2.1, h3⟩
theorem ok_set {p : Pg} (hok : p.ok = true) {k : Nat} (hk : k < p.procs.length) {cs : List Cl} (hl : cs.length <= p.procs[k].clauses.length) (hc : ∀ c ∈ cs, c.ok p.procs[k].arity = true /\ okCalls p.syms [] c.body = true) :
  (⟨p.procs.set k ⟨p.procs[k].name, p.procs[k].arity, cs⟩⟩ : Pg).ok = true := by
 simp only [Pg.ok, Bool.and_eq_true, List.all_eq_true] at hok
 obtain ⟨ht, ha⟩ := hok
 have hsy : Pg.syms ⟨p.procs.set k ⟨p.procs[k].name, p.procs[k].arity, cs⟩⟩ = p.syms := by
  simp only [Pg.syms, List.map_set]
  apply List.ext_getElem (by simp)
  intro i h1 h2
  rw [List.getElem_set]
  split
  ·subst_vars; simp [Pr.sym]
  ·rfl
 simp only [Pg.tabled, Bool.and_eq_true] at ht
 obtain ⟨h1, h2, h3⟩ := (dB _ _).1 ht.2
 simp only [Pg.ok, Pg.tabled, Bool.and_eq_true, List.length_set]
 refine ⟨⟨ht.1, (dB _ _).2 ⟨?_, fun q _ => by simp, fun q hq => ?_⟩⟩, List.all_eq_true.2 fun x hx => ?_⟩
 ·have : List.map Pr.sym (p.procs.set k ⟨p.procs[k].name, p.procs[k].arity, cs⟩) = p.syms := hsy
  rw [this]; exact h1
 ·rcases List.mem_or_eq_of_mem_set hq with hq | rfl
  ·exact h3 q hq
  ·have := h3 _ (List.getElem_mem hk)
   simp only [Pr.fine, Bool.and_eq_true, Bool.not_eq_true', decide_eq_false_iff_not] at this ⊢
   exact ⟨this.1, this.2.1, this.2.2.1, this.2.2.2.1, by omega⟩
 ·rw [hsy]
  rcases List.mem_or_eq_of_mem_set hx with hx | rfl
  ·exact ha x hx
  ·simp only [okClauses]
   exact List.all_eq_true.2 fun c hcm => by
    have := hc c hcm
    simp only [Bool.and_eq_true]; exact this
end Go.Rip
namespace Go.Rip
open Go Go.Proofs
set_option maxRecDepth 100000
def c6 : ACode :=
 RG [E1 5 (.box 37 T0), MV 10 (CB false)] (.seq (RG [E1 19 (.call 16 []), E1 20 (.un .not T19)] (.cond T20 (RG [MV 10 (CB false)] .ret) .skip)) (.seq (RG [E1 21 (LT 1 T5), E1 22 (.call 27 [T21]), E1 23 (.un .not T22), MV 24 T23, E2 25 24 false (LT 1 T5), E2 26 24 false (.call 32 [T25]), E2 27 24 false (.bin .neq .no T26 (CI 0)), E1 28 (.pick T24 (CB true) T27), MV 29 T28, E2 30 29 false (.move T1), E2 31 29 false (.bin .lss .no T30 (CI 0)), E1 32 (.pick T29 (CB true) T31), MV 33 T32, E2 34 33 false (.move T1), E2 35 33 false (FA 0 T5), E2 36 33 false (LD T35), E2 37 33 false (.len .sl T36), E2 38 33 false (.bin .geq .no T34 T37), E1 39 (.pick T33 (CB true) T38)] (.cond T39 (RG [MV 10 (CB true)] .ret) .skip)) (RG [E1 40 (FA 0 T5), E1 41 (LD T40), E1 42 (.call 41 [T41]), E1 43 (.build [.v (.slice none 0 0)] [(0, 1, T42)]), E1 11 (.alloc 37 [.v (.slice none 0 0)]), E0 (.store 1 T11 T43)] (RG [MV 12 (CB false)] (.seq (RG [E1 44 (FA 0 T5), E1 45 (LD T44), E1 46 (.len .sl T45),
  MV 47 (CI 0)] (.block 0 (.loop (RG [E1 48 (.bin .lss .no T47 T46)] (.seq (.cond T48 .skip (.exit 0)) (.seq (.block 1 (RG [MV 49 T47, MV 13 T49] (RG [E1 51 (LT 1 T5), MV 52 T13, E1 53 (.call 42 [T51, T52]), MV 50 T53, E1 54 (.extract T50 0), E1 55 (.extract T50 1), MV 14 T54, MV 15 T55] (.seq (RG [MV 56 T15, E1 57 (.bin .neq .no T56 (CI 0))] (.cond T57 (RG [MV 10 (CB false)] .ret) .skip)) (.region [MV 58 T12, MV 59 T58, E2 60 59 false (.move T13), E2 61 59 false (.move T1), E2 62 59 false (.bin .neq .no T60 T61), E2 63 59 false (.move T62), E2 64 63 true (.move T14), E2 65 63 true (.move T1), E2 66 63 true (.call 43 [T64, T65]), E2 67 59 false (.pick T63 T66 (CB false)), E1 68 (.pick T59 (CB true) T67), MV 12 T68]))))) (.region [E1 69 (.bin .add .no T47 (CI 1)), MV 47 T69]))))))) (.seq (RG [MV 70 T3, E1 71 (.bin .eql .no T70 (CI 0))] (.cond T71 (RG [MV 72 T12, MV 73 T72, E2 74 73 false (FA 0 T11), E2 75 73 false (LD T74), E2 76 73 false (.move T1),
  E2 77 73 false (.call 44 [T75, T76]), E2 78 73 false (.build [.v (.slice none 0 0)] [(0, 1, T77)]), E2 79 73 false (.call 32 [T78]), E2 80 73 false (.bin .eql .no T79 (CI 0)), E1 81 (.pick T73 (CB true) T80), MV 10 T81] .ret) .skip)) (RG [E1 82 (FA 0 T11), E1 83 (LD T82), MV 84 T1, E1 85 (IA 3 T83 T84), E1 86 (LT 3 T85), E1 16 (.alloc 60 [.str [], .v (.int .i64 0), .v (.slice none 0 0)]), E0 (.store 3 T16 T86)] (.seq (RG [MV 87 T2, E1 88 (.bin .lss .no T87 (CI 0)), MV 89 T88, E2 90 89 false (.move T2), E2 91 89 false (FA 2 T16), E2 92 89 false (LD T91), E2 93 89 false (.len .sl T92), E2 94 89 false (.bin .geq .no T90 T93), E1 95 (.pick T89 (CB true) T94)] (.cond T95 (RG [MV 10 (CB true)] .ret) .skip)) (.seq (RG [MV 96 T3, E1 97 (.bin .eql .no T96 (CI 1))] (.cond T97 (RG [E1 98 (FA 2 T16), E1 99 (LD T98), MV 100 T2, E1 101 (.call 45 [T99, T100]), E1 102 (FA 2 T16), E0 (.store 1 T102 T101)] (RG [E1 103 (FA 0 T11), E1 104 (LD T103), MV 105 T1, E1 106 (LT 3 T16),
  E1 107 (IA 3 T104 T105), E0 (.store 3 T107 T106)] (RG [E1 108 (LT 1 T11), E1 109 (.call 32 [T108]), E1 110 (.bin .eql .no T109 (CI 0)), MV 10 T110] .ret))) .skip)) (RG [E1 111 (FA 2 T16), E1 112 (LD T111), MV 113 T2, E1 114 (IA 5 T112 T113), E1 115 (LT 5 T114), E1 17 (.alloc 68 [.v (.int .i64 0), .v (.int .i64 0), .v (.slice none 0 0), .v (.slice none 0 0), .v (.slice none 0 0)]), E0 (.store 5 T17 T115)] (.seq (RG [MV 116 T3, E1 117 (.bin .eql .no T116 (CI 2)), MV 118 T117, E2 119 118 true (.move T4), E2 120 118 true (.bin .geq .no T119 (CI 0)), E1 121 (.pick T118 T120 (CB false)), MV 122 T121, E2 123 122 true (.move T4), E2 124 122 true (FA 3 T17), E2 125 122 true (LD T124), E2 126 122 true (.len .sl T125), E2 127 122 true (.bin .lss .no T123 T126), E1 128 (.pick T122 T127 (CB false))] (.cond (.t 128) (.region [E1 129 (FA 3 T17), E1 130 (LD (.t 129)), MV 131 T4, E1 132 (.call 46 [.t 130, .t 131]), E1 133 (FA 3 T17), E0 (.store 1 (.t 133) (.t 132))]) (RG [MV 134 T4,
  E1 135 (.bin .geq .no (.t 134) (CI 0)), MV 136 (.t 135), E2 137 136 true (.move T4), E2 138 136 true (FA 4 T17), E2 139 136 true (LD (.t 138)), E2 140 136 true (.len .sl (.t 139)), E2 141 136 true (.bin .lss .no (.t 137) (.t 140)), E1 142 (.pick (.t 136) (.t 141) (CB false))] (.cond (.t 142) (.region [E1 143 (FA 4 T17), E1 144 (LD (.t 143)), MV 145 T4, E1 146 (.call 46 [.t 144, .t 145]), E1 147 (FA 4 T17), E0 (.store 1 (.t 147) (.t 146))]) .skip)))) (RG [E1 149 (LT 5 T17), E1 150 (.call 47 [.t 149]), MV 148 (.t 150), E1 151 (.extract (.t 148) 0), E1 152 (.extract (.t 148) 1), E0 (.store 5 T17 (.t 151)), MV 18 (.t 152)] (.seq (RG [MV 153 T18, E1 154 (.bin .neq .no (.t 153) (CI 0))] (.cond (.t 154) (RG [MV 10 (CB false)] .ret) .skip)) (RG [E1 155 (FA 2 T16), E1 156 (LD (.t 155)), E1 157 (.call 48 [.t 156]), E1 158 (FA 2 T16), E0 (.store 1 (.t 158) (.t 157))] (RG [E1 159 (FA 2 T16), E1 160 (LD (.t 159)), MV 161 T2, E1 162 (LT 5 T17), E1 163 (IA 5 (.t 160) (.t 161)),
  E0 (.store 5 (.t 163) (.t 162))] (RG [E1 164 (FA 0 T11), E1 165 (LD (.t 164)), MV 166 T1, E1 167 (LT 3 T16), E1 168 (IA 3 (.t 165) (.t 166)), E0 (.store 3 (.t 168) (.t 167))] (RG [E1 169 (LT 1 T11), E1 170 (.call 32 [.t 169]), E1 171 (.bin .eql .no (.t 170) (CI 0)), MV 10 (.t 171)] .ret)))))))))))))))))
def r6 : List ARet := [.tmp 10]
def c41 : ACode :=
 RG [E1 2 (.move (.c (.v (.slice none 0 0))))] (.seq (RG [MV 3 T0, E1 4 (.bin .eql .sl T3 (.c (.v (.slice none 0 0))))] (.cond T4 (RG [E1 2 (.move (.c (.v (.slice none 0 0))))] .ret) .skip)) (RG [E1 5 (.mkSlice 60 3 48 (.agg [.str [], .v (.int .i64 0), .v (.slice none 0 0)]) (CI 0) (CI 0)), MV 6 T0, E1 7 (.appendM 60 3 48 T5 T6), MV 2 T7] .ret))
def r41 : List ARet := [.tmp 2]
def c44 : ACode :=
 RG [E1 4 (.move (.c (.v (.slice none 0 0))))] (RG [MV 5 T0, E1 6 (.call 41 [T5]), MV 7 T1, MV 8 T1, E1 9 (.bin .add .no T8 (CI 1)), E1 10 (.call 135 [T6, T7, T9]), MV 4 T10] .ret)
def r44 : List ARet := [.tmp 4]
def c45 : ACode :=
 RG [E1 4 (.move (.c (.v (.slice none 0 0))))] (RG [MV 5 T0, E1 6 (.call 48 [T5]), MV 7 T1, MV 8 T1, E1 9 (.bin .add .no T8 (CI 1)), E1 10 (.call 136 [T6, T7, T9]), MV 4 T10] .ret)
def r45 : List ARet := [.tmp 4]
def c46 : ACode :=
 RG [E1 4 (.move (.c (.v (.slice none 0 0))))] (RG [MV 5 T0, E1 6 (.call 138 [T5]), MV 7 T1, MV 8 T1, E1 9 (.bin .add .no T8 (CI 1)), E1 10 (.call 137 [T6, T7, T9]), MV 4 T10] .ret)
def r46 : List ARet := [.tmp 4]
def c48 : ACode :=
 RG [E1 2 (.move (.c (.v (.slice none 0 0))))] (.seq (RG [MV 3 T0, E1 4 (.bin .eql .sl T3 (.c (.v (.slice none 0 0))))] (.cond T4 (RG [E1 2 (.move (.c (.v (.slice none 0 0))))] .ret) .skip)) (RG [E1 5 (.mkSlice 68 5 88 (.agg [.v (.int .i64 0), .v (.int .i64 0), .v (.slice none 0 0), .v (.slice none 0 0), .v (.slice none 0 0)]) (CI 0) (CI 0)), MV 6 T0, E1 7 (.appendM 68 5 88 T5 T6), MV 2 T7] .ret))
def r48 : List ARet := [.tmp 2]
def c135 : ACode :=
 RG [E1 6 (.move (.c (.v (.slice none 0 0))))] (RG [MV 8 T0, MV 9 T1, MV 10 T2, MV 11 T0, E1 12 (.len .sl T11), E1 13 (.sliceV 3 T8 (some T9) (some T10) (some T12))] (.seq (RG [MV 14 T1, MV 15 T2, E1 16 (.bin .eql .no T14 T15)] (.cond T16 (RG [MV 17 T0, MV 6 T17] .ret) .skip)) (RG [MV 18 T0, E1 19 (.len .sl T18), MV 7 T19] (.seq (.drawn [(MV 20 T0, []), (MV 21 T1, []), (E1 22 (.sliceV 3 T20 none (some T21) none), [0, 1]), (MV 23 T0, []), (MV 24 T2, []), (E1 25 (.sliceV 3 T23 (some T24) none none), [3, 4]), (E1 26 (.appendM 60 3 48 T22 T25), [2, 5]), (MV 0 T26, [6, 6, 0, 1, 2, 3, 4, 5, 6])]) (RG [MV 27 T0, MV 28 T0, E1 29 (.len .sl T28), MV 30 T7, E1 31 (.sliceV 3 T27 (some T29) (some T30) none), E0 (.clear 60 3 (.agg [.str [], .v (.int .i64 0), .v (.slice none 0 0)]) T31)] (RG [MV 32 T0, MV 6 T32] .ret))))))
def r135 : List ARet := [.tmp 6]
def c136 : ACode :=
 RG [E1 6 (.move (.c (.v (.slice none 0 0))))] (RG [MV 8 T0, MV 9 T1, MV 10 T2, MV 11 T0, E1 12 (.len .sl T11), E1 13 (.sliceV 5 T8 (some T9) (some T10) (some T12))] (.seq (RG [MV 14 T1, MV 15 T2, E1 16 (.bin .eql .no T14 T15)] (.cond T16 (RG [MV 17 T0, MV 6 T17] .ret) .skip)) (RG [MV 18 T0, E1 19 (.len .sl T18), MV 7 T19] (.seq (.drawn [(MV 20 T0, []), (MV 21 T1, []), (E1 22 (.sliceV 5 T20 none (some T21) none), [0, 1]), (MV 23 T0, []), (MV 24 T2, []), (E1 25 (.sliceV 5 T23 (some T24) none none), [3, 4]), (E1 26 (.appendM 68 5 88 T22 T25), [2, 5]), (MV 0 T26, [6, 6, 0, 1, 2, 3, 4, 5, 6])]) (RG [MV 27 T0, MV 28 T0, E1 29 (.len .sl T28), MV 30 T7, E1 31 (.sliceV 5 T27 (some T29) (some T30) none), E0 (.clear 68 5 (.agg [.v (.int .i64 0), .v (.int .i64 0), .v (.slice none 0 0), .v (.slice none 0 0), .v (.slice none 0 0)]) T31)] (RG [MV 32 T0, MV 6 T32] .ret))))))
def r136 : List ARet := [.tmp 6]
def c137 : ACode :=
 RG [E1 6 (.move (.c (.v (.slice none 0 0))))] (RG [MV 8 T0, MV 9 T1, MV 10 T2, MV 11 T0, E1 12 (.len .sl T11), E1 13 (.sliceV 4 T8 (some T9) (some T10) (some T12))] (.seq (RG [MV 14 T1, MV 15 T2, E1 16 (.bin .eql .no T14 T15)] (.cond T16 (RG [MV 17 T0, MV 6 T17] .ret) .skip)) (RG [MV 18 T0, E1 19 (.len .sl T18), MV 7 T19] (.seq (.drawn [(MV 20 T0, []), (MV 21 T1, []), (E1 22 (.sliceV 4 T20 none (some T21) none), [0, 1]), (MV 23 T0, []), (MV 24 T2, []), (E1 25 (.sliceV 4 T23 (some T24) none none), [3, 4]), (E1 26 (.appendM 24 4 56 T22 T25), [2, 5]), (MV 0 T26, [6, 6, 0, 1, 2, 3, 4, 5, 6])]) (RG [MV 27 T0, MV 28 T0, E1 29 (.len .sl T28), MV 30 T7, E1 31 (.sliceV 4 T27 (some T29) (some T30) none), E0 (.clear 24 4 (.agg [.v (.int .i64 0), .v (.int .i64 0), .str [], .v (.slice none 0 0)]) T31)] (RG [MV 32 T0, MV 6 T32] .ret))))))
def r137 : List ARet := [.tmp 6]
def c138 : ACode :=
 RG [E1 2 (.move (.c (.v (.slice none 0 0))))] (.seq (RG [MV 3 T0, E1 4 (.bin .eql .sl T3 (.c (.v (.slice none 0 0))))] (.cond T4 (RG [E1 2 (.move (.c (.v (.slice none 0 0))))] .ret) .skip)) (RG [E1 5 (.mkSlice 24 4 56 (.agg [.v (.int .i64 0), .v (.int .i64 0), .str [], .v (.slice none 0 0)]) (CI 0) (CI 0)), MV 6 T0, E1 7 (.appendM 24 4 56 T5 T6), MV 2 T7] .ret))
def r138 : List ARet := [.tmp 2]
theorem k6 : Coded Tryz.prog 6 c6 r6 172 := ⟨_, Tryz.func6, by kernel_rfl, by kernel_rfl, by kernel_rfl⟩
theorem k41 : Coded Tryz.prog 41 c41 r41 8 := ⟨_, Tryz.func41, by kernel_rfl, by kernel_rfl, by kernel_rfl⟩
theorem k44 : Coded Tryz.prog 44 c44 r44 11 := ⟨_, Tryz.func44, by kernel_rfl, by kernel_rfl, by kernel_rfl⟩
theorem k45 : Coded Tryz.prog 45 c45 r45 11 := ⟨_, Tryz.func45, by kernel_rfl, by kernel_rfl, by kernel_rfl⟩
theorem k46 : Coded Tryz.prog 46 c46 r46 11 := ⟨_, Tryz.func46, by kernel_rfl, by kernel_rfl, by kernel_rfl⟩
theorem k48 : Coded Tryz.prog 48 c48 r48 8 := ⟨_, Tryz.func48, by kernel_rfl, by kernel_rfl, by kernel_rfl⟩
theorem k135 : Coded Tryz.prog 135 c135 r135 33 := ⟨_, Tryz.func135, by kernel_rfl, by kernel_rfl, by kernel_rfl⟩
theorem k136 : Coded Tryz.prog 136 c136 r136 33 := ⟨_, Tryz.func136, by kernel_rfl, by kernel_rfl, by kernel_rfl⟩
theorem k137 : Coded Tryz.prog 137 c137 r137 33 := ⟨_, Tryz.func137, by kernel_rfl, by kernel_rfl, by kernel_rfl⟩
theorem k138 : Coded Tryz.prog 138 c138 r138 8 := ⟨_, Tryz.func138, by kernel_rfl, by kernel_rfl, by kernel_rfl⟩
end Go.Rip
namespace Go.Rip
open Go
set_option maxRecDepth 100000
variable {GL : Glob}
attribute [local irreducible] Pure
theorem toNat0 : Int.toNat 0 = 0 := rfl
theorem h41 (x : AV) (l : List AV) (hl : (l.length + 1) * 48 <= 2 ^ 47) (h : List AObj) : Gives (PC GL) 41 [.sl 3 (x :: l)] h fun y h' => y = .vec (h.length + 1) 3 (l.length + 1) /\ h' = h ++ [.dead, .buf 60 3 (x :: l)] := by
 refine k41.gives (by simp) ?_
 simp -implicitDefEqProofs only [go_sem, c41, r41, toNat0, List.replicate_zero, List.length_nil, Nat.zero_add, List.nil_append]
 exact ⟨by omega, ⟨by omega, hl⟩, aK (by simp) ⟨rfl, by simp⟩⟩
theorem h48 (x : AV) (l : List AV) (hl : (l.length + 1) * 88 <= 2 ^ 47) (h : List AObj) : Gives (PC GL) 48 [.sl 5 (x :: l)] h fun y h' => y = .vec (h.length + 1) 5 (l.length + 1) /\ h' = h ++ [.dead, .buf 68 5 (x :: l)] := by
 refine k48.gives (by simp) ?_
 simp -implicitDefEqProofs only [go_sem, c48, r48, toNat0, List.replicate_zero, List.length_nil, Nat.zero_add, List.nil_append]
 exact ⟨by omega, ⟨by omega, hl⟩, aK (by simp) ⟨rfl, by simp⟩⟩
theorem h138 (x : AV) (l : List AV) (hl : (l.length + 1) * 56 <= 2 ^ 47) (h : List AObj) : Gives (PC GL) 138 [.sl 4 (x :: l)] h fun y h' => y = .vec (h.length + 1) 4 (l.length + 1) /\ h' = h ++ [.dead, .buf 24 4 (x :: l)] := by
 refine k138.gives (by simp) ?_
 simp -implicitDefEqProofs only [go_sem, c138, r138, toNat0, List.replicate_zero, List.length_nil, Nat.zero_add, List.nil_append]
 exact ⟨by omega, ⟨by omega, hl⟩, aK (by simp) ⟨rfl, by simp⟩⟩
def restA (k sz n i : Nat) : AV := if i + 1 < n then .view k sz (i + 1) (n - (i + 1)) else .sl sz []
structure JD (k sz n i : Nat) (h h6 : List AObj) (d : List Nat) (τ : List (Nat × AV)) (hh : List AObj) : Prop where
 h0 : 6 ∉ d -> hh = h
 h6 : 6 ∈ d -> hh = h6
 t0 : 7 ∉ d -> tget τ 0 = .vec k sz n
 t7 : 7 ∈ d -> tget τ 0 = .vec k sz (n - 1)
 t1 : tget τ 1 = .i i
 t2 : tget τ 2 = .i ((i + 1 : Nat) : Int)
 tn : tget τ 7 = .i n
 v0 : 0 ∈ d -> tget τ 20 = .vec k sz n
 v1 : 1 ∈ d -> tget τ 21 = .i i
 v2 : 2 ∈ d -> tget τ 22 = .view k sz 0 i
 v3 : 3 ∈ d -> tget τ 23 = .vec k sz n
 v4 : 4 ∈ d -> tget τ 24 = .i ((i + 1 : Nat) : Int)
 v5 : 5 ∈ d -> tget τ 25 = restA k sz n i
 v6 : 6 ∈ d -> tget τ 26 = .vec k sz (n - 1)
 d6 : 6 ∈ d -> 2 ∈ d /\ 5 ∈ d
 d7 : 7 ∈ d -> ∀ j, j < 7 -> j ∈ d
theorem h135 (l : List AV) (i : Nat) (hi : i < l.length) (hl : l.length <= 2 ^ 40) (k : Nat) (h : List AObj) (hk : h[k]? = some (.buf 60 3 l)) : Gives (PC GL) 135 [.vec k 3 l.length, .i i, .i ((i + 1 : Nat) : Int)] h fun y h' => y = .vec k 3 (l.length - 1) /\ h' = h.set k (.buf 60 3 (put (put l i (l.drop (i + 1))) (l.length - 1) [.agg [.str [], .v (.int .i64 0), .v (.slice none 0 0)]])) := by
 have e : ((i : Int) == ((i + 1 : Nat) : Int)) = false := by simp; omega
 refine k135.gives (by simp) ?_
 simp -implicitDefEqProofs only [go_sem, c135, r135, hk, e]
 refine ⟨by omega, w_drawn (JD k 3 l.length i h (h.set k (.buf 60 3 (put l i (l.drop (i + 1)))))) ?_ ?_ ?_⟩
 ·constructor <;> simp [tget]
 ·intro d τ hh j e hJ he hj hd
  rcases j with _|_|_|_|_|_|_|_|j
  all_goals (first | (simp only [List.getElem?_cons_succ, List.getElem?_cons_zero, Option.some.injEq] at he; subst he) | (simp at he; done))
  ·have n7 : 7 ∉ d := fun h => hj (hJ.d7 h 0 (by omega))
   simp -implicitDefEqProofs only [go_sem, hJ.t0 n7]
   exact ⟨by simpa using hJ.h0, by simpa using hJ.h6, by simpa [tget] using hJ.t0, by simpa [tget] using hJ.t7, by simpa [tget] using hJ.t1, by simpa [tget] using hJ.t2, by simpa [tget] using hJ.tn, fun _ => by simp [tget], by simpa [tget] using hJ.v1, by simpa [tget] using hJ.v2, by simpa [tget] using hJ.v3, by simpa [tget] using hJ.v4, by simpa [tget] using hJ.v5, by simpa [tget] using hJ.v6, fun hm => (by have := hJ.d6 (by simpa using hm); exact ⟨List.mem_cons_of_mem _ this.1, List.mem_cons_of_mem _ this.2⟩), fun hm j hj => List.mem_cons_of_mem _ (hJ.d7 (by simpa using hm) j hj)⟩
  ·simp -implicitDefEqProofs only [go_sem, hJ.t1]
   exact ⟨by simpa using hJ.h0, by simpa using hJ.h6, by simpa [tget] using hJ.t0, by simpa [tget] using hJ.t7, by simpa [tget] using hJ.t1, by simpa [tget] using hJ.t2, by simpa [tget] using hJ.tn, by simpa [tget] using hJ.v0, fun _ => by simp [tget], by simpa [tget] using hJ.v2, by simpa [tget] using hJ.v3, by simpa [tget] using hJ.v4, by simpa [tget] using hJ.v5, by simpa [tget] using hJ.v6, fun hm => (by have := hJ.d6 (by simpa using hm); exact ⟨List.mem_cons_of_mem _ this.1, List.mem_cons_of_mem _ this.2⟩), fun hm j hj => List.mem_cons_of_mem _ (hJ.d7 (by simpa using hm) j hj)⟩
  ·have n6 : 6 ∉ d := fun h => hj (hJ.d6 h).1
   obtain rfl := hJ.h0 n6
   simp -implicitDefEqProofs only [go_sem, hJ.v0 (hd 0 (by simp)), hJ.v1 (hd 1 (by simp)), hk]
   have b0 : Nat.blt (Int.toNat 0) l.length = true := Nat.ble_eq_true_of_le (by rw [toNat0]; omega)
   refine ⟨⟨by omega, by omega, by omega, by omega⟩, ?_⟩
   rw [b0]
   exact ⟨by simp, by simpa using hJ.h6, by simpa [tget] using hJ.t0, by simpa [tget] using hJ.t7, by simpa [tget] using hJ.t1, by simpa [tget] using hJ.t2, by simpa [tget] using hJ.tn, by simpa [tget] using hJ.v0, by simpa [tget] using hJ.v1, fun _ => by simp [tget], by simpa [tget] using hJ.v3, by simpa [tget] using hJ.v4, by simpa [tget] using hJ.v5, by simpa [tget] using hJ.v6, fun hm => (by have := hJ.d6 (by simpa using hm); exact ⟨List.mem_cons_of_mem _ this.1, List.mem_cons_of_mem _ this.2⟩), fun hm j hj => List.mem_cons_of_mem _ (hJ.d7 (by simpa using hm) j hj)⟩
  ·have n7 : 7 ∉ d := fun h => hj (hJ.d7 h 3 (by omega))
   simp -implicitDefEqProofs only [go_sem, hJ.t0 n7]
   exact ⟨by simpa using hJ.h0, by simpa using hJ.h6, by simpa [tget] using hJ.t0, by simpa [tget] using hJ.t7, by simpa [tget] using hJ.t1, by simpa [tget] using hJ.t2, by simpa [tget] using hJ.tn, by simpa [tget] using hJ.v0, by simpa [tget] using hJ.v1, by simpa [tget] using hJ.v2, fun _ => by simp [tget], by simpa [tget] using hJ.v4, by simpa [tget] using hJ.v5, by simpa [tget] using hJ.v6, fun hm => (by have := hJ.d6 (by simpa using hm); exact ⟨List.mem_cons_of_mem _ this.1, List.mem_cons_of_mem _ this.2⟩), fun hm j hj => List.mem_cons_of_mem _ (hJ.d7 (by simpa using hm) j hj)⟩
  ·simp -implicitDefEqProofs only [go_sem, hJ.t2]
   exact ⟨by simpa using hJ.h0, by simpa using hJ.h6, by simpa [tget] using hJ.t0, by simpa [tget] using hJ.t7, by simpa [tget] using hJ.t1, by simpa [tget] using hJ.t2, by simpa [tget] using hJ.tn, by simpa [tget] using hJ.v0, by simpa [tget] using hJ.v1, by simpa [tget] using hJ.v2, by simpa [tget] using hJ.v3, fun _ => by simp [tget], by simpa [tget] using hJ.v5, by simpa [tget] using hJ.v6, fun hm => (by have := hJ.d6 (by simpa using hm); exact ⟨List.mem_cons_of_mem _ this.1, List.mem_cons_of_mem _ this.2⟩), fun hm j hj => List.mem_cons_of_mem _ (hJ.d7 (by simpa using hm) j hj)⟩
  ·have n6 : 6 ∉ d := fun h => hj (hJ.d6 h).2
   obtain rfl := hJ.h0 n6
   simp -implicitDefEqProofs only [go_sem, hJ.v3 (hd 3 (by simp)), hJ.v4 (hd 4 (by simp)), hk]
   refine ⟨⟨by omega, by omega, by omega, by omega⟩, ?_⟩
   by_cases hlt : i + 1 < l.length
   ·have b0 : Nat.blt (i + 1) l.length = true := Nat.ble_eq_true_of_le (by omega)
    rw [b0]
    exact ⟨by simp, by simpa using hJ.h6, by simpa [tget] using hJ.t0, by simpa [tget] using hJ.t7, by simpa [tget] using hJ.t1, by simpa [tget] using hJ.t2, by simpa [tget] using hJ.tn, by simpa [tget] using hJ.v0, by simpa [tget] using hJ.v1, by simpa [tget] using hJ.v2, by simpa [tget] using hJ.v3, by simpa [tget] using hJ.v4, fun _ => by simp [tget, restA, hlt], by simpa [tget] using hJ.v6, fun hm => (by have := hJ.d6 (by simpa using hm); exact ⟨List.mem_cons_of_mem _ this.1, List.mem_cons_of_mem _ this.2⟩), fun hm j hj => List.mem_cons_of_mem _ (hJ.d7 (by simpa using hm) j hj)⟩
   ·have b0 : Nat.blt (i + 1) l.length = false := by rw [Bool.eq_false_iff]; intro hb; exact hlt (Nat.le_of_ble_eq_true hb)
    rw [b0]
    exact ⟨by simp, by simpa using hJ.h6, by simpa [tget] using hJ.t0, by simpa [tget] using hJ.t7, by simpa [tget] using hJ.t1, by simpa [tget] using hJ.t2, by simpa [tget] using hJ.tn, by simpa [tget] using hJ.v0, by simpa [tget] using hJ.v1, by simpa [tget] using hJ.v2, by simpa [tget] using hJ.v3, by simpa [tget] using hJ.v4, fun _ => by simp [tget, restA, hlt], by simpa [tget] using hJ.v6, fun hm => (by have := hJ.d6 (by simpa using hm); exact ⟨List.mem_cons_of_mem _ this.1, List.mem_cons_of_mem _ this.2⟩), fun hm j hj => List.mem_cons_of_mem _ (hJ.d7 (by simpa using hm) j hj)⟩
  ·obtain rfl := hJ.h0 hj
   simp -implicitDefEqProofs only [go_sem, hJ.v2 (hd 2 (by simp)), hJ.v5 (hd 5 (by simp)), hk]
   have em : elemsA hh 3 (restA k 3 l.length i) = some (l.drop (i + 1)) := by
    unfold restA
    split
    ·rename_i hlt
     have hb : Nat.ble (i + 1 + (l.length - (i + 1))) l.length = true := Nat.ble_eq_true_of_le (by omega)
     simp only [elemsA, hk, hb]
     rw [List.take_of_length_le (by simp)]
    ·rename_i hlt
     rw [List.drop_eq_nil_of_le (by omega)]
     simp [elemsA]
   have en : i + (l.drop (i + 1)).length = l.length - 1 := by simp; omega
   rw [em]
   refine ⟨⟨by omega, by omega⟩, ?_⟩
   rw [en]
   exact ⟨fun hn => (by simp at hn), fun _ => rfl, by simpa [tget] using hJ.t0, by simpa [tget] using hJ.t7, by simpa [tget] using hJ.t1, by simpa [tget] using hJ.t2, by simpa [tget] using hJ.tn, by simpa [tget] using hJ.v0, by simpa [tget] using hJ.v1, by simpa [tget] using hJ.v2, by simpa [tget] using hJ.v3, by simpa [tget] using hJ.v4, by simpa [tget] using hJ.v5, fun _ => by simp [tget], fun _ => ⟨List.mem_cons_of_mem _ (hd 2 (by simp)), List.mem_cons_of_mem _ (hd 5 (by simp))⟩, fun hm j hj => List.mem_cons_of_mem _ (hJ.d7 (by simpa using hm) j hj)⟩
  ·have m6 : 6 ∈ d := hd 6 (by simp)
   simp -implicitDefEqProofs only [go_sem, hJ.v6 m6]
   exact ⟨by simpa using hJ.h0, by simpa using hJ.h6, fun hn => (by simp at hn), fun _ => by simp [tget], by simpa [tget] using hJ.t1, by simpa [tget] using hJ.t2, by simpa [tget] using hJ.tn, by simpa [tget] using hJ.v0, by simpa [tget] using hJ.v1, by simpa [tget] using hJ.v2, by simpa [tget] using hJ.v3, by simpa [tget] using hJ.v4, by simpa [tget] using hJ.v5, by simpa [tget] using hJ.v6, fun hm => (by have := hJ.d6 (by simpa using hm); exact ⟨List.mem_cons_of_mem _ this.1, List.mem_cons_of_mem _ this.2⟩), fun _ j hj => List.mem_cons_of_mem _ (hd j (by simp; omega))⟩
 ·intro d τ hh hJ ha
  obtain rfl := hJ.h6 (ha 6 (by simp))
  have t0 := hJ.t7 (ha 7 (by simp))
  simp -implicitDefEqProofs only [go_sem, t0, hJ.tn, aL hk]
  have hp : (put l i (l.drop (i + 1))).length = l.length := by simp [put]; omega
  have h1 : l.length - (l.length - 1) = 1 := by omega
  have h2 : l.length - 1 + 1 = l.length := by omega
  have hb : Nat.blt (l.length - 1) l.length = true := Nat.ble_eq_true_of_le (by omega)
  have hkl := aQ hk
  rw [hp, hb, h1, h2]
  refine ⟨⟨by omega, by omega, by omega, by omega⟩, by omega, ?_⟩
  rw [List.set_set]
  exact aK (by simp) ⟨rfl, rfl⟩
theorem h136 (l : List AV) (i : Nat) (hi : i < l.length) (hl : l.length <= 2 ^ 40) (k : Nat) (h : List AObj) (hk : h[k]? = some (.buf 68 5 l)) : Gives (PC GL) 136 [.vec k 5 l.length, .i i, .i ((i + 1 : Nat) : Int)] h fun y h' => y = .vec k 5 (l.length - 1) /\ h' = h.set k (.buf 68 5 (put (put l i (l.drop (i + 1))) (l.length - 1) [.agg [.v (.int .i64 0), .v (.int .i64 0), .v (.slice none 0 0), .v (.slice none 0 0), .v (.slice none 0 0)]])) := by
 have e : ((i : Int) == ((i + 1 : Nat) : Int)) = false := by simp; omega
 refine k136.gives (by simp) ?_
 simp -implicitDefEqProofs only [go_sem, c136, r136, hk, e]
 refine ⟨by omega, w_drawn (JD k 5 l.length i h (h.set k (.buf 68 5 (put l i (l.drop (i + 1)))))) ?_ ?_ ?_⟩
 ·constructor <;> simp [tget]
 ·intro d τ hh j e hJ he hj hd
  rcases j with _|_|_|_|_|_|_|_|j
  all_goals (first | (simp only [List.getElem?_cons_succ, List.getElem?_cons_zero, Option.some.injEq] at he; subst he) | (simp at he; done))
  ·have n7 : 7 ∉ d := fun h => hj (hJ.d7 h 0 (by omega))
   simp -implicitDefEqProofs only [go_sem, hJ.t0 n7]
   exact ⟨by simpa using hJ.h0, by simpa using hJ.h6, by simpa [tget] using hJ.t0, by simpa [tget] using hJ.t7, by simpa [tget] using hJ.t1, by simpa [tget] using hJ.t2, by simpa [tget] using hJ.tn, fun _ => by simp [tget], by simpa [tget] using hJ.v1, by simpa [tget] using hJ.v2, by simpa [tget] using hJ.v3, by simpa [tget] using hJ.v4, by simpa [tget] using hJ.v5, by simpa [tget] using hJ.v6, fun hm => (by have := hJ.d6 (by simpa using hm); exact ⟨List.mem_cons_of_mem _ this.1, List.mem_cons_of_mem _ this.2⟩), fun hm j hj => List.mem_cons_of_mem _ (hJ.d7 (by simpa using hm) j hj)⟩
  ·simp -implicitDefEqProofs only [go_sem, hJ.t1]
   exact ⟨by simpa using hJ.h0, by simpa using hJ.h6, by simpa [tget] using hJ.t0, by simpa [tget] using hJ.t7, by simpa [tget] using hJ.t1, by simpa [tget] using hJ.t2, by simpa [tget] using hJ.tn, by simpa [tget] using hJ.v0, fun _ => by simp [tget], by simpa [tget] using hJ.v2, by simpa [tget] using hJ.v3, by simpa [tget] using hJ.v4, by simpa [tget] using hJ.v5, by simpa [tget] using hJ.v6, fun hm => (by have := hJ.d6 (by simpa using hm); exact ⟨List.mem_cons_of_mem _ this.1, List.mem_cons_of_mem _ this.2⟩), fun hm j hj => List.mem_cons_of_mem _ (hJ.d7 (by simpa using hm) j hj)⟩
  ·have n6 : 6 ∉ d := fun h => hj (hJ.d6 h).1
   obtain rfl := hJ.h0 n6
   simp -implicitDefEqProofs only [go_sem, hJ.v0 (hd 0 (by simp)), hJ.v1 (hd 1 (by simp)), hk]
   have b0 : Nat.blt (Int.toNat 0) l.length = true := Nat.ble_eq_true_of_le (by rw [toNat0]; omega)
   refine ⟨⟨by omega, by omega, by omega, by omega⟩, ?_⟩
   rw [b0]
   exact ⟨by simp, by simpa using hJ.h6, by simpa [tget] using hJ.t0, by simpa [tget] using hJ.t7, by simpa [tget] using hJ.t1, by simpa [tget] using hJ.t2, by simpa [tget] using hJ.tn, by simpa [tget] using hJ.v0, by simpa [tget] using hJ.v1, fun _ => by simp [tget], by simpa [tget] using hJ.v3, by simpa [tget] using hJ.v4, by simpa [tget] using hJ.v5, by simpa [tget] using hJ.v6, fun hm => (by have := hJ.d6 (by simpa using hm); exact ⟨List.mem_cons_of_mem _ this.1, List.mem_cons_of_mem _ this.2⟩), fun hm j hj => List.mem_cons_of_mem _ (hJ.d7 (by simpa using hm) j hj)⟩
  ·have n7 : 7 ∉ d := fun h => hj (hJ.d7 h 3 (by omega))
   simp -implicitDefEqProofs only [go_sem, hJ.t0 n7]
   exact ⟨by simpa using hJ.h0, by simpa using hJ.h6, by simpa [tget] using hJ.t0, by simpa [tget] using hJ.t7, by simpa [tget] using hJ.t1, by simpa [tget] using hJ.t2, by simpa [tget] using hJ.tn, by simpa [tget] using hJ.v0, by simpa [tget] using hJ.v1, by simpa [tget] using hJ.v2, fun _ => by simp [tget], by simpa [tget] using hJ.v4, by simpa [tget] using hJ.v5, by simpa [tget] using hJ.v6, fun hm => (by have := hJ.d6 (by simpa using hm); exact ⟨List.mem_cons_of_mem _ this.1, List.mem_cons_of_mem _ this.2⟩), fun hm j hj => List.mem_cons_of_mem _ (hJ.d7 (by simpa using hm) j hj)⟩
  ·simp -implicitDefEqProofs only [go_sem, hJ.t2]
   exact ⟨by simpa using hJ.h0, by simpa using hJ.h6, by simpa [tget] using hJ.t0, by simpa [tget] using hJ.t7, by simpa [tget] using hJ.t1, by simpa [tget] using hJ.t2, by simpa [tget] using hJ.tn, by simpa [tget] using hJ.v0, by simpa [tget] using hJ.v1, by simpa [tget] using hJ.v2, by simpa [tget] using hJ.v3, fun _ => by simp [tget], by simpa [tget] using hJ.v5, by simpa [tget] using hJ.v6, fun hm => (by have := hJ.d6 (by simpa using hm); exact ⟨List.mem_cons_of_mem _ this.1, List.mem_cons_of_mem _ this.2⟩), fun hm j hj => List.mem_cons_of_mem _ (hJ.d7 (by simpa using hm) j hj)⟩
  ·have n6 : 6 ∉ d := fun h => hj (hJ.d6 h).2
   obtain rfl := hJ.h0 n6
   simp -implicitDefEqProofs only [go_sem, hJ.v3 (hd 3 (by simp)), hJ.v4 (hd 4 (by simp)), hk]
   refine ⟨⟨by omega, by omega, by omega, by omega⟩, ?_⟩
   by_cases hlt : i + 1 < l.length
   ·have b0 : Nat.blt (i + 1) l.length = true := Nat.ble_eq_true_of_le (by omega)
    rw [b0]
    exact ⟨by simp, by simpa using hJ.h6, by simpa [tget] using hJ.t0, by simpa [tget] using hJ.t7, by simpa [tget] using hJ.t1, by simpa [tget] using hJ.t2, by simpa [tget] using hJ.tn, by simpa [tget] using hJ.v0, by simpa [tget] using hJ.v1, by simpa [tget] using hJ.v2, by simpa [tget] using hJ.v3, by simpa [tget] using hJ.v4, fun _ => by simp [tget, restA, hlt], by simpa [tget] using hJ.v6, fun hm => (by have := hJ.d6 (by simpa using hm); exact ⟨List.mem_cons_of_mem _ this.1, List.mem_cons_of_mem _ this.2⟩), fun hm j hj => List.mem_cons_of_mem _ (hJ.d7 (by simpa using hm) j hj)⟩
   ·have b0 : Nat.blt (i + 1) l.length = false := by rw [Bool.eq_false_iff]; intro hb; exact hlt (Nat.le_of_ble_eq_true hb)
    rw [b0]
    exact ⟨by simp, by simpa using hJ.h6, by simpa [tget] using hJ.t0, by simpa [tget] using hJ.t7, by simpa [tget] using hJ.t1, by simpa [tget] using hJ.t2, by simpa [tget] using hJ.tn, by simpa [tget] using hJ.v0, by simpa [tget] using hJ.v1, by simpa [tget] using hJ.v2, by simpa [tget] using hJ.v3, by simpa [tget] using hJ.v4, fun _ => by simp [tget, restA, hlt], by simpa [tget] using hJ.v6, fun hm => (by have := hJ.d6 (by simpa using hm); exact ⟨List.mem_cons_of_mem _ this.1, List.mem_cons_of_mem _ this.2⟩), fun hm j hj => List.mem_cons_of_mem _ (hJ.d7 (by simpa using hm) j hj)⟩
  ·obtain rfl := hJ.h0 hj
   simp -implicitDefEqProofs only [go_sem, hJ.v2 (hd 2 (by simp)), hJ.v5 (hd 5 (by simp)), hk]
   have em : elemsA hh 5 (restA k 5 l.length i) = some (l.drop (i + 1)) := by
    unfold restA
    split
    ·rename_i hlt
     have hb : Nat.ble (i + 1 + (l.length - (i + 1))) l.length = true := Nat.ble_eq_true_of_le (by omega)
     simp only [elemsA, hk, hb]
     rw [List.take_of_length_le (by simp)]
    ·rename_i hlt
     rw [List.drop_eq_nil_of_le (by omega)]
     simp [elemsA]
   have en : i + (l.drop (i + 1)).length = l.length - 1 := by simp; omega
   rw [em]
   refine ⟨⟨by omega, by omega⟩, ?_⟩
   rw [en]
   exact ⟨fun hn => (by simp at hn), fun _ => rfl, by simpa [tget] using hJ.t0, by simpa [tget] using hJ.t7, by simpa [tget] using hJ.t1, by simpa [tget] using hJ.t2, by simpa [tget] using hJ.tn, by simpa [tget] using hJ.v0, by simpa [tget] using hJ.v1, by simpa [tget] using hJ.v2, by simpa [tget] using hJ.v3, by simpa [tget] using hJ.v4, by simpa [tget] using hJ.v5, fun _ => by simp [tget], fun _ => ⟨List.mem_cons_of_mem _ (hd 2 (by simp)), List.mem_cons_of_mem _ (hd 5 (by simp))⟩, fun hm j hj => List.mem_cons_of_mem _ (hJ.d7 (by simpa using hm) j hj)⟩
  ·have m6 : 6 ∈ d := hd 6 (by simp)
   simp -implicitDefEqProofs only [go_sem, hJ.v6 m6]
   exact ⟨by simpa using hJ.h0, by simpa using hJ.h6, fun hn => (by simp at hn), fun _ => by simp [tget], by simpa [tget] using hJ.t1, by simpa [tget] using hJ.t2, by simpa [tget] using hJ.tn, by simpa [tget] using hJ.v0, by simpa [tget] using hJ.v1, by simpa [tget] using hJ.v2, by simpa [tget] using hJ.v3, by simpa [tget] using hJ.v4, by simpa [tget] using hJ.v5, by simpa [tget] using hJ.v6, fun hm => (by have := hJ.d6 (by simpa using hm); exact ⟨List.mem_cons_of_mem _ this.1, List.mem_cons_of_mem _ this.2⟩), fun _ j hj => List.mem_cons_of_mem _ (hd j (by simp; omega))⟩
 ·intro d τ hh hJ ha
  obtain rfl := hJ.h6 (ha 6 (by simp))
  have t0 := hJ.t7 (ha 7 (by simp))
  simp -implicitDefEqProofs only [go_sem, t0, hJ.tn, aL hk]
  have hp : (put l i (l.drop (i + 1))).length = l.length := by simp [put]; omega
  have h1 : l.length - (l.length - 1) = 1 := by omega
  have h2 : l.length - 1 + 1 = l.length := by omega
  have hb : Nat.blt (l.length - 1) l.length = true := Nat.ble_eq_true_of_le (by omega)
  have hkl := aQ hk
  rw [hp, hb, h1, h2]
  refine ⟨⟨by omega, by omega, by omega, by omega⟩, by omega, ?_⟩
  rw [List.set_set]
  exact aK (by simp) ⟨rfl, rfl⟩
theorem h137 (l : List AV) (i : Nat) (hi : i < l.length) (hl : l.length <= 2 ^ 40) (k : Nat) (h : List AObj) (hk : h[k]? = some (.buf 24 4 l)) : Gives (PC GL) 137 [.vec k 4 l.length, .i i, .i ((i + 1 : Nat) : Int)] h fun y h' => y = .vec k 4 (l.length - 1) /\ h' = h.set k (.buf 24 4 (put (put l i (l.drop (i + 1))) (l.length - 1) [.agg [.v (.int .i64 0), .v (.int .i64 0), .str [], .v (.slice none 0 0)]])) := by
 have e : ((i : Int) == ((i + 1 : Nat) : Int)) = false := by simp; omega
 refine k137.gives (by simp) ?_
 simp -implicitDefEqProofs only [go_sem, c137, r137, hk, e]
 refine ⟨by omega, w_drawn (JD k 4 l.length i h (h.set k (.buf 24 4 (put l i (l.drop (i + 1)))))) ?_ ?_ ?_⟩
 ·constructor <;> simp [tget]
 ·intro d τ hh j e hJ he hj hd
  rcases j with _|_|_|_|_|_|_|_|j
  all_goals (first | (simp only [List.getElem?_cons_succ, List.getElem?_cons_zero, Option.some.injEq] at he; subst he) | (simp at he; done))
  ·have n7 : 7 ∉ d := fun h => hj (hJ.d7 h 0 (by omega))
   simp -implicitDefEqProofs only [go_sem, hJ.t0 n7]
   exact ⟨by simpa using hJ.h0, by simpa using hJ.h6, by simpa [tget] using hJ.t0, by simpa [tget] using hJ.t7, by simpa [tget] using hJ.t1, by simpa [tget] using hJ.t2, by simpa [tget] using hJ.tn, fun _ => by simp [tget], by simpa [tget] using hJ.v1, by simpa [tget] using hJ.v2, by simpa [tget] using hJ.v3, by simpa [tget] using hJ.v4, by simpa [tget] using hJ.v5, by simpa [tget] using hJ.v6, fun hm => (by have := hJ.d6 (by simpa using hm); exact ⟨List.mem_cons_of_mem _ this.1, List.mem_cons_of_mem _ this.2⟩), fun hm j hj => List.mem_cons_of_mem _ (hJ.d7 (by simpa using hm) j hj)⟩
  ·simp -implicitDefEqProofs only [go_sem, hJ.t1]
   exact ⟨by simpa using hJ.h0, by simpa using hJ.h6, by simpa [tget] using hJ.t0, by simpa [tget] using hJ.t7, by simpa [tget] using hJ.t1, by simpa [tget] using hJ.t2, by simpa [tget] using hJ.tn, by simpa [tget] using hJ.v0, fun _ => by simp [tget], by simpa [tget] using hJ.v2, by simpa [tget] using hJ.v3, by simpa [tget] using hJ.v4, by simpa [tget] using hJ.v5, by simpa [tget] using hJ.v6, fun hm => (by have := hJ.d6 (by simpa using hm); exact ⟨List.mem_cons_of_mem _ this.1, List.mem_cons_of_mem _ this.2⟩), fun hm j hj => List.mem_cons_of_mem _ (hJ.d7 (by simpa using hm) j hj)⟩
  ·have n6 : 6 ∉ d := fun h => hj (hJ.d6 h).1
   obtain rfl := hJ.h0 n6
   simp -implicitDefEqProofs only [go_sem, hJ.v0 (hd 0 (by simp)), hJ.v1 (hd 1 (by simp)), hk]
   have b0 : Nat.blt (Int.toNat 0) l.length = true := Nat.ble_eq_true_of_le (by rw [toNat0]; omega)
   refine ⟨⟨by omega, by omega, by omega, by omega⟩, ?_⟩
   rw [b0]
   exact ⟨by simp, by simpa using hJ.h6, by simpa [tget] using hJ.t0, by simpa [tget] using hJ.t7, by simpa [tget] using hJ.t1, by simpa [tget] using hJ.t2, by simpa [tget] using hJ.tn, by simpa [tget] using hJ.v0, by simpa [tget] using hJ.v1, fun _ => by simp [tget], by simpa [tget] using hJ.v3, by simpa [tget] using hJ.v4, by simpa [tget] using hJ.v5, by simpa [tget] using hJ.v6, fun hm => (by have := hJ.d6 (by simpa using hm); exact ⟨List.mem_cons_of_mem _ this.1, List.mem_cons_of_mem _ this.2⟩), fun hm j hj => List.mem_cons_of_mem _ (hJ.d7 (by simpa using hm) j hj)⟩
  ·have n7 : 7 ∉ d := fun h => hj (hJ.d7 h 3 (by omega))
   simp -implicitDefEqProofs only [go_sem, hJ.t0 n7]
   exact ⟨by simpa using hJ.h0, by simpa using hJ.h6, by simpa [tget] using hJ.t0, by simpa [tget] using hJ.t7, by simpa [tget] using hJ.t1, by simpa [tget] using hJ.t2, by simpa [tget] using hJ.tn, by simpa [tget] using hJ.v0, by simpa [tget] using hJ.v1, by simpa [tget] using hJ.v2, fun _ => by simp [tget], by simpa [tget] using hJ.v4, by simpa [tget] using hJ.v5, by simpa [tget] using hJ.v6, fun hm => (by have := hJ.d6 (by simpa using hm); exact ⟨List.mem_cons_of_mem _ this.1, List.mem_cons_of_mem _ this.2⟩), fun hm j hj => List.mem_cons_of_mem _ (hJ.d7 (by simpa using hm) j hj)⟩
  ·simp -implicitDefEqProofs only [go_sem, hJ.t2]
   exact ⟨by simpa using hJ.h0, by simpa using hJ.h6, by simpa [tget] using hJ.t0, by simpa [tget] using hJ.t7, by simpa [tget] using hJ.t1, by simpa [tget] using hJ.t2, by simpa [tget] using hJ.tn, by simpa [tget] using hJ.v0, by simpa [tget] using hJ.v1, by simpa [tget] using hJ.v2, by simpa [tget] using hJ.v3, fun _ => by simp [tget], by simpa [tget] using hJ.v5, by simpa [tget] using hJ.v6, fun hm => (by have := hJ.d6 (by simpa using hm); exact ⟨List.mem_cons_of_mem _ this.1, List.mem_cons_of_mem _ this.2⟩), fun hm j hj => List.mem_cons_of_mem _ (hJ.d7 (by simpa using hm) j hj)⟩
  ·have n6 : 6 ∉ d := fun h => hj (hJ.d6 h).2
   obtain rfl := hJ.h0 n6
   simp -implicitDefEqProofs only [go_sem, hJ.v3 (hd 3 (by simp)), hJ.v4 (hd 4 (by simp)), hk]
   refine ⟨⟨by omega, by omega, by omega, by omega⟩, ?_⟩
   by_cases hlt : i + 1 < l.length
   ·have b0 : Nat.blt (i + 1) l.length = true := Nat.ble_eq_true_of_le (by omega)
    rw [b0]
    exact ⟨by simp, by simpa using hJ.h6, by simpa [tget] using hJ.t0, by simpa [tget] using hJ.t7, by simpa [tget] using hJ.t1, by simpa [tget] using hJ.t2, by simpa [tget] using hJ.tn, by simpa [tget] using hJ.v0, by simpa [tget] using hJ.v1, by simpa [tget] using hJ.v2, by simpa [tget] using hJ.v3, by simpa [tget] using hJ.v4, fun _ => by simp [tget, restA, hlt], by simpa [tget] using hJ.v6, fun hm => (by have := hJ.d6 (by simpa using hm); exact ⟨List.mem_cons_of_mem _ this.1, List.mem_cons_of_mem _ this.2⟩), fun hm j hj => List.mem_cons_of_mem _ (hJ.d7 (by simpa using hm) j hj)⟩
   ·have b0 : Nat.blt (i + 1) l.length = false := by rw [Bool.eq_false_iff]; intro hb; exact hlt (Nat.le_of_ble_eq_true hb)
    rw [b0]
    exact ⟨by simp, by simpa using hJ.h6, by simpa [tget] using hJ.t0, by simpa [tget] using hJ.t7, by simpa [tget] using hJ.t1, by simpa [tget] using hJ.t2, by simpa [tget] using hJ.tn, by simpa [tget] using hJ.v0, by simpa [tget] using hJ.v1, by simpa [tget] using hJ.v2, by simpa [tget] using hJ.v3, by simpa [tget] using hJ.v4, fun _ => by simp [tget, restA, hlt], by simpa [tget] using hJ.v6, fun hm => (by have := hJ.d6 (by simpa using hm); exact ⟨List.mem_cons_of_mem _ this.1, List.mem_cons_of_mem _ this.2⟩), fun hm j hj => List.mem_cons_of_mem _ (hJ.d7 (by simpa using hm) j hj)⟩
  ·obtain rfl := hJ.h0 hj
   simp -implicitDefEqProofs only [go_sem, hJ.v2 (hd 2 (by simp)), hJ.v5 (hd 5 (by simp)), hk]
   have em : elemsA hh 4 (restA k 4 l.length i) = some (l.drop (i + 1)) := by
    unfold restA
    split
    ·rename_i hlt
     have hb : Nat.ble (i + 1 + (l.length - (i + 1))) l.length = true := Nat.ble_eq_true_of_le (by omega)
     simp only [elemsA, hk, hb]
     rw [List.take_of_length_le (by simp)]
    ·rename_i hlt
     rw [List.drop_eq_nil_of_le (by omega)]
     simp [elemsA]
   have en : i + (l.drop (i + 1)).length = l.length - 1 := by simp; omega
   rw [em]
   refine ⟨⟨by omega, by omega⟩, ?_⟩
   rw [en]
   exact ⟨fun hn => (by simp at hn), fun _ => rfl, by simpa [tget] using hJ.t0, by simpa [tget] using hJ.t7, by simpa [tget] using hJ.t1, by simpa [tget] using hJ.t2, by simpa [tget] using hJ.tn, by simpa [tget] using hJ.v0, by simpa [tget] using hJ.v1, by simpa [tget] using hJ.v2, by simpa [tget] using hJ.v3, by simpa [tget] using hJ.v4, by simpa [tget] using hJ.v5, fun _ => by simp [tget], fun _ => ⟨List.mem_cons_of_mem _ (hd 2 (by simp)), List.mem_cons_of_mem _ (hd 5 (by simp))⟩, fun hm j hj => List.mem_cons_of_mem _ (hJ.d7 (by simpa using hm) j hj)⟩
  ·have m6 : 6 ∈ d := hd 6 (by simp)
   simp -implicitDefEqProofs only [go_sem, hJ.v6 m6]
   exact ⟨by simpa using hJ.h0, by simpa using hJ.h6, fun hn => (by simp at hn), fun _ => by simp [tget], by simpa [tget] using hJ.t1, by simpa [tget] using hJ.t2, by simpa [tget] using hJ.tn, by simpa [tget] using hJ.v0, by simpa [tget] using hJ.v1, by simpa [tget] using hJ.v2, by simpa [tget] using hJ.v3, by simpa [tget] using hJ.v4, by simpa [tget] using hJ.v5, by simpa [tget] using hJ.v6, fun hm => (by have := hJ.d6 (by simpa using hm); exact ⟨List.mem_cons_of_mem _ this.1, List.mem_cons_of_mem _ this.2⟩), fun _ j hj => List.mem_cons_of_mem _ (hd j (by simp; omega))⟩
 ·intro d τ hh hJ ha
  obtain rfl := hJ.h6 (ha 6 (by simp))
  have t0 := hJ.t7 (ha 7 (by simp))
  simp -implicitDefEqProofs only [go_sem, t0, hJ.tn, aL hk]
  have hp : (put l i (l.drop (i + 1))).length = l.length := by simp [put]; omega
  have h1 : l.length - (l.length - 1) = 1 := by omega
  have h2 : l.length - 1 + 1 = l.length := by omega
  have hb : Nat.blt (l.length - 1) l.length = true := Nat.ble_eq_true_of_le (by omega)
  have hkl := aQ hk
  rw [hp, hb, h1, h2]
  refine ⟨⟨by omega, by omega, by omega, by omega⟩, by omega, ?_⟩
  rw [List.set_set]
  exact aK (by simp) ⟨rfl, rfl⟩
theorem del_eq (l : List AV) (i : Nat) (hi : i < l.length) (z : AV) : put (put l i (l.drop (i + 1))) (l.length - 1) [z] = l.eraseIdx i ++ [z] := by
 have e : put l i (l.drop (i + 1)) = l.eraseIdx i ++ l.drop (l.length - 1) := by
  rw [put, List.eraseIdx_eq_take_drop_succ, List.length_drop, show i + (l.length - (i + 1)) = l.length - 1 by omega, List.append_assoc]
 have hl : (l.eraseIdx i).length = l.length - 1 := List.length_eraseIdx_of_lt hi
 rw [e, put, <- hl, List.take_left, List.drop_append, List.drop_eq_nil_of_le (by simp)]
 simp [hl]; omega
theorem h44 (x : AV) (l : List AV) (i : Nat) (hi : i < l.length + 1) (hl : l.length < 2 ^ 30) (h : List AObj) : Gives (PC GL) 44 [.sl 3 (x :: l), .i i] h fun y h' => y = .vec (h.length + 1) 3 l.length /\ h' = h ++ [.dead, .buf 60 3 ((x :: l).eraseIdx i ++ [.agg [.str [], .v (.int .i64 0), .v (.slice none 0 0)]])] := by
 have w : IntKind.i64.wrap ((i : Int) + 1) = ((i + 1 : Nat) : Int) := by rw [aD _ (by omega)]; omega
 have e2 : h ++ [.dead, .buf 60 3 (x :: l)] = (h ++ [.dead]) ++ [.buf 60 3 (x :: l)] := by simp
 have hk : (h ++ [AObj.dead, .buf 60 3 (x :: l)])[h.length + 1]? = some (.buf 60 3 (x :: l)) := by
  rw [List.getElem?_append_right (by omega), show h.length + 1 - h.length = 1 by omega]; rfl
 have q := h135 (GL := GL) (x :: l) i (by simpa using hi) (by simp; omega) (h.length + 1) _ hk
 rw [del_eq _ _ (by simpa using hi)] at q
 refine k44.gives (by simp) ?_
 simp -implicitDefEqProofs only [go_sem, c44, r44]
 refine aH hC (h41 x l (by omega) h) fun y h1 ⟨e1, e2⟩ => ?_
 subst e1 e2
 simp -implicitDefEqProofs only [go_sem, w]
 refine aH hC q fun y h1 ⟨e1, e2⟩ => ?_
 subst e1 e2
 simp -implicitDefEqProofs only [go_sem]
 refine aK (by simp) ⟨by simp, ?_⟩
 rw [List.set_append_right _ _ (by omega), show h.length + 1 - h.length = 1 by omega]; rfl
theorem h45 (x : AV) (l : List AV) (i : Nat) (hi : i < l.length + 1) (hl : l.length < 2 ^ 30) (h : List AObj) : Gives (PC GL) 45 [.sl 5 (x :: l), .i i] h fun y h' => y = .vec (h.length + 1) 5 l.length /\ h' = h ++ [.dead, .buf 68 5 ((x :: l).eraseIdx i ++ [.agg [.v (.int .i64 0), .v (.int .i64 0), .v (.slice none 0 0), .v (.slice none 0 0), .v (.slice none 0 0)]])] := by
 have w : IntKind.i64.wrap ((i : Int) + 1) = ((i + 1 : Nat) : Int) := by rw [aD _ (by omega)]; omega
 have e2 : h ++ [.dead, .buf 68 5 (x :: l)] = (h ++ [.dead]) ++ [.buf 68 5 (x :: l)] := by simp
 have hk : (h ++ [AObj.dead, .buf 68 5 (x :: l)])[h.length + 1]? = some (.buf 68 5 (x :: l)) := by
  rw [List.getElem?_append_right (by omega), show h.length + 1 - h.length = 1 by omega]; rfl
 have q := h136 (GL := GL) (x :: l) i (by simpa using hi) (by simp; omega) (h.length + 1) _ hk
 rw [del_eq _ _ (by simpa using hi)] at q
 refine k45.gives (by simp) ?_
 simp -implicitDefEqProofs only [go_sem, c45, r45]
 refine aH hC (h48 x l (by omega) h) fun y h1 ⟨e1, e2⟩ => ?_
 subst e1 e2
 simp -implicitDefEqProofs only [go_sem, w]
 refine aH hC q fun y h1 ⟨e1, e2⟩ => ?_
 subst e1 e2
 simp -implicitDefEqProofs only [go_sem]
 refine aK (by simp) ⟨by simp, ?_⟩
 rw [List.set_append_right _ _ (by omega), show h.length + 1 - h.length = 1 by omega]; rfl
theorem h46 (x : AV) (l : List AV) (i : Nat) (hi : i < l.length + 1) (hl : l.length < 2 ^ 30) (h : List AObj) : Gives (PC GL) 46 [.sl 4 (x :: l), .i i] h fun y h' => y = .vec (h.length + 1) 4 l.length /\ h' = h ++ [.dead, .buf 24 4 ((x :: l).eraseIdx i ++ [.agg [.v (.int .i64 0), .v (.int .i64 0), .str [], .v (.slice none 0 0)]])] := by
 have w : IntKind.i64.wrap ((i : Int) + 1) = ((i + 1 : Nat) : Int) := by rw [aD _ (by omega)]; omega
 have e2 : h ++ [.dead, .buf 24 4 (x :: l)] = (h ++ [.dead]) ++ [.buf 24 4 (x :: l)] := by simp
 have hk : (h ++ [AObj.dead, .buf 24 4 (x :: l)])[h.length + 1]? = some (.buf 24 4 (x :: l)) := by
  rw [List.getElem?_append_right (by omega), show h.length + 1 - h.length = 1 by omega]; rfl
 have q := h137 (GL := GL) (x :: l) i (by simpa using hi) (by simp; omega) (h.length + 1) _ hk
 rw [del_eq _ _ (by simpa using hi)] at q
 refine k46.gives (by simp) ?_
 simp -implicitDefEqProofs only [go_sem, c46, r46]
 refine aH hC (h138 x l (by omega) h) fun y h1 ⟨e1, e2⟩ => ?_
 subst e1 e2
 simp -implicitDefEqProofs only [go_sem, w]
 refine aH hC q fun y h1 ⟨e1, e2⟩ => ?_
 subst e1 e2
 simp -implicitDefEqProofs only [go_sem]
 refine aK (by simp) ⟨by simp, ?_⟩
 rw [List.set_append_right _ _ (by omega), show h.length + 1 - h.length = 1 by omega]; rfl
end Go.Rip
namespace Go.Rip
open Go Go.Proofs
set_option maxRecDepth 100000
attribute [local irreducible] Pure
theorem okCalls_called (l : List Sym) {a b : List Tm} (h : calledS a = calledS b) : okCalls l [] a = okCalls l [] b := by
 rw [okCalls_nil, okCalls_nil, h]
theorem strss_of {l : List Tm} (h : ∀ x ∈ l, x.strs) : strss l := by simpa using strss_map (f := id) h
theorem ar16 {p : Pg} (hok : p.ok = true) {i : Nat} (hi : i < p.procs.length) : p.procs[i].arity <= 16 := by
 simp only [Pg.ok, Pg.tabled, Bool.and_eq_true] at hok
 have := ((dB _ _).1 hok.1.2).2.2 _ (List.getElem_mem hi)
 simp only [Pr.fine, Bool.and_eq_true, Bool.not_eq_true', decide_eq_false_iff_not] at this
 omega
theorem keep0 {p : Pg} (hp : p.small) (hok : p.ok = true) {i : Nat} (hn : ∀ j, j < p.procs.length -> j ≠ i -> i ∉ calN p j) : Pure (PC GLs) 32 [encPg ⟨p.procs.eraseIdx i⟩] (.i 0) := by
 have hs : (p.procs.eraseIdx i).Sublist p.procs := List.eraseIdx_sublist _ _
 have hf : (⟨p.procs.eraseIdx i⟩ : Pg).fits := (⟨by have := hs.length_le; have := hp.l; simp only; omega, fun q hq => hp.q q (hs.subset hq)⟩ : Pg.small _).fits
 have := h32 _ hf
 rwa [ok_erase hok hn] at this
theorem set_fits {p : Pg} (hp : p.small) {i : Nat} (hi : i < p.procs.length) {cs : List Cl} (hl : cs.length <= p.procs[i].clauses.length) (hc : ∀ c ∈ cs, sizes c.parts <= 5000 /\ strss c.parts) : (⟨p.procs.set i ⟨p.procs[i].name, p.procs[i].arity, cs⟩⟩ : Pg).fits := by
 refine (⟨by simp; exact hp.l, fun q hq => ?_⟩ : Pg.small _).fits
 rcases List.mem_or_eq_of_mem_set hq with hq | rfl
 ·exact hp.q q hq
 ·have := hp.q _ (List.getElem_mem hi)
  exact ⟨this.n, by have := this.c; simp only; omega, hc⟩
theorem keep1 {p : Pg} (hp : p.small) (hok : p.ok = true) {i : Nat} (hi : i < p.procs.length) {cs : List Cl} (hl : cs.length <= p.procs[i].clauses.length)
  (hc : ∀ c ∈ cs, (sizes c.parts <= 5000 /\ strss c.parts) /\ c.ok p.procs[i].arity = true /\ okCalls p.syms [] c.body = true) : Pure (PC GLs) 32 [encPg ⟨p.procs.set i ⟨p.procs[i].name, p.procs[i].arity, cs⟩⟩] (.i 0) := by
 have := h32 _ (set_fits hp hi hl fun c h => (hc c h).1)
 rwa [ok_set hok hi hl fun c h => (hc c h).2] at this
theorem ok_cl {p : Pg} (hp : p.small) (hok : p.ok = true) {i : Nat} (hi : i < p.procs.length) : ∀ c ∈ p.procs[i].clauses, (sizes c.parts <= 5000 /\ strss c.parts) /\ c.ok p.procs[i].arity = true /\ okCalls p.syms [] c.body = true := fun c hc => by
 refine ⟨(hp.q _ (List.getElem_mem hi)).t c hc, ?_⟩
 simp only [Pg.ok, Bool.and_eq_true, List.all_eq_true] at hok
 have := hok.2 _ (List.getElem_mem hi)
 simp only [okClauses, List.all_eq_true, Bool.and_eq_true] at this
 exact this c hc
theorem keep_erase {p : Pg} (hp : p.small) (hok : p.ok = true) {i : Nat} (hi : i < p.procs.length) (k : Nat) : Pure (PC GLs) 32 [encPg ⟨p.procs.set i ⟨p.procs[i].name, p.procs[i].arity, p.procs[i].clauses.eraseIdx k⟩⟩] (.i 0) :=
 keep1 hp hok hi (List.eraseIdx_sublist _ _).length_le fun c hc => ok_cl hp hok hi c ((List.eraseIdx_sublist _ _).subset hc)
theorem ok_head {c : Cl} {ar : Int} (h : c.ok ar = true) : (c.head.length : Int) = ar := by
 simp only [Cl.ok, Cl.shaped, Cl.bad, Bool.and_eq_true, Bool.not_eq_true', Bool.or_eq_false_iff, decide_eq_false_iff_not, bne_eq_false_iff_eq] at h
 exact h.1.1.2.2.1
theorem keep_less {p : Pg} (hp : p.small) (hok : p.ok = true) {i : Nat} (hi : i < p.procs.length) {k : Nat} (hk : k < p.procs[i].clauses.length) {d : Cl} (hm : d.mark = p.procs[i].clauses[k].mark) (hh : d.head = p.procs[i].clauses[k].head)
  (hg : d.guard.Sublist p.procs[i].clauses[k].guard) (hb : d.body.Sublist p.procs[i].clauses[k].body) : Pure (PC GLs) 47 [encCl d] (.tup [encCl d.normal, .i 0]) /\
   Pure (PC GLs) 32 [encPg ⟨p.procs.set i ⟨p.procs[i].name, p.procs[i].arity, p.procs[i].clauses.set k d.normal⟩⟩] (.i 0) := by
 have hc := ok_cl hp hok hi _ (List.getElem_mem hk)
 obtain ⟨⟨h1, h2⟩, h3, h4⟩ := hc
 have h5 := ok_head h3
 have h6 := ar16 hok hi
 have hsh : d.shaped p.procs[i].arity = true := by
  refine shaped_less ?_ hm hh hg hb
  simp only [Cl.ok, Bool.and_eq_true] at h3
  exact h3.1
 have hps : d.parts.Sublist p.procs[i].clauses[k].parts := by
  rw [Cl.parts, Cl.parts, hh]
  exact (List.Sublist.refl _).append (hg.append hb)
 have hsz := sizes_sub_le hps
 have hst : strss d.parts := strss_of fun x hx => cA h2 x (hps.subset hx)
 have hdl : (d.head.length : Int) = p.procs[i].arity := by rw [hh]; exact h5
 have hno : nodesOks d.parts = true := by have := shaped_terms hsh; simp only [termsOk, Bool.and_eq_true] at this; exact this.1
 refine ⟨h47ok d (by omega) hst (by omega) (by rw [hdl]; exact hsh), keep1 hp hok hi (by simp) fun c hc => ?_⟩
 rcases List.mem_or_eq_of_mem_set hc with hc | rfl
 ·exact ok_cl hp hok hi c hc
 ·refine ⟨⟨?_, ?_⟩, normal_ok hsh, ?_⟩
  ·rw [normal_eq hno, mapT_parts]
   have := sizes_sub (gI (varsOf d.parts)) d.parts
   omega
  ·rw [normal_eq hno, mapT_parts]
   exact strss_map fun x hx => strs_sub _ x (cA hst x hx)
  ·rw [okCalls_called p.syms (normal_calls hno)]
   exact okCalls_sublist hb h4
theorem h41L (L : List AV) (h0 : 0 < L.length) (hl : L.length * 48 <= 2 ^ 47) (h : List AObj) : Gives (PC GLs) 41 [.sl 3 L] h fun y h' => y = .vec (h.length + 1) 3 L.length /\ h' = h ++ [.dead, .buf 60 3 L] := by
 cases L with
 | nil => cases h0
 | cons x l => exact h41 x l hl h
theorem h48L (L : List AV) (h0 : 0 < L.length) (hl : L.length * 88 <= 2 ^ 47) (h : List AObj) : Gives (PC GLs) 48 [.sl 5 L] h fun y h' => y = .vec (h.length + 1) 5 L.length /\ h' = h ++ [.dead, .buf 68 5 L] := by
 cases L with
 | nil => cases h0
 | cons x l => exact h48 x l hl h
theorem h44L (L : List AV) (i : Nat) (hi : i < L.length) (hl : L.length < 2 ^ 30) (h : List AObj) : Gives (PC GLs) 44 [.sl 3 L, .i i] h fun y h' => y = .vec (h.length + 1) 3 (L.length - 1) /\ ∃ z, h' = h ++ [.dead, .buf 60 3 (L.eraseIdx i ++ [z])] := by
 cases L with
 | nil => cases hi
 | cons x l => exact aH hC (h44 x l i hi (by simp at hl; omega) h) fun y h' ⟨e1, e2⟩ => ⟨y, rfl, e1, _, e2⟩
theorem h45L (L : List AV) (i : Nat) (hi : i < L.length) (hl : L.length < 2 ^ 30) (h : List AObj) : Gives (PC GLs) 45 [.sl 5 L, .i i] h fun y h' => y = .vec (h.length + 1) 5 (L.length - 1) /\ ∃ z, h' = h ++ [.dead, .buf 68 5 (L.eraseIdx i ++ [z])] := by
 cases L with
 | nil => cases hi
 | cons x l => exact aH hC (h45 x l i hi (by simp at hl; omega) h) fun y h' ⟨e1, e2⟩ => ⟨y, rfl, e1, _, e2⟩
theorem h46L (L : List AV) (i : Nat) (hi : i < L.length) (hl : L.length < 2 ^ 30) (h : List AObj) : Gives (PC GLs) 46 [.sl 4 L, .i i] h fun y h' => y = .vec (h.length + 1) 4 (L.length - 1) /\ ∃ z, h' = h ++ [.dead, .buf 24 4 (L.eraseIdx i ++ [z])] := by
 cases L with
 | nil => cases hi
 | cons x l => exact aH hC (h46 x l i hi (by simp at hl; omega) h) fun y h' ⟨e1, e2⟩ => ⟨y, rfl, e1, _, e2⟩
theorem fzN_free {α : Type} {e : α -> AV} (he : ∀ φ a, fzG φ (e a) = e a) (h : List AObj) : ∀ (n : Nat) (a : α), fzN h n (e a) = e a
 | 0, a => he _ a
 | _ + 1, a => he _ a
theorem fzN_frees {α : Type} {e : α -> AV} (he : ∀ φ a, fzG φ (e a) = e a) (h : List AObj) (n : Nat) (l : List α) : (l.map e).map (fzN h n) = l.map e := by
 rw [List.map_map]
 exact List.map_congr_left fun a _ => fzN_free he h n a
theorem fzN_pr {h : List AObj} {k T s n : Nat} {cs : List Cl} {z : List AV} {nm : List UInt8} {ar : Int} (hk : h[k]? = some (.buf T s (cs.map encCl ++ z))) (hn : n = cs.length) : fzN h 2 (.agg [.str nm, .i ar, .vec k 5 n]) = encPr ⟨nm, ar, cs⟩ := by
 subst hn
 simp only [fzN, fzG, fzGs, hk]
 rw [show Nat.ble cs.length (cs.map encCl ++ z).length = true from Nat.ble_eq_true_of_le (by simp)]
 simp only [encPr]
 rw [show cs.length = (cs.map encCl).length by simp, List.take_left]
 have := fzN_frees fzG_encCl h 1 cs
 simp only [fzN] at this
 rw [this]
theorem fzN_pg {h : List AObj} {k T s n : Nat} {L : List AV} {ps : List Pr} (hk : h[k]? = some (.buf T s L)) (hn : n <= L.length) (hL : (L.take n).map (fzN h 2) = ps.map encPr) : fzN h 3 (.agg [.vec k 3 n]) = encPg ⟨ps⟩ := by
 rw [fzN]
 simp only [fzG, fzGs, hk]
 rw [show Nat.ble n L.length = true from Nat.ble_eq_true_of_le hn]
 simp only [encPg, hL]
theorem bT {ps : List Pr} {h : List AObj} {k n : Nat} (e : fzN h 3 (.agg [.vec k 3 n]) = encPg ⟨ps⟩) (hc : Pure (PC GLs) 32 [encPg ⟨ps⟩] (.i 0)) {R : ARes -> List AObj -> Prop} (hR : R (.val (.i 0)) h) : PC GLs (.fn 32) [.agg [.vec k 3 n]] h R := by
 refine call_any hC (c := .fn 32) (ACall.frozen 3 (by simp only [List.map_cons, List.map_nil, e]; simp [go_sem]) (fun E A G w E' A' G' w' u h => by simpa [Rep] using h) (v := .i 0) (by rw [List.map_cons, List.map_nil, e]; exact aC hC hc ⟨rfl, rfl⟩)) ?_
 rintro r h' ⟨rfl, rfl⟩
 exact hR
theorem erase_take {α : Type} (e : α -> AV) (l : List α) {i n : Nat} (hi : i < l.length) (hn : n = l.length - 1) (z : List AV) : ((l.map e).eraseIdx i ++ z).take n = (l.eraseIdx i).map e := by
 subst hn
 have h1 : (l.map e).eraseIdx i = (l.eraseIdx i).map e := by rw [List.eraseIdx_eq_take_drop_succ, List.eraseIdx_eq_take_drop_succ, List.map_append, List.map_take, List.map_drop]
 have h2 : l.length - 1 = ((l.eraseIdx i).map e).length := by rw [List.length_map, List.length_eraseIdx_of_lt hi]
 rw [h1, h2, List.take_left]
theorem set_take {h : List AObj} (l : List Pr) (i : Nat) {x : AV} {q : Pr} (hx : fzN h 2 x = encPr q) : (((l.map encPr).set i x).take l.length).map (fzN h 2) = (l.set i q).map encPr := by
 rw [List.take_of_length_le (by simp), List.map_set, List.map_set, hx, fzN_frees fzG_encPr]
def cbK (p : Pg) (i m : Nat) : Bool := (List.range m).any fun j => decide (j ≠ i) && (calN p j).any fun x => (i : Int) == (x : Int)
theorem cbK_succ (p : Pg) (i m : Nat) : cbK p i (m + 1) = (cbK p i m || (decide (m ≠ i) && (calN p m).any fun x => (i : Int) == (x : Int))) := by
 simp [cbK, List.range_succ]
theorem cbK_no {p : Pg} {i m : Nat} (h : cbK p i m = false) : ∀ j, j < m -> j ≠ i -> i ∉ calN p j := fun j hj hji hm => by
 have := List.any_eq_false.1 h j (List.mem_range.2 hj)
 simp only [Bool.and_eq_true, decide_eq_true_eq, List.any_eq_true, not_and, not_exists] at this
 exact this hji i hm (by simp)
theorem h43N (l : List Nat) (i : Nat) (hl : l.length < 2 ^ 47) : Pure (PC GLs) 43 [.sl 1 (l.map encN), .i i] (.b (l.any fun x => (i : Int) == (x : Int))) := by
 have := h43 (GL := GLs) (l.map fun n : Nat => (n : Int)) (i : Int) (by simpa using hl)
 rw [List.map_map, List.any_map] at this
 exact this
end Go.Rip
namespace Go.Rip
open Go Go.Proofs
set_option maxRecDepth 100000
variable {GL : Glob}
attribute [local irreducible] Pure
end Go.Rip
namespace Go.Rip
open Go Go.Proofs
set_option maxRecDepth 100000
attribute [local irreducible] Pure
theorem h6 (p : Pg) (proc cl what at_ : Int) (hp : p.wid) : Pure (PC GLs) 6 [encPg p, .i proc, .i cl, .i what, .i at_] (.b true) := by
 have q27 := fun h => h27 (GL := GLs) p hp h
 simp only [encPg] at q27
 refine k6.pure (by simp) (by simp [go_sem]) (by simp [go_sem]) ?_
 simp -implicitDefEqProofs only [go_sem, c6, r6, encPg]
 refine aC hC sane_ok ?_
 simp -implicitDefEqProofs only [go_sem, Bool.not_true]
 refine aH hC (q27 _) fun x h1 ⟨b, hx, hk1, hb⟩ => ?_
 subst hx
 have o1 := hk1.got (i := 0) rfl
 have o1_g := fun l => aG (l := l) o1
 have o1_s := fun o l => aR (l := l) o1 o
 have o1_e := fun o l => aS (o := o) (l := l) o1
 have o1_h := fun o => aL (o := o) o1
 have fin : ∀ h', ∃ y h'', Wk GLs 0 [(0, .v (.bool true))] h' [(0, y)] h'' /\ h'' = [] /\ ARes.val y = ARes.val (.b true) := fun h' => by
  refine aF ?_ ?_ <;> simp [go_sem]
 rcases b with _ | _
 ·simp -implicitDefEqProofs only [go_sem, Bool.not_false]
  exact fin _
 have hps := hb rfl
 have q32 := h32 p hps.fits
 simp only [encPg] at q32
 simp -implicitDefEqProofs only [go_sem, Bool.not_true, o1]
 refine aC hC q32 ?_
 have hl := hps.l
 rcases hok : p.ok with _ | _
 ·have e0 : okE false = 5 := rfl
  simp -implicitDefEqProofs only [go_sem, e0, bne50]
  exact fin _
 have e0 : okE true = 0 := rfl
 by_cases h0 : proc < 0
 ·have d0 : decide (proc < 0) = true := decide_eq_true h0
  simp -implicitDefEqProofs only [go_sem, e0, bne_self_eq_false, d0]
  exact fin _
 have d0 : decide (proc < 0) = false := decide_eq_false h0
 by_cases hn : proc >= (p.procs.length : Int)
 ·have d1 : decide (proc >= (p.procs.length : Int)) = true := decide_eq_true hn
  simp -implicitDefEqProofs only [go_sem, e0, bne_self_eq_false, d0, d1, o1]
  exact fin _
 have d1 : decide (proc >= (p.procs.length : Int)) = false := decide_eq_false hn
 obtain ⟨i, rfl⟩ := Int.eq_ofNat_of_zero_le (show 0 <= proc by omega)
 have hi : i < p.procs.length := by omega
 have hbc : ∀ j, j < p.procs.length -> Pure (PC GLs) 42 [.agg [.sl 3 (p.procs.map encPr)], .i j] (.tup [.sl 1 ((calN p j).map encN), .i 0]) := fun j hj => by
  have := h42 p hps j
  have e : callsE p j = 0 := by simp [callsE, hok]; omega
  rw [callsR, e] at this
  simpa [encPg] using this
 have hcl : ∀ j, (calN p j).length < 2 ^ 47 := fun j => by
  have := nxs_len (calG p j)
  rw [calG_len] at this
  rw [calN]; omega
 have q41 := fun h => h41L (p.procs.map encPr) (by simp; omega) (by simp; omega) h
 simp -implicitDefEqProofs only [go_sem, e0, bne_self_eq_false, d0, d1, o1]
 refine aH hC (q41 _) fun x h2 ⟨hx, hh2⟩ => ?_
 subst hx hh2
 simp -implicitDefEqProofs only [go_sem, aE, aU, List.append_assoc, o1_g]
 refine bB hC (fun j (c : Bool) => [(47, .i j), (46, .i p.procs.length), (12, .b c), (11, .ref (h1.length + 2) 0), (5, .ref 0 0), (1, .i i), (2, .i cl), (3, .i what), (4, .i at_)])
  (fun j c h' => h' = h1 ++ [.dead, .buf 60 3 (p.procs.map encPr), .cells 37 [.vec (h1.length + 1) 3 p.procs.length]] /\ c = cbK p i j) p.procs.length ?_ fun j c h2 hj ⟨e1, e2⟩ => ?_
 ·exact ⟨false, _, Wk.pick (Nat.zero_le _) (by simp [go_sem]), rfl, rfl⟩
 subst e1
 simp -implicitDefEqProofs only [go_sem]
 refine aJ (fun hlt => ?_) (fun hlt => ?_)
 ·have hlt := aM hlt
  have w5 : IntKind.i64.wrap ((j : Int) + 1) = (j : Int) + 1 := aD _ (by omega)
  have q42 := hbc j hlt
  have q43 := h43N (calN p j) i (hcl j)
  have hs := cbK_succ p i j
  rw [<- e2] at hs
  simp -implicitDefEqProofs only [go_sem, hlt, o1_g]
  refine aC hC q42 ?_
  simp -implicitDefEqProofs only [go_sem, bne_self_eq_false]
  cases c with
  | true =>
   simp -implicitDefEqProofs only [go_sem, w5]
   exact ⟨true, _, Wk.pick (Nat.zero_le _) (by simp [go_sem]), rfl, by rw [hs]; rfl⟩
  | false =>
   by_cases hji : j = i
   ·subst hji
    simp -implicitDefEqProofs only [go_sem, bne_self_eq_false, w5]
    exact ⟨false, _, Wk.pick (Nat.zero_le _) (by simp [go_sem]), rfl, by rw [hs]; simp⟩
   ·have hne : ((j : Int) != (i : Int)) = true := by simp; omega
    have hd : decide (j ≠ i) = true := decide_eq_true hji
    rw [hd, Bool.false_or, Bool.true_and] at hs
    simp -implicitDefEqProofs only [go_sem, hne]
    refine aC hC q43 ?_
    rw [<- hs]
    simp -implicitDefEqProofs only [go_sem, w5]
    exact ⟨cbK p i (j + 1), _, Wk.pick (Nat.zero_le _) (by simp [go_sem]), rfl, rfl⟩
 have hge := aN hlt
 obtain rfl : j = p.procs.length := by omega
 clear hbc q41 hk1 hb q27 q32 o1_g o1_s o1_e o1_h
 obtain ⟨P, hP⟩ : ∃ P, p.procs[i] = P := ⟨_, rfl⟩
 have hPm := (List.getElem_mem hi); rw [hP] at hPm
 have hPs := hps.q _ hPm
 have hPc := hPs.c
 simp -implicitDefEqProofs only [go_sem, hlt]
 by_cases w0 : what = 0
 ·subst w0
  have et : (p.procs.map encPr).take p.procs.length = p.procs.map encPr := by rw [List.take_of_length_le (by simp)]
  simp -implicitDefEqProofs only [go_sem, beq_self_eq_true]
  cases c with
  | true =>
   simp -implicitDefEqProofs only [go_sem]
   exact fin _
  | false =>
   have hk0 := keep0 hps hok (cbK_no e2.symm)
   simp -implicitDefEqProofs only [go_sem, aE]
   refine ACall.freeze (T := 60) (l := p.procs.map encPr) (aE h1 _ 1) (by simp) (Frz.here _) ?_
   rw [et]
   generalize (h1 ++ [AObj.dead, .buf 60 3 (p.procs.map encPr), .cells 37 [.vec (h1.length + 1) 3 p.procs.length]]).set (h1.length + 1) .dead ++ [.spare 60 3] = H
   refine aH hC (h44L _ i (by simp; omega) (by simp; omega) _) fun x h2 ⟨hx, z, hh2⟩ => ?_
   subst hx hh2
   simp -implicitDefEqProofs only [go_sem]
   refine bT (fzN_pg (T := 60) (s := 3) (L := (p.procs.map encPr).eraseIdx i ++ [z]) (aE _ _ 1) (by simp [List.length_eraseIdx_of_lt, hi]) ?_) hk0 ?_
   ·rw [erase_take encPr _ hi (by simp), fzN_frees fzG_encPr]
   simp -implicitDefEqProofs only [go_sem, beq_self_eq_true]
   exact fin _
 have w0b : (what == 0) = false := by simpa using w0
 have bi := bnd hi
 have et : (p.procs.map encPr).take p.procs.length = p.procs.map encPr := by rw [List.take_of_length_le (by simp)]
 have gi : (p.procs.map encPr)[i]? = some (.agg [.str P.name, .i P.arity, .sl 5 (P.clauses.map encCl)]) := by simp [hi, hP, encPr]
 have one : ∀ c ∈ P.clauses, True := fun _ _ => trivial
 simp -implicitDefEqProofs only [go_sem, w0b, aE, aU, List.append_assoc, List.length_map, aO, Int.toNat_natCast, true_and, bi, gi, et]
 by_cases c0 : cl < 0
 ·have d2 : decide (cl < 0) = true := decide_eq_true c0
  simp -implicitDefEqProofs only [go_sem, d2]
  exact fin _
 have d2 : decide (cl < 0) = false := decide_eq_false c0
 by_cases cn : cl >= (P.clauses.length : Int)
 ·have d3 : decide (cl >= (P.clauses.length : Int)) = true := decide_eq_true cn
  simp -implicitDefEqProofs only [go_sem, d2, d3, aE]
  exact fin _
 have d3 : decide (cl >= (P.clauses.length : Int)) = false := decide_eq_false cn
 obtain ⟨k, rfl⟩ := Int.eq_ofNat_of_zero_le (show 0 <= cl by omega)
 have hk : k < P.clauses.length := by omega
 simp -implicitDefEqProofs only [go_sem, d2, d3, aE]
 by_cases w1 : what = 1
 ·subst w1
  have hk1 := keep_erase hps hok hi k
  rw [hP] at hk1
  simp -implicitDefEqProofs only [go_sem, beq_self_eq_true, aE]
  refine aH hC (h45L _ k (by simp; omega) (by simp; omega) _) fun x h2 ⟨hx, z, hh2⟩ => ?_
  subst hx hh2
  simp -implicitDefEqProofs only [go_sem, aE, aU, List.append_assoc, List.length_map, aO, Int.toNat_natCast, true_and, bi, et, gi]
  refine bT (fzN_pg (T := 60) (s := 3) (L := (p.procs.map encPr).set i (.agg [.str P.name, .i P.arity, .vec (h1.length + 4 + 1) 5 (P.clauses.length - 1)])) (aE h1 _ 1) (by simp) (set_take _ _ (fzN_pr (T := 68) (s := 5) (cs := P.clauses.eraseIdx k) (z := [z]) ?_ ?_))) hk1 ?_
  ·rw [Nat.add_assoc, aE, List.eraseIdx_eq_take_drop_succ, List.eraseIdx_eq_take_drop_succ, List.map_append, List.map_take, List.map_drop]; rfl
  ·simp [List.length_eraseIdx_of_lt, hk]
  simp -implicitDefEqProofs only [go_sem, beq_self_eq_true]
  exact fin _
 have w1b : (what == 1) = false := by simpa using w1
 obtain ⟨C, hC'⟩ : ∃ C, P.clauses[k] = C := ⟨_, rfl⟩
 have hCm := (List.getElem_mem hk); rw [hC'] at hCm
 have bk := bnd hk
 have gk : (P.clauses.map encCl).getD k .any = .agg [.i C.mark, .i C.vars, .sl 4 (C.head.map enc), .sl 4 (C.guard.map enc), .sl 4 (C.body.map enc)] := by rw [aW hk, hC']; rfl
 have gk2 : (P.clauses.map encCl)[k]? = some (.agg [.i C.mark, .i C.vars, .sl 4 (C.head.map enc), .sl 4 (C.guard.map enc), .sl 4 (C.body.map enc)]) := by simp [hk, hC', encCl]
 have hsz := (hPs.t C hCm).1
 have hk2 : p.procs[i].clauses[k]'(by rw [hP]; exact hk) = C := by simp only [hP]; exact hC'
 have less : ∀ d : Cl, d.mark = C.mark -> d.head = C.head -> d.guard.Sublist C.guard -> d.body.Sublist C.body -> Pure (PC GLs) 47 [encCl d] (.tup [encCl d.normal, .i 0]) /\
   Pure (PC GLs) 32 [encPg ⟨p.procs.set i ⟨P.name, P.arity, P.clauses.set k d.normal⟩⟩] (.i 0) := fun d e1 e2 e3 e4 => by
  have := keep_less hps hok hi (k := k) (by rw [hP]; exact hk) (d := d) (by rw [hk2]; exact e1) (by rw [hk2]; exact e2) (by rw [hk2]; exact e3) (by rw [hk2]; exact e4)
  simp only [hP] at this
  exact this
 have q48 := fun h => h48L (P.clauses.map encCl) (by simp; omega) (by simp; omega) h
 have bkm : bounds (k : Int) (P.clauses.map encCl).length = True := by simpa using bk
 have hgl : C.guard.length <= sizes C.parts := by have := aX C.guard; simp only [Cl.parts, dD]; omega
 have hbl := body_len C
 simp -implicitDefEqProofs only [go_sem, w1b, aE, aU, List.append_assoc, gk, hk]
 by_cases a0 : at_ < 0
 ·have b0 : decide (at_ >= 0) = false := decide_eq_false (by omega)
  rcases hb2 : (what == 2)
  ·simp -implicitDefEqProofs only [go_sem, b0]
   obtain ⟨q47, q32⟩ := less C rfl rfl (List.Sublist.refl _) (List.Sublist.refl _)
   generalize C.normal = N at q47 q32
   simp only [encCl] at q47
   try simp -implicitDefEqProofs only [go_sem, aE]
   refine aC hC q47 ?_
   simp -implicitDefEqProofs only [go_sem, aE, aU, bne_self_eq_false]
   refine aH hC (q48 _) fun x h2 ⟨hx, hh2⟩ => ?_
   subst hx hh2
   simp -implicitDefEqProofs only [go_sem, Nat.add_assoc, aE, aU, List.append_assoc, List.length_map, aO, Int.toNat_natCast, true_and, bi, et, gi, gk2]
   refine ⟨by simp; omega, bT ?_ q32 ?_⟩
   ·refine fzN_pg (aE h1 _ 1) (by simp) (set_take _ _ (fzN_pr (T := 68) (s := 5) (cs := P.clauses.set k N) (z := []) ?_ ?_))
    ·simp only [aE, List.append_nil]
     rw [List.map_set]; rfl
    ·simp
   simp -implicitDefEqProofs only [go_sem, beq_self_eq_true]
   exact fin _
  ·simp -implicitDefEqProofs only [go_sem, b0]
   obtain ⟨q47, q32⟩ := less C rfl rfl (List.Sublist.refl _) (List.Sublist.refl _)
   generalize C.normal = N at q47 q32
   simp only [encCl] at q47
   try simp -implicitDefEqProofs only [go_sem, aE]
   refine aC hC q47 ?_
   simp -implicitDefEqProofs only [go_sem, aE, aU, bne_self_eq_false]
   refine aH hC (q48 _) fun x h2 ⟨hx, hh2⟩ => ?_
   subst hx hh2
   simp -implicitDefEqProofs only [go_sem, Nat.add_assoc, aE, aU, List.append_assoc, List.length_map, aO, Int.toNat_natCast, true_and, bi, et, gi, gk2]
   refine ⟨by simp; omega, bT ?_ q32 ?_⟩
   ·refine fzN_pg (aE h1 _ 1) (by simp) (set_take _ _ (fzN_pr (T := 68) (s := 5) (cs := P.clauses.set k N) (z := []) ?_ ?_))
    ·simp only [aE, List.append_nil]
     rw [List.map_set]; rfl
    ·simp
   simp -implicitDefEqProofs only [go_sem, beq_self_eq_true]
   exact fin _
 obtain ⟨m, rfl⟩ := Int.eq_ofNat_of_zero_le (show 0 <= at_ by omega)
 have b0 : decide ((m : Int) >= 0) = true := decide_eq_true (by omega)
 rcases hb2 : (what == 2)
 ·by_cases hmb : m < C.body.length
  ·have bb : decide ((m : Int) < (C.body.length : Int)) = true := decide_eq_true (by omega)
   simp -implicitDefEqProofs only [go_sem, b0, bb, aE]
   obtain ⟨q47, q32⟩ := less ⟨C.mark, C.vars, C.head, C.guard, C.body.eraseIdx m⟩ rfl rfl (List.Sublist.refl _) (List.eraseIdx_sublist _ _)
   generalize Cl.normal _ = N at q47 q32
   simp only [encCl] at q47
   refine aH hC (h46L _ m (by simpa using hmb) (by simp; omega) _) fun x h2 ⟨hx, z, hh2⟩ => ?_
   subst hx hh2
   simp -implicitDefEqProofs only [go_sem, aE, aU, List.append_assoc]
   refine ACall.freeze (T := 24) (l := (C.body.map enc).eraseIdx m ++ [z]) (by simp only [Nat.add_assoc, aE]; rfl) (by simp [List.length_eraseIdx_of_lt, hmb]) (Frz.inn [.i C.mark, .i C.vars, .sl 4 (C.head.map enc), .sl 4 (C.guard.map enc)] [] []) ?_
   rw [erase_take enc _ hmb (by simp)]
   refine aC hC q47 ?_
   simp -implicitDefEqProofs only [go_sem, Nat.add_assoc, aE, aU, List.append_assoc, bne_self_eq_false]
   refine aH hC (q48 _) fun x h2 ⟨hx, hh2⟩ => ?_
   subst hx hh2
   simp -implicitDefEqProofs only [go_sem, Nat.add_assoc, aE, aU, List.append_assoc, List.length_map, aO, Int.toNat_natCast, true_and, bi, et, gi, gk2]
   refine ⟨by simp; omega, bT ?_ q32 ?_⟩
   ·refine fzN_pg (aE h1 _ 1) (by simp) (set_take _ _ (fzN_pr (T := 68) (s := 5) (cs := P.clauses.set k N) (z := []) ?_ ?_))
    ·simp only [aE, List.append_nil]
     rw [List.map_set]; rfl
    ·simp
   simp -implicitDefEqProofs only [go_sem, beq_self_eq_true]
   exact fin _
  ·have bb : decide ((m : Int) < (C.body.length : Int)) = false := decide_eq_false (by omega)
   simp -implicitDefEqProofs only [go_sem, b0, bb, aE]
   obtain ⟨q47, q32⟩ := less C rfl rfl (List.Sublist.refl _) (List.Sublist.refl _)
   generalize C.normal = N at q47 q32
   simp only [encCl] at q47
   try simp -implicitDefEqProofs only [go_sem, aE, aU, List.append_assoc]
   refine aC hC q47 ?_
   simp -implicitDefEqProofs only [go_sem, aE, aU, bne_self_eq_false]
   refine aH hC (q48 _) fun x h2 ⟨hx, hh2⟩ => ?_
   subst hx hh2
   simp -implicitDefEqProofs only [go_sem, Nat.add_assoc, aE, aU, List.append_assoc, List.length_map, aO, Int.toNat_natCast, true_and, bi, et, gi, gk2]
   refine ⟨by simp; omega, bT ?_ q32 ?_⟩
   ·refine fzN_pg (aE h1 _ 1) (by simp) (set_take _ _ (fzN_pr (T := 68) (s := 5) (cs := P.clauses.set k N) (z := []) ?_ ?_))
    ·simp only [aE, List.append_nil]
     rw [List.map_set]; rfl
    ·simp
   simp -implicitDefEqProofs only [go_sem, beq_self_eq_true]
   exact fin _
 by_cases hmg : m < C.guard.length
 ·have bg : decide ((m : Int) < (C.guard.length : Int)) = true := decide_eq_true (by omega)
  simp -implicitDefEqProofs only [go_sem, b0, bg, aE]
  obtain ⟨q47, q32⟩ := less ⟨C.mark, C.vars, C.head, C.guard.eraseIdx m, C.body⟩ rfl rfl (List.eraseIdx_sublist _ _) (List.Sublist.refl _)
  generalize Cl.normal _ = N at q47 q32
  simp only [encCl] at q47
  refine aH hC (h46L _ m (by simpa using hmg) (by simp; omega) _) fun x h2 ⟨hx, z, hh2⟩ => ?_
  subst hx hh2
  simp -implicitDefEqProofs only [go_sem, aE, aU, List.append_assoc]
  refine ACall.freeze (T := 24) (l := (C.guard.map enc).eraseIdx m ++ [z]) (by simp only [Nat.add_assoc, aE]; rfl) (by simp [List.length_eraseIdx_of_lt, hmg]) (Frz.inn [.i C.mark, .i C.vars, .sl 4 (C.head.map enc)] [.sl 4 (C.body.map enc)] []) ?_
  rw [erase_take enc _ hmg (by simp)]
  refine aC hC q47 ?_
  simp -implicitDefEqProofs only [go_sem, Nat.add_assoc, aE, aU, List.append_assoc, bne_self_eq_false]
  refine aH hC (q48 _) fun x h2 ⟨hx, hh2⟩ => ?_
  subst hx hh2
  simp -implicitDefEqProofs only [go_sem, Nat.add_assoc, aE, aU, List.append_assoc, List.length_map, aO, Int.toNat_natCast, true_and, bi, et, gi, gk2]
  refine ⟨by simp; omega, bT ?_ q32 ?_⟩
  ·refine fzN_pg (aE h1 _ 1) (by simp) (set_take _ _ (fzN_pr (T := 68) (s := 5) (cs := P.clauses.set k N) (z := []) ?_ ?_))
   ·simp only [aE, List.append_nil]
    rw [List.map_set]; rfl
   ·simp
  simp -implicitDefEqProofs only [go_sem, beq_self_eq_true]
  exact fin _
 ·have bg : decide ((m : Int) < (C.guard.length : Int)) = false := decide_eq_false (by omega)
  by_cases hmb : m < C.body.length
  ·have bb : decide ((m : Int) < (C.body.length : Int)) = true := decide_eq_true (by omega)
   simp -implicitDefEqProofs only [go_sem, b0, bg, bb, aE]
   obtain ⟨q47, q32⟩ := less ⟨C.mark, C.vars, C.head, C.guard, C.body.eraseIdx m⟩ rfl rfl (List.Sublist.refl _) (List.eraseIdx_sublist _ _)
   generalize Cl.normal _ = N at q47 q32
   simp only [encCl] at q47
   refine aH hC (h46L _ m (by simpa using hmb) (by simp; omega) _) fun x h2 ⟨hx, z, hh2⟩ => ?_
   subst hx hh2
   simp -implicitDefEqProofs only [go_sem, aE, aU, List.append_assoc]
   refine ACall.freeze (T := 24) (l := (C.body.map enc).eraseIdx m ++ [z]) (by simp only [Nat.add_assoc, aE]; rfl) (by simp [List.length_eraseIdx_of_lt, hmb]) (Frz.inn [.i C.mark, .i C.vars, .sl 4 (C.head.map enc), .sl 4 (C.guard.map enc)] [] []) ?_
   rw [erase_take enc _ hmb (by simp)]
   refine aC hC q47 ?_
   simp -implicitDefEqProofs only [go_sem, Nat.add_assoc, aE, aU, List.append_assoc, bne_self_eq_false]
   refine aH hC (q48 _) fun x h2 ⟨hx, hh2⟩ => ?_
   subst hx hh2
   simp -implicitDefEqProofs only [go_sem, Nat.add_assoc, aE, aU, List.append_assoc, List.length_map, aO, Int.toNat_natCast, true_and, bi, et, gi, gk2]
   refine ⟨by simp; omega, bT ?_ q32 ?_⟩
   ·refine fzN_pg (aE h1 _ 1) (by simp) (set_take _ _ (fzN_pr (T := 68) (s := 5) (cs := P.clauses.set k N) (z := []) ?_ ?_))
    ·simp only [aE, List.append_nil]
     rw [List.map_set]; rfl
    ·simp
   simp -implicitDefEqProofs only [go_sem, beq_self_eq_true]
   exact fin _
  ·have bb : decide ((m : Int) < (C.body.length : Int)) = false := decide_eq_false (by omega)
   simp -implicitDefEqProofs only [go_sem, b0, bg, bb, aE]
   obtain ⟨q47, q32⟩ := less C rfl rfl (List.Sublist.refl _) (List.Sublist.refl _)
   generalize C.normal = N at q47 q32
   simp only [encCl] at q47
   try simp -implicitDefEqProofs only [go_sem, aE, aU, List.append_assoc]
   refine aC hC q47 ?_
   simp -implicitDefEqProofs only [go_sem, aE, aU, bne_self_eq_false]
   refine aH hC (q48 _) fun x h2 ⟨hx, hh2⟩ => ?_
   subst hx hh2
   simp -implicitDefEqProofs only [go_sem, Nat.add_assoc, aE, aU, List.append_assoc, List.length_map, aO, Int.toNat_natCast, true_and, bi, et, gi, gk2]
   refine ⟨by simp; omega, bT ?_ q32 ?_⟩
   ·refine fzN_pg (aE h1 _ 1) (by simp) (set_take _ _ (fzN_pr (T := 68) (s := 5) (cs := P.clauses.set k N) (z := []) ?_ ?_))
    ·simp only [aE, List.append_nil]
     rw [List.map_set]; rfl
    ·simp
   simp -implicitDefEqProofs only [go_sem, beq_self_eq_true]
   exact fin _
end Go.Rip
