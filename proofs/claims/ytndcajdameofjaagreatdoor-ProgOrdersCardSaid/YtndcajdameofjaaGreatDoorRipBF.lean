/- Procedures that goals call: their numbers, each once. -/
import Derived.Test.YtndcajdameofjaaGreatDoorRipBB
import Derived.Test.YtndcajdameofjaaGreatDoorRipBD
import Derived.Test.YtndcajdameofjaaGreatDoorRipBE
import Derived.Test.YtndcajdameofjaaGreatDoorRipAJ
namespace Go.Rip
open Go Go.Proofs
set_option maxRecDepth 100000
variable {GL : Glob}
attribute [local irreducible] Pure
theorem call_wk {f : FuncId} {args args' : List AV} {h : List AObj} {R : ARes -> List AObj -> Prop} (hw : wkrs args args') (hc : PC GL (.fn f) args' h R) : PC GL (.fn f) args h R :=
 fun E A G w vs hW ha => hc E A G w vs hW (Reps.wk _ _ _ hw ha)
theorem h227n : Pure (PC GLs) 227 [.v (.slice none 0 0)] (.tup []) := bO bQ mo0 (n := 3000) (by kernel_rfl) (by kernel_rfl)
theorem h228n : Pure (PC GLs) 228 [.v (.slice none 0 0)] (.v (.slice none 0 0)) := bO bQ mo0 (n := 3000) (by kernel_rfl) (by kernel_rfl)
def calB (p : Pg) (l : List Tm) : List Bool := (List.range p.procs.length).map fun k : Nat => (calledS l).any fun s => findS s p.syms == (k : Int)
def calI (p : Pg) (l : List Tm) : List Int := (calledS l).map fun s => findS s p.syms
theorem calI_len (p : Pg) (l : List Tm) : (calI p l).length = (calledS l).length := by simp [calI]
theorem cM (p : Pg) (l : List Tm) : (calB p l).length = p.procs.length := by simp [calB]
theorem kU {p : Pg} {l : List Tm} {i : Nat} (hi : i < p.procs.length) : mkd (calB p l) i = (calledS l).any fun s => findS s p.syms == (i : Int) := by
 rw [eH (by rw [cM]; exact hi)]
 simp [calB]
theorem findS_mem {s : Sym} {l : List Sym} (h : s ∈ l) : ∃ i : Nat, i < l.length /\ findS s l = i := by
 obtain ⟨i, h1, h2⟩ := fK h
 exact ⟨i, h2, by rw [findS, h1]⟩
theorem uJ {p : Pg} {l : List Tm} (hc : okCalls p.syms [] l = true) : ∀ s ∈ calledS l, s ∈ p.syms := by
 rw [hF, Bu, Gy] at hc
 intro s hs
 have := hc s hs
 simpa using this
theorem mem_calI {p : Pg} {l : List Tm} (hc : okCalls p.syms [] l = true) (x : Int) : x ∈ calI p l ↔ ∃ i : Nat, mkd (calB p l) i = true /\ x = i := by
 have hs := uJ hc
 constructor
 ·intro hx
  obtain ⟨s, h1, rfl⟩ := Bq.1 hx
  obtain ⟨i, hi, e⟩ := findS_mem (hs s h1)
  have hi' : i < p.procs.length := by simpa [Pg.syms] using hi
  exact ⟨i, by rw [kU hi']; exact Cv.2 ⟨s, h1, by simpa using e⟩, e⟩
 ·rintro ⟨i, h1, rfl⟩
  have hi : i < p.procs.length := by have := dS h1; rwa [cM] at this
  rw [kU hi, Cv] at h1
  obtain ⟨s, h2, h3⟩ := h1
  exact Bq.2 ⟨s, h2, by simpa using h3⟩
theorem uL {p : Pg} {l : List Tm} (hc : okCalls p.syms [] l = true) {l' : List Int} (hp : (calI p l).Perm l') (hs : Srt 0 (calI p l).length l') : ded l' l'.length = ixs (calB p l) := by
 refine ixs_of (wK (by rw [<- hp.length_eq]; exact hs) _ (Ak _)) fun x => ?_
 rw [sW, <- mem_calI hc, hp.mem_iff]
 constructor
 ·rintro ⟨i, hi, rfl⟩
  simp [List.getD, hi]
 ·intro hx
  obtain ⟨i, hi, e⟩ := Dc.1 hx
  exact ⟨i, hi, by simp [List.getD, hi, e]⟩
def outA (k : Nat) (l : List Int) : AV := if l = [] then .v (.slice none 0 0) else .vec k 1 l.length
theorem tX (k : Nat) : outA k [] = .v (.slice none 0 0) := rfl
theorem qO {k : Nat} {l : List Int} (h : l ≠ []) : outA k l = .vec k 1 l.length := if_neg h
theorem wkr_nilI : wkr (.v (.slice none 0 0)) (.sl 1 (([] : List Int).map encI)) := by simp [wkr]
theorem wkr_ownI (b : Nat) (l : List AV) : wkr (.own b 1 l) (.sl 1 l) := by simp [wkr]
theorem h154 (p : Pg) (goals : List Tm) (hg : goals.length < 2 ^ 24) (hc : okCalls p.syms [] goals = true) (km : Nat) (h : List AObj) (hk : h[km]? = some (tabO p.syms)) :
  Adds (PC GLs) 154 [.agg [.sl 3 (p.procs.map encPr), .mp km, .v (.map none)], .sl 4 (goals.map enc)] h (.sl 1 ((ixs (calB p goals)).map encI)) := by
 have q226 := h226 (GL := GLs) goals (by omega)
 have q142 := fun s h' (hk' : h'[km]? = some (tabO p.syms)) => h142 (GL := GLs) p.syms s km h' hk'
 have hcl := hU goals
 have hfl := calI_len p goals
 simp only [tabV] at q142
 refine k154.gives (by simp) ?_
 simp -implicitDefEqProofs only [go_sem, c154, r154]
 refine aC hC q226 ?_
 simp -implicitDefEqProofs only [go_sem]
 refine aV hC (fun j (x : List Int × Nat) => [(13, .i j), (11, .sl 2 ((calledS goals).map encSym)), (12, .i (calledS goals).length), (2, .ref h.length 0), (5, outA x.2 x.1)])
  (fun j x h' => x.1 = (calI p goals).take j /\ Keep All h h' /\ h'[h.length]? = some (.cells 153 [.sl 3 (p.procs.map encPr), .mp km, .v (.map none)]) /\ (x.1 = [] ∨ h'[x.2]? = some (.buf 3 1 (x.1.map encI)) /\ h.length <= x.2)) (calledS goals).length ?_ fun j x h2 hj ⟨g1, g2, g3, g4⟩ => ?_
 ·exact ⟨([], 0), _, Wk.pick (by simp) (by simp [go_sem, outA]), rfl, Keep.app _ _ _, by rw [cP]; rfl, .inl rfl⟩
 obtain ⟨l, b⟩ := x
 dsimp only at g1 g4
 have g3_g := fun l => aF (l := l) g3
 have g3_s := fun o l => aN (l := l) g3 o
 have g3_e := fun o l => aM (o := o) (l := l) g3
 have g3_h := fun o => aG (o := o) g3
 simp -implicitDefEqProofs only [go_sem]
 refine aK (fun hlt => ?_) (fun hlt => ?_)
 ·have hlt := aL hlt
  have hlt' : j < (calI p goals).length := by omega
  have w5 : IntKind.i64.wrap ((j : Int) + 1) = (j : Int) + 1 := aD _ (by omega)
  have hx : (calI p goals)[j] = findS (calledS goals)[j] p.syms := by simp [calI]
  have hs : (calI p goals).take (j + 1) = l ++ [findS (calledS goals)[j] p.syms] := by rw [bE hlt', hx, g1]
  have hll : l.length <= j := by rw [g1]; simp; omega
  have q := fun h' hk' => q142 (calledS goals)[j] h' hk'
  simp only [encSym] at q
  simp -implicitDefEqProofs only [go_sem, hlt, aX, encSym, g3_g]
  refine bR hC (q _ ((g2.trans (Keep.app _ _ _)).got hk)) fun h3 k3 => ?_
  have k4 : Keep All h h3 := g2.trans k3.left
  have g5 := k3.left.got g3
  by_cases hn : l = []
  ·subst hn
   simp -implicitDefEqProofs only [go_sem, tX, fB, w5, Aq]
   refine ⟨by simp, ([findS (calledS goals)[j] p.syms], h3.length + 1), _, Wk.pick (by simp; have := k4.1; omega) (by simp [go_sem, outA]), by rw [hs]; rfl, k4.trans (Keep.app _ _ _), aF g5, .inr ⟨?_, by have := k4.1; dsimp only; omega⟩⟩
   rw [aR]; rfl
  ·have g6 := k3.left.got (g4.resolve_left hn).1
   have hb := (g4.resolve_left hn).2
   have k5 := ((k4.trans (Keep.app All h3 [.spare 3 1])).turn .dead (aF g6) hb).trans (Keep.app All _ [.buf 3 1 (l.map encI ++ [.v (.int .i64 (findS (calledS goals)[j] p.syms))])])
   simp -implicitDefEqProofs only [go_sem, qO hn, aF g6, fB, w5]
   refine ⟨by simp; omega, (l ++ [findS (calledS goals)[j] p.syms], h3.length + 1), _, Wk.pick k5.1 (by simp [go_sem, outA]), hs.symm, k5, ?_, .inr ⟨?_, by have := k4.1; dsimp only; omega⟩⟩
   ·have := (k3.left.trans (Keep.app All h3 [.spare 3 1])).got g3
    rw [aF]
    rw [aS (by rintro rfl; rw [g5] at g6; cases g6)]
    exact this
   ·rw [Bd (by simp)]
    simp [encI]
 ·have hge := aO hlt
  have hl : l = calI p goals := by rw [g1, Bh (by omega)]
  subst hl
  simp -implicitDefEqProofs only [go_sem, hlt]
  by_cases hn : calI p goals = []
  ·rw [hn]
   simp -implicitDefEqProofs only [go_sem, tX]
   refine aC hC h227n ?_
   simp -implicitDefEqProofs only [go_sem]
   refine aC hC h228n ?_
   simp -implicitDefEqProofs only [go_sem]
   have e : ixs (calB p goals) = [] := by
    have := uL hc (Ei _) (fun p q _ _ h => by rw [hn] at h; simp at h)
    rw [<- this, hn]; rfl
   exact nX g2.1 wkr_nilI ⟨by rw [e], g2⟩
  ·obtain ⟨g5, g6⟩ := g4.resolve_left hn
   have hl24 : (calI p goals).length < 2 ^ 24 := by omega
   have hpos : 0 < (calI p goals).length := Gs.2 hn
   simp -implicitDefEqProofs only [go_sem, qO hn]
   refine aI hC (h227 _ hpos hl24 b _ g5) fun _ h3 ⟨l', s1, s2, s3, s4⟩ => ?_
   have hle := s1.length_eq
   simp -implicitDefEqProofs only [go_sem, hle]
   refine aI hC (h228d l' (by omega) b _ s3) fun x h4 hx => ?_
   have e := uL hc s1 s2
   have k5 : Keep All h h3 := g2.trans' s4 fun i o hi e => by have := aW hi; omega
   rcases hx with ⟨rfl, rfl, e2⟩ | ⟨c, rfl, k6⟩
   ·simp -implicitDefEqProofs only [go_sem]
    refine jR s3 k5.1 (by simp) ⟨?_, k5.freeze _ _ g6⟩
    rw [Bh (by simp), <- e, e2]
   ·simp -implicitDefEqProofs only [go_sem]
    refine nX ?_ (wkr_ownI _ _) ⟨by rw [e], ?_⟩
    ·exact (k5.trans' k6 fun i o hi e => by have := aW hi; omega).1
    ·exact k5.trans' k6 fun i o hi e => by have := aW hi; omega
def encB (b : Bool) : AV := .v (.bool b)
theorem free_encB : Free encB := ⟨fun κ a => by simp only [encB, ren], fun n a => by simp only [encB, bd]⟩
def encN (n : Nat) : AV := .v (.int .i64 n)
theorem free_encN : Free encN := ⟨fun κ a => by simp only [encN, ren], fun n a => by simp only [encN, bd]⟩
@[go_sem] theorem bds_bools (n : Nat) (l : List Bool) : bds n (l.map encB) = True := free_encB.bds n l
@[go_sem] theorem bds_nums (n : Nat) (l : List Nat) : bds n (l.map encN) = True := free_encN.bds n l
def nxs (l : List Bool) : List Nat := (List.range l.length).filter (mkd l)
theorem mem_nxs {l : List Bool} {k : Nat} : k ∈ nxs l ↔ mkd l k = true := by
 simp only [nxs, Ed, Cn]
 exact ⟨fun h => h.2, fun h => ⟨dS h, h⟩⟩
theorem oC {l : List Bool} {k : Nat} (h : k ∈ nxs l) : k < l.length := dS (mem_nxs.1 h)
theorem sZ (l : List Bool) : (ixs l).map encI = (nxs l).map encN := by
 simp only [ixs, ixsN, nxs, List.map_map]; rfl
theorem sY (l : List Bool) : (nxs l).length <= l.length := by
 have := Dl (mkd l) (List.range l.length)
 simpa [nxs] using this
def orN (l : List Bool) (ks : List Nat) : List Bool := (List.range l.length).map fun k => mkd l k || ks.contains k
theorem sU (l : List Bool) (ks : List Nat) : (orN l ks).length = l.length := by simp [orN]
theorem sM {l : List Bool} {ks : List Nat} {k : Nat} (h : k < l.length) : mkd (orN l ks) k = (mkd l k || ks.contains k) := by
 rw [eH (by rw [sU]; exact h)]; simp [orN]
def rndF (G : Nat -> List Nat) (l : List Bool) : Nat -> List Bool
 | 0 => l
 | j + 1 => if mkd (rndF G l j) j then orN (rndF G l j) (G j) else rndF G l j
def rndsF (G : Nat -> List Nat) (l : List Bool) : Nat -> List Bool
 | 0 => l
 | r + 1 => rndF G (rndsF G l r) l.length
def closeF (G : Nat -> List Nat) (l : List Bool) : List Bool := rndsF G l l.length
theorem kV (G : Nat -> List Nat) (l : List Bool) : ∀ j, (rndF G l j).length = l.length
 | 0 => rfl
 | j + 1 => by
  have := kV G l j
  rw [rndF]; split
  ·rw [sU]; exact this
  ·exact this
theorem sub_orN (l : List Bool) (ks : List Nat) : Sub l (orN l ks) := fun i hi => by rw [sM (dS hi), hi]; rfl
theorem oK (G : Nat -> List Nat) (l : List Bool) : ∀ j, Sub l (rndF G l j)
 | 0 => Sub.refl _
 | j + 1 => by
  have := oK G l j
  rw [rndF]; split
  ·exact this.trans (sub_orN _ _)
  ·exact this
theorem rndF_step (G : Nat -> List Nat) (l : List Bool) (j : Nat) : Sub (rndF G l j) (rndF G l (j + 1)) := by
 rw [rndF]; split
 ·exact sub_orN _ _
 ·exact Sub.refl _
theorem qV (G : Nat -> List Nat) (l : List Bool) (j : Nat) : ∀ d, Sub (rndF G l j) (rndF G l (j + d))
 | 0 => Sub.refl _
 | d + 1 => (qV G l j d).trans (rndF_step G l (j + d))
theorem uA (G : Nat -> List Nat) (l T : List Bool) (hT : Clo G T) (hl : Sub l T) : ∀ j, Sub (rndF G l j) T
 | 0 => hl
 | j + 1 => by
  have ih := uA G l T hT hl j
  rw [rndF]; split
  ·rename_i h
   intro i hi
   rw [sM (by have := dS hi; rwa [sU] at this), Dn] at hi
   rcases hi with hi | hi
   ·exact ih i hi
   ·exact hT j (ih j h) i (by simpa using hi)
  ·exact ih
theorem rndF_rnd {G : Nat -> List Nat} {l : List Bool} (hG : ∀ i, ∀ k ∈ G i, k < l.length) : Rnd G l (rndF G l l.length) := by
 refine ⟨kV _ _ _, oK _ _ _, fun i hi k hk => ?_, fun T hT hl => uA G l T hT hl _⟩
 have hlt := dS hi
 have h1 := oK G l i i hi
 have h2 : mkd (rndF G l (i + 1)) k = true := by
  rw [rndF, if_pos h1, sM (by rw [kV]; exact hG i k hk)]
  simp [hk]
 have := qV G l (i + 1) (l.length - (i + 1)) k h2
 rwa [show i + 1 + (l.length - (i + 1)) = l.length by omega] at this
theorem iP (G : Nat -> List Nat) (l : List Bool) : ∀ r, (rndsF G l r).length = l.length
 | 0 => rfl
 | r + 1 => by rw [rndsF, kV, iP G l r]
theorem vX {G : Nat -> List Nat} {l : List Bool} (hG : ∀ i, ∀ k ∈ G i, k < l.length) : ∀ r, Rnds G r l (rndsF G l r)
 | 0 => Rnds.zero
 | r + 1 => by
  have ih := vX hG r
  have := rndF_rnd (l := rndsF G l r) (G := G) (by rw [iP]; exact hG)
  rw [iP] at this
  rw [rndsF]
  exact ih.succ this
theorem jB {G : Nat -> List Nat} {l : List Bool} (hG : ∀ i, ∀ k ∈ G i, k < l.length) : LC G (fun k => mkd l k = true) (closeF G l) := (vX hG l.length).lc
theorem cZ (G : Nat -> List Nat) (l : List Bool) : (closeF G l).length = l.length := iP _ _ _
theorem closeF_eq {G : Nat -> List Nat} {l l' : List Bool} (hG : ∀ i, ∀ k ∈ G i, k < l.length) (h : LC G (· ∈ nxs l) l') (hl : l'.length = l.length) : l' = closeF G l :=
 h.eq (jB hG) (fun _ => mem_nxs) (by rw [cZ, hl])
def Pr.goals (q : Pr) : List Tm := q.clauses.flatMap Cl.body
def calG (p : Pg) (i : Nat) : List Bool := calB p (p.procs.getD i default).goals
def calN (p : Pg) (i : Nat) : List Nat := nxs (calG p i)
theorem jG (p : Pg) : ∀ i, ∀ k ∈ calN p i, k < p.procs.length := fun i k hk => by have := oC hk; rwa [calG, cM] at this
theorem fX (p : Pg) (i : Nat) : (calG p i).length = p.procs.length := cM _ _
structure Pg.calls (p : Pg) : Prop where
 n : p.procs.length < 2 ^ 24
 m : ∀ i, i < p.procs.length -> (p.procs.getD i default).clauses.length < 2 ^ 24
 c : ∀ i, i < p.procs.length -> okCalls p.syms [] (p.procs.getD i default).goals = true /\ (p.procs.getD i default).goals.length < 2 ^ 24
theorem sE (l more : List Sym) (cs : List Cl) : okCalls l more (cs.flatMap Cl.body) = cs.all fun c => okCalls l more c.body := by
 induction cs with
 | nil => rfl
 | cons c r ih => rw [Bv, Fc, <- ih, okCalls, List.all_append]; rfl
theorem mI : ∀ (cs : List Cl) (b : Nat), (∀ c ∈ cs, c.body.length <= b) -> (cs.flatMap Cl.body).length <= cs.length * b
 | [], _, _ => by simp
 | c :: r, b, h => by
  have h1 := h c (by simp)
  have h2 := mI r b fun x hx => h x (by simp [hx])
  rw [Bv, Bo, Bw, Ca]; omega
theorem Pg.small.calls {p : Pg} (hs : p.small) (hok : p.ok = true) : p.calls := by
 refine ⟨by have := hs.l; omega, fun i hi => ?_, fun i hi => ?_⟩
 ·have hm : p.procs.getD i default ∈ p.procs := by simp [List.getD, hi]
  have := (hs.q _ hm).c; omega
 have hm : p.procs.getD i default ∈ p.procs := by simp [List.getD, hi]
 generalize p.procs.getD i default = q at hm
 have hq := hs.q q hm
 constructor
 ·simp only [Pg.ok, Ag] at hok
  have := Be.1 hok.2 q hm
  simp only [okClauses] at this
  rw [Pr.goals, sE, Be]
  intro c hc
  have := Be.1 this c hc
  simp only [Ag] at this
  exact this.2
 ·have := mI q.clauses 5000 fun c hc => by
   have h1 := (hq.t c hc).1
   have h2 := tY c
   omega
  have h3 := hq.c
  have : q.clauses.length * 5000 <= 120 * 5000 := Bj _ h3
  rw [Pr.goals]; omega
theorem oY {cs : List Cl} {j : Nat} (h : j < cs.length) : (cs.take (j + 1)).flatMap Cl.body = (cs.take j).flatMap Cl.body ++ cs[j].body := by
 rw [bE h, Dt]; simp
theorem qC (cs : List Cl) (j : Nat) : ((cs.take j).flatMap Cl.body).length <= (cs.flatMap Cl.body).length := by
 conv => rhs; rw [<- Cs j cs]
 rw [Dt, Bo]; omega
theorem h133 (p : Pg) (hp : p.calls) (i : Nat) (hi : i < p.procs.length) (km : Nat) (h : List AObj) (hk : h[km]? = some (tabO p.syms)) :
  Adds (PC GLs) 133 [.agg [.sl 3 (p.procs.map encPr), .mp km, .v (.map none)], .i i] h (.sl 1 ((calN p i).map encN)) := by
 obtain ⟨hc, hl⟩ := hp.c i hi
 have hq : p.procs.getD i default = p.procs[i] := by simp [List.getD, hi]
 have hcn : (calN p i).map encN = (ixs (calB p p.procs[i].goals)).map encI := by rw [sZ, calN, calG, hq]
 have hm := hp.m i hi
 rw [hq] at hc hl hm
 have q154 := fun h' hk' => h154 p p.procs[i].goals hl hc km h' hk'
 rw [hcn]
 have hpq : p.procs[i].goals = p.procs[i].clauses.flatMap Cl.body := rfl
 rw [hpq] at hl
 refine k133.gives (by simp) ?_
 simp -implicitDefEqProofs only [go_sem, c133, r133, bnd hi, hi, aX, encPr]
 generalize p.procs[i] = q at *
 refine aV hC (fun j a => [(16, .i j), (14, .sl 5 (q.clauses.map encCl)), (15, .i q.clauses.length), (2, .ref h.length 0), (5, .own a 4 (((q.clauses.take j).flatMap Cl.body).map enc))])
  (fun j a h' => Keep All h h' /\ h'[h.length]? = some (.cells 153 [.sl 3 (p.procs.map encPr), .mp km, .v (.map none)]) /\ h'[a]? = some (.spare 24 4) /\ h.length < a) q.clauses.length ?_ fun j a h2 hj ⟨g1, g2, g3, g4⟩ => ?_
 ·refine ⟨h.length + 1, _, (Wk.own_nil 24 4 5 (by simp [go_sem]) (by simp)).trans (Wk.pick (by simp) (by simp [go_sem])), ?_, ?_, ?_, by omega⟩
  ·exact (Keep.app _ _ _).trans (Keep.app _ _ _)
  ·rw [Aq, cP]; rfl
  ·rw [Aq, aR]; rfl
 have g2_g := fun l => aF (l := l) g2
 have g2_s := fun o l => aN (l := l) g2 o
 have g2_e := fun o l => aM (o := o) (l := l) g2
 have g2_h := fun o => aG (o := o) g2
 have g3_g := fun l => aF (l := l) g3
 have g3_s := fun o l => aN (l := l) g3 o
 have g3_e := fun o l => aM (o := o) (l := l) g3
 have g3_h := fun o => aG (o := o) g3
 simp -implicitDefEqProofs only [go_sem]
 refine aK (fun hlt => ?_) (fun hlt => ?_)
 ·have hlt := aL hlt
  have w5 : IntKind.i64.wrap ((j : Int) + 1) = (j : Int) + 1 := aD _ (by omega)
  have hs := oY hlt
  have hsl := qC q.clauses (j + 1)
  rw [hs, Bo] at hsl
  simp -implicitDefEqProofs only [go_sem, hlt, aX, encCl, Aq, g3_g, g3_s]
  refine ⟨by omega, ?_⟩
  have k5 := (g1.turn .dead g3 (by omega)).trans (Keep.app All _ [.cells 68 (encCl q.clauses[j]).cells, .spare 24 4])
  refine ⟨h2.length + 1, _, Wk.pick ?_ (by simp [go_sem, w5, hs]), ?_, ?_, ?_, by have := g1.1; omega⟩
  ·have := k5.1
   simpa using this
  ·have := k5
   simp only [encCl, AV.cells] at this
   exact this
  ·rw [aF]
   rw [aS (by omega)]
   exact g2
  ·rw [Bd (by simp)]
   simp
 ·have hge := aO hlt
  rw [aY hge] at *
  simp -implicitDefEqProofs only [go_sem, hlt, g2]
  refine call_wk (args' := [.agg [.sl 3 (p.procs.map encPr), .mp km, .v (.map none)], .sl 4 (q.goals.map enc)]) (by simp [wkrs, wkr, Pr.goals]) ?_
  refine bR hC (q154 _ (g1.got hk)) fun h3 k3 => ?_
  simp -implicitDefEqProofs only [go_sem]
  exact aH (g1.trans k3).1 ⟨rfl, g1.trans k3⟩
theorem iD {l : List Bool} {i : Nat} (hi : i < l.length) : (l.map encB)[i]? = some (.v (.bool (mkd l i))) := by simp [Al hi, encB, mkd, List.getD]
theorem wG (l : List Bool) (i : Nat) : (l.map encB).set i (.v (.bool true)) = (l.set i true).map encB := by rw [show AV.v (.bool true) = encB true from rfl, Fs]
theorem pD (l : List Bool) : (l.map encB).take l.length = l.map encB := Bh (by simp)
theorem bndB {i : Nat} {l : List Bool} (hi : i < l.length) : bounds (i : Int) (List.take l.length (l.map encB)).length = True := by rw [pD]; simp [bounds, hi]
structure VH (p : Pg) (km sb k xb vb : Nat) (l : List Bool) (h : List AObj) : Prop where
 s : h[sb]? = some (.cells 92 [.vec k 1 l.length])
 k : h[k]? = some (.buf 4 1 (l.map encB))
 x : h[xb]? = some (.cells 153 [.sl 3 (p.procs.map encPr), .mp km, .v (.map none)])
 v : h[vb]? = some (.cells 240 [.fn (.func 225) [] [.ref sb 0, .ref xb 0, .ref vb 0]])
 t : h[km]? = some (tabO p.syms)
theorem VH.keep {p : Pg} {km sb k xb vb : Nat} {l l' : List Bool} {h h' : List AObj} (H : VH p km sb k xb vb l h) (hk : Keep (fun i _ => i = k) h h') (hl : l'.length = l.length) (h2 : h'[k]? = some (.buf 4 1 (l'.map encB))) : VH p km sb k xb vb l' h' := by
 refine ⟨?_, h2, hk.get H.x (bF H.x H.k (by simp)), hk.get H.v (bF H.v H.k (by simp)), hk.get H.t (bF H.t H.k (by simp [tabO]))⟩
 rw [hl]
 exact hk.get H.s (bF H.s H.k (by simp))
theorem cnt_set {l : List Bool} {i : Nat} (hi : i < l.length) (h : mkd l i = false) : cntB l < cntB (l.set i true) := by
 obtain ⟨c1, c2⟩ := (Sub.set hi).cnt (by simp)
 have : cntB l ≠ cntB (l.set i true) := fun e => by
  have := c2 e
  have h2 : mkd (l.set i true) i = true := by rw [iR hi]; simp
  rw [<- this, h] at h2; cases h2
 omega
theorem h225 (p : Pg) (hp : p.calls) (km sb k xb vb : Nat) (m : Nat) : ∀ (l : List Bool) (i : Nat) (h : List AObj), l.length = p.procs.length -> i < l.length -> l.length - cntB l = m -> VH p km sb k xb vb l h ->
  Gives (PC GLs) 225 [.i i, .ref sb 0, .ref xb 0, .ref vb 0] h fun _ h' => ∃ l', Vis (calN p) i l l' /\ h'[k]? = some (.buf 4 1 (l'.map encB)) /\ Keep (fun j _ => j = k) h h' := by
 induction m using Nat.strongRecOn with
 | _ m ih =>
 intro l i h hl hi hm H
 have bl : Nat.ble l.length l.length = true := aJ _
 refine k225.gives (by simp) ?_
 simp -implicitDefEqProofs only [go_sem, c225, r225, H.s, H.k, bl, bndB hi, iD hi]
 rcases hmk : mkd l i with _ | _
 ·have hcl := iZ l
  have hcs := cnt_set hi hmk
  have H1 : VH p km sb k xb vb (l.set i true) (h.set k (.buf 4 1 ((l.set i true).map encB))) := H.keep (Keep.set _ H.k rfl) (by simp) (aG H.k)
  have hk1 : Keep (fun j _ => j = k) h (h.set k (.buf 4 1 ((l.set i true).map encB))) := Keep.set _ H.k rfl
  have q := h133 p hp i (by omega) km _ H1.t
  have hks : ∀ x ∈ calN p i, x < p.procs.length := jG p i
  have hnl : (calN p i).length <= p.procs.length := by have := sY (calG p i); rwa [fX] at this
  have hn24 := hp.n
  generalize hKs : calN p i = ks at *
  simp -implicitDefEqProofs only [go_sem, H.s, H.k, bl, bndB hi, iD hi, hmk, wG, H1.x]
  refine bR hC q fun h2 k2 => ?_
  have H2 : VH p km sb k xb vb (l.set i true) h2 := H1.keep k2.of_all rfl (k2.got H1.k)
  simp -implicitDefEqProofs only [go_sem]
  refine aV hC (fun j _ => [(18, .i j), (16, .sl 1 (ks.map encN)), (17, .i ks.length), (1, .ref sb 0), (2, .ref xb 0), (3, .ref vb 0)])
   (fun j l1 h' => VH p km sb k xb vb l1 h' /\ Viss (calN p) (ks.take j) (l.set i true) l1 /\ Keep (fun j _ => j = k) h h') ks.length ?_ fun j l1 h3 hj ⟨g1, g2, g3⟩ => ?_
  ·exact ⟨l.set i true, h2, Wk.pick (hk1.trans k2.of_all).1 (by simp [go_sem]), H2, Viss.nil, hk1.trans k2.of_all⟩
  have hll : l1.length = l.length := by rw [g2.n]; simp
  simp -implicitDefEqProofs only [go_sem]
  refine aK (fun hlt => ?_) (fun hlt => ?_)
  ·have hlt := aL hlt
   have w5 : IntKind.i64.wrap ((j : Int) + 1) = (j : Int) + 1 := aD _ (by omega)
   have hcn := (g2.s.cnt g2.n.symm).1
   have hcl1 := iZ l1
   simp -implicitDefEqProofs only [go_sem, hlt, aX, encN, g1.v]
   refine aI hC (ih (l1.length - cntB l1) (by omega) l1 ks[j] h3 (by omega) (by have := hks _ (Ao hlt); omega) rfl g1) fun _ h4 ⟨l2, v, b2, k4⟩ => ?_
   simp -implicitDefEqProofs only [go_sem]
   refine ⟨l2, h4, Wk.pick (g3.trans k4).1 (by simp [go_sem, w5]), g1.keep k4 v.n b2, ?_, g3.trans k4⟩
   rw [bE hlt]
   exact g2.snoc v
  ·have hge := aO hlt
   rw [aY hge] at g2
   simp -implicitDefEqProofs only [go_sem]
   refine aH g3.1 ⟨l1, Vis.of hi ?_, g1.k, g3⟩
   rw [hKs]; exact g2
 ·simp -implicitDefEqProofs only [go_sem]
  exact aH (Ak _) ⟨l, Vis.seen hmk, H.k, Keep.refl _ _⟩
theorem map_rep (n : Nat) : List.replicate n (AV.v (.bool false)) = (List.replicate n false).map encB := by simp [encB]
theorem h151 (p : Pg) (hp : p.calls) (S : List Bool) (hS : S.length = p.procs.length) (km : Nat) (h : List AObj) (hk : h[km]? = some (tabO p.syms)) :
  Adds (PC GLs) 151 [.agg [.sl 3 (p.procs.map encPr), .mp km, .v (.map none)], .sl 1 ((nxs S).map encN)] h (.sl 1 ((closeF (calN p) S).map encB)) := by
 have hn := hp.n
 have hfl := sY S
 have hfr : ∀ x ∈ nxs S, x < p.procs.length := fun x hx => by have := oC hx; omega
 have hmem : ∀ x, x ∈ nxs S ↔ mkd S x = true := fun x => mem_nxs
 have hcf := fun l' (hh : LC (calN p) (· ∈ nxs S) l') (hl' : l'.length = S.length) => closeF_eq (l := S) (by rw [hS]; exact jG p) hh hl'
 generalize nxs S = fr at *
 generalize closeF (calN p) S = res at *
 have mk : (0 : Int) <= (p.procs.length : Int) /\ (p.procs.length : Int) * 1 <= 2 ^ 47 := by omega
 refine k151.gives (by simp) ?_
 simp -implicitDefEqProofs only [go_sem, c151, r151, aR, bU, Aq, Af]
 refine ⟨by omega, ?_⟩
 obtain ⟨L, hL⟩ : ∃ L, L = h.length := ⟨_, rfl⟩
 rw [<- hL, map_rep]
 have H0 : VH p km (L + 2) (L + 1) L (L + 3) (List.replicate p.procs.length false) (h ++ [.cells 153 [.sl 3 (p.procs.map encPr), .mp km, .v (.map none)], .buf 4 1 ((List.replicate p.procs.length false).map encB), .cells 92 [.vec (L + 1) 1 p.procs.length], .cells 240 [.fn (.func 225) [] [.ref (L + 2) 0, .ref L 0, .ref (L + 3) 0]]]) := by
  subst hL
  refine ⟨?_, ?_, ?_, ?_, aF hk⟩
  ·rw [aR]; simp
  ·rw [aR]; rfl
  ·rw [cP]; rfl
  ·rw [aR]; rfl
 refine aV hC (fun j _ => [(17, .i j), (15, .sl 1 (fr.map encN)), (16, .i fr.length), (6, .ref (L + 3) 0), (5, .ref (L + 2) 0)])
  (fun j l1 h' => VH p km (L + 2) (L + 1) L (L + 3) l1 h' /\ Viss (calN p) (fr.take j) (List.replicate p.procs.length false) l1 /\ Keep All h h') fr.length ?_ fun j l1 h3 hj ⟨g1, g2, g3⟩ => ?_
 ·exact ⟨_, _, Wk.pick (by simp; omega) (by simp [go_sem]), H0, Viss.nil, Keep.app _ _ _⟩
 have hll : l1.length = p.procs.length := by rw [g2.n]; simp
 simp -implicitDefEqProofs only [go_sem]
 refine aK (fun hlt => ?_) (fun hlt => ?_)
 ·have hlt := aL hlt
  have w5 : IntKind.i64.wrap ((j : Int) + 1) = (j : Int) + 1 := aD _ (by omega)
  have hx := hfr _ (Ao hlt)
  simp -implicitDefEqProofs only [go_sem, hlt, aX, encN, g1.v]
  refine aI hC (h225 p hp km (L + 2) (L + 1) L (L + 3) _ l1 fr[j] h3 hll (by omega) rfl g1) fun _ h4 ⟨l2, v, b2, k4⟩ => ?_
  have k5 : Keep All h h4 := g3.trans' k4 fun i o hi e => by have := aW hi; omega
  simp -implicitDefEqProofs only [go_sem]
  refine ⟨l2, h4, Wk.pick (by have := k5.1; omega) (by simp [go_sem, w5]), g1.keep k4 v.n b2, ?_, k5⟩
  rw [bE hlt]
  exact g2.snoc v
 ·have hge := aO hlt
  rw [aY hge] at g2
  have e := hcf l1 g2.lc (by omega)
  subst e
  simp -implicitDefEqProofs only [go_sem, hlt, g1.s]
  refine jR g1.k (by have := g3.1; omega) (by simp) ⟨by rw [pD], g3.freeze _ _ (by omega)⟩
theorem ixsN_take (l : List Bool) (j : Nat) (h : j < l.length) : ixsN l (j + 1) = if l[j] = true then ixsN l j ++ [(j : Int)] else ixsN l j := by rw [ixsN_succ, eH h]
theorem h153 (l : List Bool) (hl : l.length < 2 ^ 24) : Pure (PC GL) 153 [.sl 1 (l.map encB)] (.sl 1 ((nxs l).map encN)) := by
 rw [<- sZ]
 refine k153.pure (by simp) (by simp [go_sem]) (by simp [go_sem]) ?_
 simp -implicitDefEqProofs only [go_sem, c153, r153]
 refine aV hC (fun j a => [(8, .i j), (6, .sl 1 (l.map encB)), (7, .i l.length), (3, .own a 1 ((ixsN l j).map encI))]) (fun _ a h => h[a]? = some (.spare 3 1)) l.length ?_ fun j a h hj ha => ?_
 ·refine ⟨0, [.spare 3 1], (Wk.own_nil (h := []) 3 1 3 (by simp [go_sem]) (Ap _)).trans (Wk.pick (Ap _) ?_), rfl⟩
  simp [go_sem, ixsN]
 have g1 := ixsN_len l j
 have ha' := fun l => aF (l := l) ha
 simp -implicitDefEqProofs only [go_sem]
 refine aK (fun hlt => ?_) (fun hlt => ?_)
 ·have hlt := aL hlt
  have w5 : IntKind.i64.wrap ((j : Int) + 1) = (j : Int) + 1 := aD _ (by omega)
  have hs := ixsN_take l j hlt
  rcases hb : l[j] with _ | _
  ·rw [hb, if_neg (by simp)] at hs
   simp -implicitDefEqProofs only [go_sem, hlt, aX, encB, hb]
   exact ⟨a, h, Wk.pick (Ap _) (by simp [go_sem, w5, hs]), ha⟩
  ·rw [hb, if_pos rfl] at hs
   simp -implicitDefEqProofs only [go_sem, hlt, aX, encB, hb, ha', fB]
   refine ⟨by simp; omega, h.length + 1, _, Wk.pick (Ap _) (by simp [go_sem, w5, hs, encI]), ?_⟩
   rw [oX (by simp)]; simp
 ·have hge := aO hlt
  have hj' : j = l.length := by omega
  subst hj'
  simp -implicitDefEqProofs only [go_sem, hlt]
  refine aE ?_ ?_ <;> simp [go_sem, ixs]
theorem wkr_nilN : wkr (.v (.slice none 0 0)) (.sl 1 (([] : List Nat).map encN)) := by simp [wkr]
theorem bne50 : ((5 : Int) != 0) = true := rfl
def reachS (p : Pg) (l : List Tm) : List Bool := closeF (calN p) (calB p l)
def reachR (p : Pg) (q : Qy) : List Nat := if okQuery p q then nxs (reachS p q.goals) else []
theorem h65 (p : Pg) (hp : p.small) (q : Qy) (hq : q.fits) (hq2 : q.goals.length < 2 ^ 24) : Pure (PC GLs) 65 [encPg p, encQy q] (.tup [.sl 1 ((reachR p q).map encN), .i (okE (okQuery p q))]) := by
 have q145 := fun h => h145 p hp.fits q hq h
 simp only [encPg, encQy] at q145
 have hl := hp.l
 refine k65.pure (by simp) (by simp [go_sem]) (by simp [go_sem]) ?_
 simp -implicitDefEqProofs only [go_sem, c65, r65, encPg, encQy]
 refine aI hC (q145 _) fun x h1 ⟨a, b, c, hx, hk1, hy⟩ => ?_
 subst hx
 have o1 := hk1.got (i := 0) rfl
 have o2 := hk1.got (i := 1) rfl
 have o1_g := fun l => aF (l := l) o1
 have o1_s := fun o l => aN (l := l) o1 o
 have o1_e := fun o l => aM (o := o) (l := l) o1
 have o1_h := fun o => aG (o := o) o1
 have o2_g := fun l => aF (l := l) o2
 have o2_s := fun o l => aN (l := l) o2 o
 have o2_e := fun o l => aM (o := o) (l := l) o2
 have o2_h := fun o => aG (o := o) o2
 rcases hok : okQuery p q with _ | _
 ·have e0 : okE false = 5 := rfl
  have hR : reachR p q = [] := by simp [reachR, hok]
  rw [hR]
  simp -implicitDefEqProofs only [go_sem, e0, bne50]
  exact aE (fO wkr_nilN rfl) (by simp [go_sem])
 ·obtain ⟨k, ⟨rfl, rfl, rfl⟩, hk⟩ := hy hok
  have hpo : p.ok = true /\ okCalls p.syms [] q.goals = true := by simp only [okQuery, Ag] at hok; exact ⟨hok.1, hok.2.2⟩
  have hpc := hp.calls hpo.1
  have hR : reachR p q = nxs (reachS p q.goals) := by simp [reachR, hok]
  rw [hR]
  have e0 : okE true = 0 := rfl
  have q154 := h154 p q.goals hq2 hpo.2 k (h1 ++ [.cells 153 [.sl 3 (p.procs.map encPr), .mp k, .v (.map none)]]) (aF hk)
  rw [sZ] at q154
  have q151 := fun h' hk' => h151 p hpc (calB p q.goals) (cM _ _) k h' hk'
  have q153 := h153 (GL := GLs) (reachS p q.goals) (by rw [reachS, cZ, cM]; omega)
  simp -implicitDefEqProofs only [go_sem, o2_g, e0, bne_self_eq_false]
  refine bR hC q154 fun h2 hk2 => ?_
  have o3 := hk2.got (i := h1.length) (by rw [cP]; rfl)
  simp -implicitDefEqProofs only [go_sem, o3]
  refine bR hC (q151 h2 (hk2.got (aF hk))) fun h3 hk3 => ?_
  simp -implicitDefEqProofs only [go_sem]
  refine aC hC q153 ?_
  simp -implicitDefEqProofs only [go_sem]
  exact aE (gY _) (by simp [go_sem, free_encN.bds])
def encIs (l : List Int) : AV := .sl 1 (l.map encI)
theorem free_encIs : Free encIs := ⟨fun κ a => by simp only [encIs, ren, free_encI.rens], fun n a => by simp only [encIs, bd, free_encI.bds]⟩
@[go_sem] theorem bds_encIs' (n : Nat) (l : List (List Int)) : bds n (l.map encIs) = True := free_encIs.bds n l
def rowM (p : Pg) (i : Nat) : List Bool := closeF (calN p) (calG p i)
def matM (p : Pg) : List (List Bool) := (List.range p.procs.length).map (rowM p)
theorem oJ (p : Pg) (i : Nat) : (rowM p i).length = p.procs.length := by rw [rowM, cZ, fX]
theorem tW {p : Pg} {i : Nat} (h : i < p.procs.length) : (matM p).getD i [] = rowM p i := by simp [matM, List.getD, h]
theorem iY {p : Pg} {i k : Nat} (h : i < p.procs.length) : toM (matM p) i k = mkd (rowM p i) k := by rw [toM, tW h]
theorem rW (p : Pg) : TrM p.procs.length (matM p) := trM_of (G := calN p) fun i hi => by
 rw [tW hi]
 have h := jB (G := calN p) (l := calG p i) (by rw [fX]; exact jG p)
 exact ⟨fun k hk => h.m k (mem_nxs.1 hk), h.c, fun T hT hk => h.t T hT fun k hm => hk k (mem_nxs.2 hm)⟩
def encRow (p : Pg) (i : Nat) : AV := .sl 1 ((rowM p i).map encB)
def rowsA (p : Pg) (j : Nat) : List AV := (List.range p.procs.length).map fun i => if i < j then encRow p i else .v (.slice none 0 0)
theorem lV (p : Pg) (j : Nat) : (rowsA p j).length = p.procs.length := by simp [rowsA]
theorem yO (p : Pg) : List.replicate p.procs.length (AV.v (.slice none 0 0)) = rowsA p 0 := by
 apply Ew (by simp [rowsA])
 intro i h1 h2
 simp [rowsA]
theorem rowsA_set {p : Pg} {j : Nat} (_ : j < p.procs.length) : (rowsA p j).set j (encRow p j) = rowsA p (j + 1) := by
 apply Ew (by simp [rowsA])
 intro i h1 h2
 rw [List.getElem_set]
 simp only [rowsA, By, Ga]
 split
 ·subst_vars; simp
 ·rename_i hne
  have : (i < j) = (i < j + 1) := by
   rw [eq_iff_iff]; omega
  simp only [this]
theorem fU {p : Pg} {i : Nat} (h : i < p.procs.length) : (rowsA p p.procs.length)[i]? = some (encRow p i) := by simp [rowsA, h]
theorem bndR {p : Pg} {i : Nat} (j : Nat) (h : i < p.procs.length) : bounds (i : Int) (List.take p.procs.length (rowsA p j)).length = True := by
 rw [Bh (by rw [lV]; exact Ak _), lV]; simp [bounds, h]
theorem bleR (p : Pg) (j : Nat) : Nat.ble p.procs.length (rowsA p j).length = true := by rw [lV]; simp
theorem oO {p : Pg} {i k : Nat} (h : k < p.procs.length) : bounds (k : Int) (List.length (rowM p i)) = True := by rw [oJ]; simp [bounds, h]
theorem pK {p : Pg} {i k : Nat} (h : k < p.procs.length) : ((rowM p i).map encB).getD k .any = encB (mkd (rowM p i) k) := by
 have := iD (l := rowM p i) (i := k) (by rw [oJ]; exact h)
 rw [List.getD, this]; rfl
theorem h152 (p : Pg) (i k : Nat) (hi : i < p.procs.length) (hk : k < p.procs.length) (tb kt : Nat) (h : List AObj) (h1 : h[tb]? = some (.cells 89 [.vec kt 1 p.procs.length])) (h2 : h[kt]? = some (.buf 92 1 (rowsA p p.procs.length))) :
  Adds (PC GL) 152 [.i i, .i k, .ref tb 0] h (.b (oneM (matM p) i k)) := by
 have e : oneM (matM p) i k = (i == k || (mkd (rowM p i) k && mkd (rowM p k) i)) := by rw [oneM, iY hi, iY hk]
 rw [e]
 have ei : ((i : Int) == (k : Int)) = (i == k) := by rw [Ce, beq_iff_eq, beq_iff_eq]; omega
 have fin : ∀ b, ∃ y h', Wk GL h.length [(0, .b b)] h [(0, y)] h' /\ ∃ x, ARes.val y = ARes.val x /\ x = .b b /\ Keep All h h' := fun b => aH (Ak _) ⟨rfl, Keep.refl _ _⟩
 refine k152.gives (by simp) ?_
 simp -implicitDefEqProofs only [go_sem, c152, r152, ei]
 rcases i == k with _ | _
 ·simp -implicitDefEqProofs only [go_sem, h1, h2, bleR, bndR _ hi, fU hi, encRow, oO hk, pK hk, encB]
  rcases mkd (rowM p i) k with _ | _
  ·simp -implicitDefEqProofs only [go_sem]
   exact fin _
  ·simp -implicitDefEqProofs only [go_sem, h1, h2, bleR, bndR _ hk, fU hk, encRow, oO hi, pK hi, encB]
   rcases mkd (rowM p k) i with _ | _
   ·exact fin _
   ·exact fin _
 ·simp -implicitDefEqProofs only [go_sem]
  exact fin _
def frT (M : List (List Bool)) (done : List Bool) (j t : Nat) : Bool := !mkd done j && (List.range t).all (okM M done j)
theorem frT_succ (M : List (List Bool)) (done : List Bool) (j t : Nat) : frT M done j (t + 1) = (frT M done j t && okM M done j t) := by
 rw [frT, frT, Fz, List.all_append]; simp [Bool.and_assoc]
theorem frT_stop {M : List (List Bool)} {done : List Bool} {j t n : Nat} (h : frT M done j t = false) (ht : t <= n) : freeM n M done j = false := by
 rw [<- Gk] at h ⊢
 intro hf
 refine h ?_
 simp only [freeM, frT, Ag, Be, Cn] at hf ⊢
 exact ⟨hf.1, fun x hx => hf.2 x (by omega)⟩
theorem frT_full (n : Nat) (M : List (List Bool)) (done : List Bool) (j : Nat) : frT M done j n = freeM n M done j := rfl
def nxOk (n : Nat) (M : List (List Bool)) (done : List Bool) (j : Nat) (x : Int) : Prop := (x = -1 /\ ∀ i, i < j -> freeM n M done i = false) ∨ ∃ i : Nat, x = i /\ nextM n M done = some i
def compT (M : List (List Bool)) (i t : Nat) : List Int := ((List.range t).filter (oneM M i)).map fun k : Nat => (k : Int)
theorem wX (M : List (List Bool)) (i t : Nat) : compT M i (t + 1) = if oneM M i t then compT M i t ++ [(t : Int)] else compT M i t := by
 simp only [compT, Fz, List.filter_append, De]
 rcases h : oneM M i t with _ | _ <;> simp [h]
theorem compT_len (M : List (List Bool)) (i t : Nat) : (compT M i t).length <= t := by
 have := Dl (oneM M i) (List.range t)
 simpa [compT] using this
structure CH (p : Pg) (tb kt kd : Nat) (done : List Bool) (h : List AObj) : Prop where
 b : h[tb]? = some (.cells 89 [.vec kt 1 p.procs.length])
 t : h[kt]? = some (.buf 92 1 (rowsA p p.procs.length))
 d : h[kd]? = some (.buf 4 1 (done.map encB))
theorem CH.keep {p : Pg} {tb kt kd : Nat} {done : List Bool} {h h' : List AObj} (H : CH p tb kt kd done h) (k : Keep All h h') : CH p tb kt kd done h' := ⟨k.got H.b, k.got H.t, k.got H.d⟩
theorem CH.set {p : Pg} {tb kt kd : Nat} {done : List Bool} {h : List AObj} (H : CH p tb kt kd done h) (d2 : List Bool) : CH p tb kt kd d2 (h.set kd (.buf 4 1 (d2.map encB))) :=
 ⟨by rw [aS (bF H.d H.b (by simp))]; exact H.b, by rw [aS (bF H.d H.t (by simp))]; exact H.t, aG H.d⟩
theorem decm : decide ((-1 : Int) < 0) = true := rfl
theorem decn (n : Nat) : decide ((n : Int) < 0) = false := Ai (by omega)
def compsR (p : Pg) : List (List Int) := if p.ok then comps p.procs.length (matM p) p.procs.length (List.replicate p.procs.length false) else []
theorem h63 (p : Pg) (hp : p.small) : Pure (PC GLs) 63 [encPg p] (.tup [.sl 1 ((compsR p).map encIs), .i (okE p.ok)]) := by
 have q116 := fun h => h116 p hp.fits h
 simp only [encPg] at q116
 have hl := hp.l
 refine k63.pure (by simp) (by simp [go_sem]) (by simp [go_sem]) ?_
 simp only [go_sem, c63, r63, encPg]
 refine aI hC (q116 _) fun x h1 ⟨y, hx, hk1, hy⟩ => ?_
 subst hx
 have o1 := hk1.got (i := 0) rfl
 have o1_g := fun l => aF (l := l) o1
 have o1_s := fun o l => aN (l := l) o1 o
 have o1_e := fun o l => aM (o := o) (l := l) o1
 have o1_h := fun o => aG (o := o) o1
 rcases hy with ⟨hy, km, rfl, hk⟩ | ⟨hy, rfl⟩
 ·have e0 : okE true = 0 := rfl
  have hR : compsR p = comps p.procs.length (matM p) p.procs.length (List.replicate p.procs.length false) := by simp [compsR, hy]
  rw [hR, hy, e0]
  have hpc := hp.calls hy
  simp only [go_sem, aR, bU, Aq, o1_g, bne_self_eq_false, yO]
  refine ⟨by omega, ?_⟩
  have q133 := fun i hi h hk => h133 p hpc i hi km h hk
  have q151 := fun S hS h hk => h151 p hpc S hS km h hk
  obtain ⟨L, hL⟩ : ∃ L, L = h1.length := ⟨_, rfl⟩
  rw [<- hL]
  refine aV hC (fun j (_ : Unit) => [(32, .i j), (31, .i p.procs.length), (6, .i p.procs.length), (7, .ref (L + 2) 0), (4, .ref L 0)])
   (fun j (_ : Unit) h' => h'[L]? = some (.cells 153 [.sl 3 (p.procs.map encPr), .mp km, .v (.map none)]) /\ h'[km]? = some (tabO p.syms) /\ h'[L + 2]? = some (.cells 89 [.vec (L + 1) 1 p.procs.length]) /\ h'[L + 1]? = some (.buf 92 1 (rowsA p j))) p.procs.length ?_ fun j _ h2 hj ⟨f1, f2, f3, f4⟩ => ?_
  ·refine ⟨(), _, Wk.pick (by simp) (by simp [go_sem]), ?_, aF hk, ?_, ?_⟩
   ·subst hL; rw [cP]; rfl
   ·subst hL; rw [aR]; rfl
   ·subst hL; rw [aR]; rfl
  simp only [go_sem]
  refine aK (fun hlt => ?_) (fun hlt => ?_)
  ·have hlt := aL hlt
   have w5 : IntKind.i64.wrap ((j : Int) + 1) = (j : Int) + 1 := aD _ (by omega)
   simp only [go_sem, hlt, f1, f3]
   refine bR hC (q133 j hlt h2 f2) fun h3 k3 => ?_
   have q := q151 (calG p j) (fX p j) h3 (k3.got f2)
   simp only [go_sem, k3.got f1, k3.got f3]
   refine bR hC q fun h4 k4 => ?_
   have k5 := k3.trans k4
   have g4 := k5.got f4
   have es : (rowsA p j).set j (.sl 1 ((closeF (calN p) (calG p j)).map encB)) = rowsA p (j + 1) := rowsA_set hlt
   have gj : ∃ x, (rowsA p j)[j]? = some x /\ ∀ cs, x ≠ .agg cs := by
    refine ⟨.v (.slice none 0 0), by simp [rowsA, hlt], fun cs e => by cases e⟩
   have gj0 : (rowsA p j)[j]? = some (.v (.slice none 0 0)) := by simp [rowsA, hlt]
   simp only [go_sem, k5.got f3, g4, bleR, bndR _ hlt, gj0, es]
   exact ⟨(), _, Wk.pick (Ap _) (by simp [go_sem, w5]), by rw [aS (by omega)]; exact k5.got f1, by rw [aS (bF g4 (k5.got f2) (by simp [tabO]))]; exact k5.got f2, by rw [aS (by omega)]; exact k5.got f3, aG g4⟩
  ·have hge := aO hlt
   have hj' : j = p.procs.length := by omega
   subst hj'
   have hMt := rW p
   simp only [go_sem, hlt, map_rep]
   refine ⟨by omega, ?_⟩
   have q152 := fun i k hi hk h h1 h2 => h152 (GL := GLs) p i k hi hk (L + 2) (L + 1) h h1 h2
   have H0 : CH p (L + 2) (L + 1) h2.length (List.replicate p.procs.length false) (h2 ++ [.buf 4 1 ((List.replicate p.procs.length false).map encB)]) := ⟨aF f3, aF f4, by rw [cP]; rfl⟩
   refine aV hC (fun t (x : List Bool × List (List Int) × Nat) => [(6, .i p.procs.length), (7, .ref (L + 2) 0), (9, .fn (.func 152) [] [.ref (L + 2) 0]), (10, .vec h2.length 1 p.procs.length), (11, .own x.2.2 1 (x.2.1.map encIs))])
    (fun t x h' => CH p (L + 2) (L + 1) h2.length x.1 h' /\ x.1.length = p.procs.length /\ x.2.1 ++ comps p.procs.length (matM p) (p.procs.length - t) x.1 = comps p.procs.length (matM p) p.procs.length (List.replicate p.procs.length false) /\ t <= cntB x.1 /\ h'[x.2.2]? = some (.spare 61 1) /\ x.2.1.length = t) p.procs.length ?_ fun t x h3 ht ⟨a1, a2, a3, a4, a5, a6⟩ => ?_
   ·refine ⟨(_, [], h2.length + 1), _, (Wk.own_nil 61 1 11 (by simp [go_sem]) (by simp)).trans (Wk.pick (by simp) (by simp [go_sem])), H0.keep (Keep.app _ _ _), by simp, by simp, Ap _, ?_, rfl⟩
    rw [Aq, aR]; rfl
   obtain ⟨done, out, o⟩ := x
   dsimp only at a1 a2 a3 a4 a5 a6
   simp only [go_sem]
   refine aV hC (fun j (nx : Int) => [(13, .i j), (12, .i nx), (6, .i p.procs.length), (7, .ref (L + 2) 0), (9, .fn (.func 152) [] [.ref (L + 2) 0]), (10, .vec h2.length 1 p.procs.length), (11, .own o 1 (out.map encIs))])
    (fun j nx h' => CH p (L + 2) (L + 1) h2.length done h' /\ h'[o]? = some (.spare 61 1) /\ nxOk p.procs.length (matM p) done j nx) p.procs.length ?_ fun j nx h4 hj2 ⟨b1, b2, b3⟩ => ?_
   ·exact ⟨-1, h3, Wk.pick (Ap _) (by simp [go_sem]), a1, a5, .inl ⟨rfl, fun i hi => by omega⟩⟩
   have lD : Nat.ble p.procs.length done.length = true := Ct (by omega)
   have bD : ∀ {x : Nat}, x < p.procs.length -> bounds (x : Int) (List.take p.procs.length (List.map encB done)).length = True := fun hx => by simp [bounds]; omega
   have gD : ∀ {x : Nat}, x < p.procs.length -> (done.map encB)[x]? = some (.v (.bool (mkd done x))) := fun hx => iD (by omega)
   have w6 : IntKind.i64.wrap ((j : Int) + 1) = (j : Int) + 1 := aD _ (by omega)
   rcases b3 with ⟨rfl, b3⟩ | ⟨i, rfl, b3⟩
   ·by_cases hjn : j < p.procs.length
    ·have dj : decide ((j : Int) < (p.procs.length : Int)) = true := Ac (by omega)
     simp only [go_sem, dj, decm, b1.d, lD, bD hjn, gD hjn]
     refine aV hC (fun t (_ : Unit) => [(15, .i t), (14, .b (frT (matM p) done j t)), (13, .i j), (12, .i (-1)), (6, .i p.procs.length), (7, .ref (L + 2) 0), (9, .fn (.func 152) [] [.ref (L + 2) 0]), (10, .vec h2.length 1 p.procs.length), (11, .own o 1 (out.map encIs))])
      (fun t (_ : Unit) h' => CH p (L + 2) (L + 1) h2.length done h' /\ h'[o]? = some (.spare 61 1)) p.procs.length ?_ fun t _ h5 ht5 ⟨c1, c2⟩ => ?_
     ·exact ⟨(), h4, Wk.pick (Ap _) (by simp [go_sem, frT]), b1, b2⟩
     have w7 : IntKind.i64.wrap ((t : Int) + 1) = (t : Int) + 1 := aD _ (by omega)
     have hfs := frT_succ (matM p) done j t
     have stop : frT (matM p) done j t = false -> nxOk p.procs.length (matM p) done (j + 1) (-1) := fun hf => .inl ⟨rfl, fun i hi => by
      by_cases e : i = j
      ·subst e; exact frT_stop hf ht5
      ·exact b3 i (by omega)⟩
     simp only [go_sem]
     by_cases htn : t < p.procs.length
     ·have dt : decide ((t : Int) < (p.procs.length : Int)) = true := Ac (by omega)
      rcases hf : frT (matM p) done j t with _ | _
      ·simp only [go_sem, dt, w6]
       exact ⟨hjn, -1, h5, Wk.pick (Ap _) (by simp [go_sem]), c1, c2, stop hf⟩
      ·rw [hf, Fb, okM, iY hjn] at hfs
       rcases ha : mkd (rowM p j) t with _ | _
       ·rw [ha] at hfs
        simp only [go_sem, dt, c1.b, c1.t, bleR, bndR _ hjn, fU hjn, encRow, oO htn, pK htn, encB, ha, Ax]
        exact ⟨htn, (), h5, Wk.pick (Ap _) (by simp [go_sem, hfs, w7]), c1, c2⟩
       ·rw [ha, Av, Bool.false_or] at hfs
        rcases hd : mkd done t with _ | _
        ·rw [hd, Bool.false_or] at hfs
         simp only [go_sem, dt, c1.b, c1.t, c1.d, lD, bD htn, gD htn, bleR, bndR _ hjn, fU hjn, encRow, oO htn, pK htn, encB, ha, hd, Av]
         refine bR hC (q152 j t hjn htn h5 c1.b c1.t) fun h6 k6 => ?_
         simp only [go_sem]
         exact ⟨htn, (), h6, Wk.pick (Ap _) (by simp [go_sem, hfs, w7]), c1.keep k6, k6.got c2⟩
        ·rw [hd] at hfs
         simp only [go_sem, dt, c1.b, c1.t, c1.d, lD, bD htn, gD htn, bleR, bndR _ hjn, fU hjn, encRow, oO htn, pK htn, encB, ha, hd, Av]
         exact ⟨htn, (), h5, Wk.pick (Ap _) (by simp [go_sem, hfs, w7]), c1, c2⟩
     ·have dt : decide ((t : Int) < (p.procs.length : Int)) = false := Ai (by omega)
      have ht' : t = p.procs.length := by omega
      rcases hf : frT (matM p) done j t with _ | _
      ·simp only [go_sem, dt, w6]
       exact ⟨hjn, -1, h5, Wk.pick (Ap _) (by simp [go_sem]), c1, c2, stop hf⟩
      ·simp only [go_sem, dt, w6]
       refine ⟨hjn, (j : Int), h5, Wk.pick (Ap _) (by simp [go_sem]), c1, c2, .inr ⟨j, rfl, nextM_hit hjn ?_ b3⟩⟩
       rw [<- frT_full, <- ht']; exact hf
    ·have dj : decide ((j : Int) < (p.procs.length : Int)) = false := Ai (by omega)
     have hnn : nextM p.procs.length (matM p) done = none := yD fun i hi => b3 i (by omega)
     have hout : out = comps p.procs.length (matM p) p.procs.length (List.replicate p.procs.length false) := by
      rw [<- a3]
      rcases hk : p.procs.length - t with _ | r
      ·simp [comps]
      ·simp [comps, hnn]
     simp only [go_sem, dj, decm]
     rw [hout]
     exact aE (fO (by simp [wkr]) rfl) (by simp [go_sem])
   ·have hin := (gH b3).1
    rcases hB : decide ((j : Int) < (p.procs.length : Int)) with _ | _
    all_goals
     simp only [go_sem, hB, decn]
     refine aV hC (fun k (y : List Bool × Nat) => [(95, .i k), (94, .i p.procs.length), (16, .own y.2 1 ((compT (matM p) i k).map encI)), (12, .i i), (6, .i p.procs.length), (7, .ref (L + 2) 0), (9, .fn (.func 152) [] [.ref (L + 2) 0]), (10, .vec h2.length 1 p.procs.length), (11, .own o 1 (out.map encIs))])
      (fun k y h' => CH p (L + 2) (L + 1) h2.length y.1 h' /\ y.1.length = p.procs.length /\ (∀ x, mkd y.1 x = (mkd done x || (decide (x < k) && oneM (matM p) i x))) /\ h'[y.2]? = some (.spare 3 1) /\ h'[o]? = some (.spare 61 1)) p.procs.length ?_ fun k y h5 hk5 ⟨c1, c2, c3, c4, c5⟩ => ?_
     ·refine ⟨(done, h4.length), _, (Wk.own_nil 3 1 16 (by simp [go_sem]) (Ap _)).trans (Wk.pick (Ap _) (by simp [go_sem, compT])), b1.keep (Keep.app _ _ _), a2, fun x => by simp, by rw [cP]; rfl, aF b2⟩
     obtain ⟨dn, b⟩ := y
     dsimp only at c1 c2 c3 c4 c5
     have w8 : IntKind.i64.wrap ((k : Int) + 1) = (k : Int) + 1 := aD _ (by omega)
     have hcs := wX (matM p) i k
     have hcl := compT_len (matM p) i k
     simp only [go_sem]
     by_cases hkn : k < p.procs.length
     ·have dk : decide ((k : Int) < (p.procs.length : Int)) = true := Ac (by omega)
      simp only [go_sem, dk]
      refine bR hC (q152 i k hin hkn h5 c1.b c1.t) fun h6 k6 => ?_
      have C6 := c1.keep k6
      have s6 := k6.got c4
      have o6 := k6.got c5
      have q1 := C6.d
      rcases ho : oneM (matM p) i k with _ | _
      ·rw [ho, if_neg (by simp)] at hcs
       simp only [go_sem, w8]
       refine ⟨hkn, (dn, b), h6, Wk.pick (Ap _) (by simp [go_sem, hcs]), C6, c2, fun x => ?_, s6, o6⟩
       rw [c3]
       by_cases hx : x = k
       ·subst hx; simp [ho]
       ·have : decide (x < k) = decide (x < k + 1) := by simp only [decide_eq_decide]; omega
        rw [this]
      ·rw [ho, if_pos rfl] at hcs
       have s6_g := fun l => aF (l := l) s6
       have s6_s := fun o l => aN (l := l) s6 o
       have s6_e := fun o l => aM (o := o) (l := l) s6
       have s6_h := fun o => aG (o := o) s6
       have q1_g := fun l => aF (l := l) q1
       have q1_s := fun o l => aN (l := l) q1 o
       have q1_e := fun o l => aM (o := o) (l := l) q1
       have q1_h := fun o => aG (o := o) q1
       have q1_s6b := fun o l => kA (o := o) (l := l) q1 s6 (by simp)
       have q1_s6s := fun o l x => kF (o := o) (l := l) (x' := x) q1 s6 (by simp)
       have q1_s6g := fun o l x => gX (o := o) (l := l) (x' := x) q1 s6 (by simp)
       have q1_s6k := fun o l x => iJ (o := o) (l := l) (x' := x) q1 s6 (by simp)
       have hkl : k < dn.length := by omega
       have lN : Nat.ble p.procs.length dn.length = true := Ct (by omega)
       have bN : bounds (k : Int) (List.take p.procs.length (List.map encB dn)).length = True := by simp [bounds]; omega
       simp only [go_sem, w8, fB, Aq, s6_g, s6_s, q1_s6b, q1_s6s, lN, bN, iD hkl, wG]
       have G : ∀ {x : Nat} {y : AObj}, h6[x]? = some y -> x ≠ b -> x ≠ h2.length -> ∀ y1 y2 l, (((h6.set b y1).set h2.length y2) ++ l)[x]? = some y := fun hx n1 n2 y1 y2 l => aF (by rw [aS (Ne.symm n2), aS (Ne.symm n1)]; exact hx)
       refine ⟨by omega, hkn, (dn.set k true, h6.length + 1), _, Wk.pick (Ap _) (by simp [go_sem, hcs, encI]), ⟨G C6.b (bF C6.b s6 (by simp)) (bF C6.b q1 (by simp)) _ _ _, G C6.t (bF C6.t s6 (by simp)) (bF C6.t q1 (by simp)) _ _ _, q1_s6g _ _ _⟩, by simpa using c2, fun x => ?_, ?_, G o6 (bF o6 s6 (by simp)) (bF o6 q1 (by simp)) _ _ _⟩
       ·dsimp only
        rw [iR hkl, c3]
        by_cases hx : x = k
        ·subst hx; simp [ho]
        ·have : decide (x < k) = decide (x < k + 1) := by simp only [decide_eq_decide]; omega
         rw [this]; simp [hx]
       ·rw [Bd (by simp)]; simp
     ·have dk : decide ((k : Int) < (p.procs.length : Int)) = false := Ai (by omega)
      have hk' : k = p.procs.length := by omega
      subst hk'
      have hdn : dn = markM p.procs.length (matM p) done i := mkd_ext (by rw [c2, eM]) fun x => by
       by_cases hx : x < p.procs.length
       ·rw [c3, jD hx, Ac hx, Fb]
       ·have z : ∀ l : List Bool, l.length = p.procs.length -> mkd l x = false := fun l hl => by
         rcases h : mkd l x with _ | _
         ·rfl
         ·have := dS h; omega
        rw [z _ c2, z _ (eM _ _ _ _)]
      have hcnt := qM a2 b3
      have hcn := iZ (markM p.procs.length (matM p) done i)
      rw [eM] at hcn
      have c5_g := fun l => aF (l := l) c5
      have c5_s := fun o l => aN (l := l) c5 o
      have c5_e := fun o l => aM (o := o) (l := l) c5
      have c5_h := fun o => aG (o := o) c5
      have hcomp : compT (matM p) i p.procs.length = compM p.procs.length (matM p) i := rfl
      obtain ⟨r, hr⟩ : ∃ r, p.procs.length - t = r + 1 := ⟨p.procs.length - t - 1, by omega⟩
      have hr' : p.procs.length - (t + 1) = r := by omega
      simp only [go_sem, dk, fB, Aq, c5_g, c5_s]
      refine ⟨by simp; omega, by omega, (dn, out ++ [compT (matM p) i p.procs.length], h5.length + 1), _, Wk.pickW (Ap _) ⟨Wd.rfl _, Wd.rfl _, Wd.rfl _, Wd.rfl _, Wd.own (by rw [De]; exact Wds.app (Wds.rfl _) ⟨Wd.fz (Wds.rfl _), trivial⟩), trivial⟩, ⟨?_, ?_, ?_⟩, c2, ?_, ?_, ?_, ?_⟩
      ·exact aF (by rw [aS (bF c5 c1.b (by simp))]; exact c1.b)
      ·exact aF (by rw [aS (bF c5 c1.t (by simp))]; exact c1.t)
      ·exact aF (by rw [aS (bF c5 c1.d (by simp))]; exact c1.d)
      ·rw [<- a3, hr, hr', hcomp, hdn]
       simp [comps, b3]
      ·rw [hdn]; exact Dm (Nat.succ_le_succ a4) hcnt
      ·rw [Bd (by simp)]; simp
      ·simp [a6]
 ·have e0 : okE false = 5 := rfl
  have hR : compsR p = [] := by simp [compsR, hy]
  rw [hR]
  simp only [go_sem, hy, e0, bne50]
  refine aE (fO (by simp [wkr]) rfl) (by simp [go_sem])
structure RH (p : Pg) (ks : List Nat) (j : Nat) (h : List AObj) : Prop where
 n : ks.length = j
 r : ∀ i, i < j -> h[ks.getD i 0]? = some (.buf 4 1 ((rowM p i).map encB))
theorem RH.keep {p : Pg} {ks : List Nat} {j : Nat} {h h' : List AObj} {K : Nat -> AObj -> Prop} (H : RH p ks j h) (k : Keep K h h') (hn : ∀ i, i < j -> ∀ o, ¬ K (ks.getD i 0) o) : RH p ks j h' :=
 ⟨H.n, fun i hi => k.get (H.r i hi) (hn i hi _)⟩
theorem RH.all {p : Pg} {ks : List Nat} {j : Nat} {h h' : List AObj} (H : RH p ks j h) (k : Keep All h h') : RH p ks j h' := H.keep k fun _ _ _ h => h
theorem RH.lt {p : Pg} {ks : List Nat} {j : Nat} {h : List AObj} (H : RH p ks j h) {i : Nat} (hi : i < j) : ks.getD i 0 < h.length := aW (H.r i hi)
end Go.Rip
