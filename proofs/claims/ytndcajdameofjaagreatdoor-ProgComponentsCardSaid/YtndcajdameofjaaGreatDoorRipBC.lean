/- Procedures that goals call: their numbers, each once. -/
import Derived.Test.YtndcajdameofjaaGreatDoorRipAT
import Derived.Test.YtndcajdameofjaaGreatDoorRipBA
import Derived.Test.YtndcajdameofjaaGreatDoorRipBB
namespace Go.Rip
open Go Go.Proofs
set_option maxRecDepth 100000
variable {GL : Glob}
attribute [local irreducible] Pure
theorem call_wk {f : FuncId} {args args' : List AV} {h : List AObj} {R : ARes -> List AObj -> Prop} (hw : wkrs args args') (hc : PC GL (.fn f) args' h R) : PC GL (.fn f) args h R :=
 fun E A G w vs hW ha => hc E A G w vs hW (Reps.wk _ _ _ hw ha)
theorem h227n : Pure (PC GLs) 227 [.v (.slice none 0 0)] (.tup []) := bL bM mo0 (n := 3000) (by kernel_rfl) (by kernel_rfl)
theorem h228n : Pure (PC GLs) 228 [.v (.slice none 0 0)] (.v (.slice none 0 0)) := bL bM mo0 (n := 3000) (by kernel_rfl) (by kernel_rfl)
def calB (p : Pg) (l : List Tm) : List Bool := (List.range p.procs.length).map fun k : Nat => (calledS l).any fun s => findS s p.syms == (k : Int)
def calI (p : Pg) (l : List Tm) : List Int := (calledS l).map fun s => findS s p.syms
theorem calI_len (p : Pg) (l : List Tm) : (calI p l).length = (calledS l).length := by simp [calI]
theorem cR (p : Pg) (l : List Tm) : (calB p l).length = p.procs.length := by simp [calB]
theorem mkd_calB {p : Pg} {l : List Tm} {i : Nat} (hi : i < p.procs.length) : mkd (calB p l) i = (calledS l).any fun s => findS s p.syms == (i : Int) := by
 rw [dG (by rw [cR]; exact hi)]
 simp [calB]
theorem findS_mem {s : Sym} {l : List Sym} (h : s ∈ l) : ∃ i : Nat, i < l.length /\ findS s l = i := by
 obtain ⟨i, h1, h2⟩ := idxS_some h
 exact ⟨i, h2, by rw [findS, h1]⟩
theorem called_syms {p : Pg} {l : List Tm} (hc : okCalls p.syms [] l = true) : ∀ s ∈ calledS l, s ∈ p.syms := by
 rw [okCalls_nil, Bool.not_eq_true', List.any_eq_false] at hc
 intro s hs
 have := hc s hs
 simpa using this
theorem mem_calI {p : Pg} {l : List Tm} (hc : okCalls p.syms [] l = true) (x : Int) : x ∈ calI p l ↔ ∃ i : Nat, mkd (calB p l) i = true /\ x = i := by
 have hs := called_syms hc
 constructor
 ·intro hx
  obtain ⟨s, h1, rfl⟩ := List.mem_map.1 hx
  obtain ⟨i, hi, e⟩ := findS_mem (hs s h1)
  have hi' : i < p.procs.length := by simpa [Pg.syms] using hi
  exact ⟨i, by rw [mkd_calB hi']; exact List.any_eq_true.2 ⟨s, h1, by simpa using e⟩, e⟩
 ·rintro ⟨i, h1, rfl⟩
  have hi : i < p.procs.length := by have := mkd_lt h1; rwa [cR] at this
  rw [mkd_calB hi, List.any_eq_true] at h1
  obtain ⟨s, h2, h3⟩ := h1
  exact List.mem_map.2 ⟨s, h2, by simpa using h3⟩
theorem ixs_calB {p : Pg} {l : List Tm} (hc : okCalls p.syms [] l = true) {l' : List Int} (hp : (calI p l).Perm l') (hs : Srt 0 (calI p l).length l') : ded l' l'.length = ixs (calB p l) := by
 refine ixs_of (ded_incr (by rw [<- hp.length_eq]; exact hs) _ (Nat.le_refl _)) fun x => ?_
 rw [mem_ded, <- mem_calI hc, hp.mem_iff]
 constructor
 ·rintro ⟨i, hi, rfl⟩
  simp [List.getD, hi]
 ·intro hx
  obtain ⟨i, hi, e⟩ := List.mem_iff_getElem.1 hx
  exact ⟨i, hi, by simp [List.getD, hi, e]⟩
def outA (k : Nat) (l : List Int) : AV := if l = [] then .v (.slice none 0 0) else .vec k 1 l.length
theorem outA_nil (k : Nat) : outA k [] = .v (.slice none 0 0) := rfl
theorem outA_cons {k : Nat} {l : List Int} (h : l ≠ []) : outA k l = .vec k 1 l.length := if_neg h
theorem wkr_nilI : wkr (.v (.slice none 0 0)) (.sl 1 (([] : List Int).map encI)) := by simp [wkr]
theorem wkr_ownI (b : Nat) (l : List AV) : wkr (.own b 1 l) (.sl 1 l) := by simp [wkr]
theorem h154 (p : Pg) (goals : List Tm) (hg : goals.length < 2 ^ 24) (hc : okCalls p.syms [] goals = true) (km : Nat) (h : List AObj) (hk : h[km]? = some (tabO p.syms)) :
  Adds (PC GLs) 154 [.agg [.sl 3 (p.procs.map encPr), .mp km, .v (.map none)], .sl 4 (goals.map enc)] h (.sl 1 ((ixs (calB p goals)).map encI)) := by
 have q226 := h226 (GL := GLs) goals (by omega)
 have q142 := fun s h' (hk' : h'[km]? = some (tabO p.syms)) => h142 (GL := GLs) p.syms s km h' hk'
 have hcl := calledS_len goals
 have hfl := calI_len p goals
 simp only [tabV] at q142
 refine k154.gives (by simp) ?_
 simp -implicitDefEqProofs only [go_sem, c154, r154]
 refine aC hC q226 ?_
 simp -implicitDefEqProofs only [go_sem]
 refine aZ hC (fun j (x : List Int × Nat) => [(13, .i j), (11, .sl 2 ((calledS goals).map encSym)), (12, .i (calledS goals).length), (2, .ref h.length 0), (5, outA x.2 x.1)])
  (fun j x h' => x.1 = (calI p goals).take j /\ Keep All h h' /\ h'[h.length]? = some (.cells 153 [.sl 3 (p.procs.map encPr), .mp km, .v (.map none)]) /\ (x.1 = [] ∨ h'[x.2]? = some (.buf 3 1 (x.1.map encI)) /\ h.length <= x.2)) (calledS goals).length ?_ fun j x h2 hj ⟨g1, g2, g3, g4⟩ => ?_
 ·exact ⟨([], 0), _, Wk.pick (by simp) (by simp [go_sem, outA]), rfl, Keep.app _ _ _, by rw [dF]; rfl, .inl rfl⟩
 obtain ⟨l, b⟩ := x
 dsimp only at g1 g4
 have g3_g := fun l => aE (l := l) g3
 have g3_s := fun o l => aO (l := l) g3 o
 have g3_e := fun o l => aP (o := o) (l := l) g3
 have g3_h := fun o => aJ (o := o) g3
 simp -implicitDefEqProofs only [go_sem]
 refine aG (fun hlt => ?_) (fun hlt => ?_)
 ·have hlt := aI hlt
  have hlt' : j < (calI p goals).length := by omega
  have w5 : IntKind.i64.wrap ((j : Int) + 1) = (j : Int) + 1 := aD _ (by omega)
  have hx : (calI p goals)[j] = findS (calledS goals)[j] p.syms := by simp [calI]
  have hs : (calI p goals).take (j + 1) = l ++ [findS (calledS goals)[j] p.syms] := by rw [bB hlt', hx, g1]
  have hll : l.length <= j := by rw [g1]; simp; omega
  have q := fun h' hk' => q142 (calledS goals)[j] h' hk'
  simp only [encSym] at q
  simp -implicitDefEqProofs only [go_sem, hlt, aS, encSym, g3_g]
  refine bX hC (q _ ((g2.trans (Keep.app _ _ _)).got hk)) fun h3 k3 => ?_
  have k4 : Keep All h h3 := g2.trans k3.left
  have g5 := k3.left.got g3
  by_cases hn : l = []
  ·subst hn
   simp -implicitDefEqProofs only [go_sem, outA_nil, blt01, w5, List.append_assoc]
   refine ⟨by simp, ([findS (calledS goals)[j] p.syms], h3.length + 1), _, Wk.pick (by simp; have := k4.1; omega) (by simp [go_sem, outA]), by rw [hs]; rfl, k4.trans (Keep.app _ _ _), aE g5, .inr ⟨?_, by have := k4.1; dsimp only; omega⟩⟩
   rw [aT]; rfl
  ·have g6 := k3.left.got (g4.resolve_left hn).1
   have hb := (g4.resolve_left hn).2
   have k5 := ((k4.trans (Keep.app All h3 [.spare 3 1])).turn .dead (aE g6) hb).trans (Keep.app All _ [.buf 3 1 (l.map encI ++ [.v (.int .i64 (findS (calledS goals)[j] p.syms))])])
   simp -implicitDefEqProofs only [go_sem, outA_cons hn, aE g6, blt01, w5]
   refine ⟨by simp; omega, (l ++ [findS (calledS goals)[j] p.syms], h3.length + 1), _, Wk.pick k5.1 (by simp [go_sem, outA]), hs.symm, k5, ?_, .inr ⟨?_, by have := k4.1; dsimp only; omega⟩⟩
   ·have := (k3.left.trans (Keep.app All h3 [.spare 3 1])).got g3
    rw [aE]
    rw [aR (by rintro rfl; rw [g5] at g6; cases g6)]
    exact this
   ·rw [List.getElem?_append_right (by simp)]
    simp [encI]
 ·have hge := aL hlt
  have hl : l = calI p goals := by rw [g1, List.take_of_length_le (by omega)]
  subst hl
  simp -implicitDefEqProofs only [go_sem, hlt]
  by_cases hn : calI p goals = []
  ·rw [hn]
   simp -implicitDefEqProofs only [go_sem, outA_nil]
   refine aC hC h227n ?_
   simp -implicitDefEqProofs only [go_sem]
   refine aC hC h228n ?_
   simp -implicitDefEqProofs only [go_sem]
   have e : ixs (calB p goals) = [] := by
    have := ixs_calB hc (List.Perm.refl _) (fun p q _ _ h => by rw [hn] at h; simp at h)
    rw [<- this, hn]; rfl
   exact fin_givesw g2.1 wkr_nilI ⟨by rw [e], g2⟩
  ·obtain ⟨g5, g6⟩ := g4.resolve_left hn
   have hl24 : (calI p goals).length < 2 ^ 24 := by omega
   have hpos : 0 < (calI p goals).length := List.length_pos_iff.2 hn
   simp -implicitDefEqProofs only [go_sem, outA_cons hn]
   refine aN hC (h227 _ hpos hl24 b _ g5) fun _ h3 ⟨l', s1, s2, s3, s4⟩ => ?_
   have hle := s1.length_eq
   simp -implicitDefEqProofs only [go_sem, hle]
   refine aN hC (h228d l' (by omega) b _ s3) fun x h4 hx => ?_
   have e := ixs_calB hc s1 s2
   have k5 : Keep All h h3 := g2.trans' s4 fun i o hi e => by have := aV hi; omega
   rcases hx with ⟨rfl, rfl, e2⟩ | ⟨c, rfl, k6⟩
   ·simp -implicitDefEqProofs only [go_sem]
    refine fin_freeze s3 k5.1 (by simp) ⟨?_, k5.freeze _ _ g6⟩
    rw [List.take_of_length_le (by simp), <- e, e2]
   ·simp -implicitDefEqProofs only [go_sem]
    refine fin_givesw ?_ (wkr_ownI _ _) ⟨by rw [e], ?_⟩
    ·exact (k5.trans' k6 fun i o hi e => by have := aV hi; omega).1
    ·exact k5.trans' k6 fun i o hi e => by have := aV hi; omega
def encB (b : Bool) : AV := .v (.bool b)
theorem free_encB : Free encB := ⟨fun κ a => by simp only [encB, ren], fun n a => by simp only [encB, bd]⟩
def encN (n : Nat) : AV := .v (.int .i64 n)
theorem free_encN : Free encN := ⟨fun κ a => by simp only [encN, ren], fun n a => by simp only [encN, bd]⟩
@[go_sem] theorem bds_bools (n : Nat) (l : List Bool) : bds n (l.map encB) = True := free_encB.bds n l
@[go_sem] theorem bds_nums (n : Nat) (l : List Nat) : bds n (l.map encN) = True := free_encN.bds n l
def nxs (l : List Bool) : List Nat := (List.range l.length).filter (mkd l)
theorem mem_nxs {l : List Bool} {k : Nat} : k ∈ nxs l ↔ mkd l k = true := by
 simp only [nxs, List.mem_filter, List.mem_range]
 exact ⟨fun h => h.2, fun h => ⟨mkd_lt h, h⟩⟩
theorem nxs_lt {l : List Bool} {k : Nat} (h : k ∈ nxs l) : k < l.length := mkd_lt (mem_nxs.1 h)
theorem ixs_enc (l : List Bool) : (ixs l).map encI = (nxs l).map encN := by
 simp only [ixs, ixsN, nxs, List.map_map]; rfl
theorem nxs_len (l : List Bool) : (nxs l).length <= l.length := by
 have := List.length_filter_le (mkd l) (List.range l.length)
 simpa [nxs] using this
def orN (l : List Bool) (ks : List Nat) : List Bool := (List.range l.length).map fun k => mkd l k || ks.contains k
theorem orN_len (l : List Bool) (ks : List Nat) : (orN l ks).length = l.length := by simp [orN]
theorem mkd_orN {l : List Bool} {ks : List Nat} {k : Nat} (h : k < l.length) : mkd (orN l ks) k = (mkd l k || ks.contains k) := by
 rw [dG (by rw [orN_len]; exact h)]; simp [orN]
def rndF (G : Nat -> List Nat) (l : List Bool) : Nat -> List Bool
 | 0 => l
 | j + 1 => if mkd (rndF G l j) j then orN (rndF G l j) (G j) else rndF G l j
def rndsF (G : Nat -> List Nat) (l : List Bool) : Nat -> List Bool
 | 0 => l
 | r + 1 => rndF G (rndsF G l r) l.length
def closeF (G : Nat -> List Nat) (l : List Bool) : List Bool := rndsF G l l.length
theorem rndF_len (G : Nat -> List Nat) (l : List Bool) : ∀ j, (rndF G l j).length = l.length
 | 0 => rfl
 | j + 1 => by
  have := rndF_len G l j
  rw [rndF]; split
  ·rw [orN_len]; exact this
  ·exact this
theorem sub_orN (l : List Bool) (ks : List Nat) : Sub l (orN l ks) := fun i hi => by rw [mkd_orN (mkd_lt hi), hi]; rfl
theorem rndF_sub (G : Nat -> List Nat) (l : List Bool) : ∀ j, Sub l (rndF G l j)
 | 0 => Sub.refl _
 | j + 1 => by
  have := rndF_sub G l j
  rw [rndF]; split
  ·exact this.trans (sub_orN _ _)
  ·exact this
theorem rndF_step (G : Nat -> List Nat) (l : List Bool) (j : Nat) : Sub (rndF G l j) (rndF G l (j + 1)) := by
 rw [rndF]; split
 ·exact sub_orN _ _
 ·exact Sub.refl _
theorem rndF_mono (G : Nat -> List Nat) (l : List Bool) (j : Nat) : ∀ d, Sub (rndF G l j) (rndF G l (j + d))
 | 0 => Sub.refl _
 | d + 1 => (rndF_mono G l j d).trans (rndF_step G l (j + d))
theorem rndF_top (G : Nat -> List Nat) (l T : List Bool) (hT : Clo G T) (hl : Sub l T) : ∀ j, Sub (rndF G l j) T
 | 0 => hl
 | j + 1 => by
  have ih := rndF_top G l T hT hl j
  rw [rndF]; split
  ·rename_i h
   intro i hi
   rw [mkd_orN (by have := mkd_lt hi; rwa [orN_len] at this), Bool.or_eq_true] at hi
   rcases hi with hi | hi
   ·exact ih i hi
   ·exact hT j (ih j h) i (by simpa using hi)
  ·exact ih
theorem rndF_rnd {G : Nat -> List Nat} {l : List Bool} (hG : ∀ i, ∀ k ∈ G i, k < l.length) : Rnd G l (rndF G l l.length) := by
 refine ⟨rndF_len _ _ _, rndF_sub _ _ _, fun i hi k hk => ?_, fun T hT hl => rndF_top G l T hT hl _⟩
 have hlt := mkd_lt hi
 have h1 := rndF_sub G l i i hi
 have h2 : mkd (rndF G l (i + 1)) k = true := by
  rw [rndF, if_pos h1, mkd_orN (by rw [rndF_len]; exact hG i k hk)]
  simp [hk]
 have := rndF_mono G l (i + 1) (l.length - (i + 1)) k h2
 rwa [show i + 1 + (l.length - (i + 1)) = l.length by omega] at this
theorem rndsF_len (G : Nat -> List Nat) (l : List Bool) : ∀ r, (rndsF G l r).length = l.length
 | 0 => rfl
 | r + 1 => by rw [rndsF, rndF_len, rndsF_len G l r]
theorem rndsF_ok {G : Nat -> List Nat} {l : List Bool} (hG : ∀ i, ∀ k ∈ G i, k < l.length) : ∀ r, Rnds G r l (rndsF G l r)
 | 0 => Rnds.zero
 | r + 1 => by
  have ih := rndsF_ok hG r
  have := rndF_rnd (l := rndsF G l r) (G := G) (by rw [rndsF_len]; exact hG)
  rw [rndsF_len] at this
  rw [rndsF]
  exact ih.succ this
theorem closeF_lc {G : Nat -> List Nat} {l : List Bool} (hG : ∀ i, ∀ k ∈ G i, k < l.length) : LC G (fun k => mkd l k = true) (closeF G l) := (rndsF_ok hG l.length).lc
theorem closeF_len (G : Nat -> List Nat) (l : List Bool) : (closeF G l).length = l.length := rndsF_len _ _ _
theorem closeF_eq {G : Nat -> List Nat} {l l' : List Bool} (hG : ∀ i, ∀ k ∈ G i, k < l.length) (h : LC G (· ∈ nxs l) l') (hl : l'.length = l.length) : l' = closeF G l :=
 h.eq (closeF_lc hG) (fun _ => mem_nxs) (by rw [closeF_len, hl])
def Pr.goals (q : Pr) : List Tm := q.clauses.flatMap Cl.body
def calG (p : Pg) (i : Nat) : List Bool := calB p (p.procs.getD i default).goals
def calN (p : Pg) (i : Nat) : List Nat := nxs (calG p i)
theorem calN_lt (p : Pg) : ∀ i, ∀ k ∈ calN p i, k < p.procs.length := fun i k hk => by have := nxs_lt hk; rwa [calG, cR] at this
theorem dH (p : Pg) (i : Nat) : (calG p i).length = p.procs.length := cR _ _
structure Pg.calls (p : Pg) : Prop where
 n : p.procs.length < 2 ^ 24
 m : ∀ i, i < p.procs.length -> (p.procs.getD i default).clauses.length < 2 ^ 24
 c : ∀ i, i < p.procs.length -> okCalls p.syms [] (p.procs.getD i default).goals = true /\ (p.procs.getD i default).goals.length < 2 ^ 24
theorem okCalls_flat (l more : List Sym) (cs : List Cl) : okCalls l more (cs.flatMap Cl.body) = cs.all fun c => okCalls l more c.body := by
 induction cs with
 | nil => rfl
 | cons c r ih => rw [List.flatMap_cons, List.all_cons, <- ih, okCalls, List.all_append]; rfl
theorem flat_len_le : ∀ (cs : List Cl) (b : Nat), (∀ c ∈ cs, c.body.length <= b) -> (cs.flatMap Cl.body).length <= cs.length * b
 | [], _, _ => by simp
 | c :: r, b, h => by
  have h1 := h c (by simp)
  have h2 := flat_len_le r b fun x hx => h x (by simp [hx])
  rw [List.flatMap_cons, List.length_append, List.length_cons, Nat.add_mul]; omega
theorem Pg.small.calls {p : Pg} (hs : p.small) (hok : p.ok = true) : p.calls := by
 refine ⟨by have := hs.l; omega, fun i hi => ?_, fun i hi => ?_⟩
 ·have hm : p.procs.getD i default ∈ p.procs := by simp [List.getD, hi]
  have := (hs.q _ hm).c; omega
 have hm : p.procs.getD i default ∈ p.procs := by simp [List.getD, hi]
 generalize p.procs.getD i default = q at hm
 have hq := hs.q q hm
 constructor
 ·simp only [Pg.ok, Bool.and_eq_true] at hok
  have := List.all_eq_true.1 hok.2 q hm
  simp only [okClauses] at this
  rw [Pr.goals, okCalls_flat, List.all_eq_true]
  intro c hc
  have := List.all_eq_true.1 this c hc
  simp only [Bool.and_eq_true] at this
  exact this.2
 ·have := flat_len_le q.clauses 5000 fun c hc => by
   have h1 := (hq.t c hc).1
   have h2 := body_len c
   omega
  have h3 := hq.c
  have : q.clauses.length * 5000 <= 120 * 5000 := Nat.mul_le_mul_right _ h3
  rw [Pr.goals]; omega
theorem flat_take_snoc {cs : List Cl} {j : Nat} (h : j < cs.length) : (cs.take (j + 1)).flatMap Cl.body = (cs.take j).flatMap Cl.body ++ cs[j].body := by
 rw [bB h, List.flatMap_append]; simp
theorem flat_take_len (cs : List Cl) (j : Nat) : ((cs.take j).flatMap Cl.body).length <= (cs.flatMap Cl.body).length := by
 conv => rhs; rw [<- List.take_append_drop j cs]
 rw [List.flatMap_append, List.length_append]; omega
theorem h133 (p : Pg) (hp : p.calls) (i : Nat) (hi : i < p.procs.length) (km : Nat) (h : List AObj) (hk : h[km]? = some (tabO p.syms)) :
  Adds (PC GLs) 133 [.agg [.sl 3 (p.procs.map encPr), .mp km, .v (.map none)], .i i] h (.sl 1 ((calN p i).map encN)) := by
 obtain ⟨hc, hl⟩ := hp.c i hi
 have hq : p.procs.getD i default = p.procs[i] := by simp [List.getD, hi]
 have hcn : (calN p i).map encN = (ixs (calB p p.procs[i].goals)).map encI := by rw [ixs_enc, calN, calG, hq]
 have hm := hp.m i hi
 rw [hq] at hc hl hm
 have q154 := fun h' hk' => h154 p p.procs[i].goals hl hc km h' hk'
 rw [hcn]
 have hpq : p.procs[i].goals = p.procs[i].clauses.flatMap Cl.body := rfl
 rw [hpq] at hl
 refine k133.gives (by simp) ?_
 simp -implicitDefEqProofs only [go_sem, c133, r133, bnd hi, hi, aS, encPr]
 generalize p.procs[i] = q at *
 refine aZ hC (fun j a => [(16, .i j), (14, .sl 5 (q.clauses.map encCl)), (15, .i q.clauses.length), (2, .ref h.length 0), (5, .own a 4 (((q.clauses.take j).flatMap Cl.body).map enc))])
  (fun j a h' => Keep All h h' /\ h'[h.length]? = some (.cells 153 [.sl 3 (p.procs.map encPr), .mp km, .v (.map none)]) /\ h'[a]? = some (.spare 24 4) /\ h.length < a) q.clauses.length ?_ fun j a h2 hj ⟨g1, g2, g3, g4⟩ => ?_
 ·refine ⟨h.length + 1, _, (Wk.own_nil 24 4 5 (by simp [go_sem]) (by simp)).trans (Wk.pick (by simp) (by simp [go_sem])), ?_, ?_, ?_, by omega⟩
  ·exact (Keep.app _ _ _).trans (Keep.app _ _ _)
  ·rw [List.append_assoc, dF]; rfl
  ·rw [List.append_assoc, aT]; rfl
 have g2_g := fun l => aE (l := l) g2
 have g2_s := fun o l => aO (l := l) g2 o
 have g2_e := fun o l => aP (o := o) (l := l) g2
 have g2_h := fun o => aJ (o := o) g2
 have g3_g := fun l => aE (l := l) g3
 have g3_s := fun o l => aO (l := l) g3 o
 have g3_e := fun o l => aP (o := o) (l := l) g3
 have g3_h := fun o => aJ (o := o) g3
 simp -implicitDefEqProofs only [go_sem]
 refine aG (fun hlt => ?_) (fun hlt => ?_)
 ·have hlt := aI hlt
  have w5 : IntKind.i64.wrap ((j : Int) + 1) = (j : Int) + 1 := aD _ (by omega)
  have hs := flat_take_snoc hlt
  have hsl := flat_take_len q.clauses (j + 1)
  rw [hs, List.length_append] at hsl
  simp -implicitDefEqProofs only [go_sem, hlt, aS, encCl, List.append_assoc, g3_g, g3_s]
  refine ⟨by omega, ?_⟩
  have k5 := (g1.turn .dead g3 (by omega)).trans (Keep.app All _ [.cells 68 (encCl q.clauses[j]).cells, .spare 24 4])
  refine ⟨h2.length + 1, _, Wk.pick ?_ (by simp [go_sem, w5, hs]), ?_, ?_, ?_, by have := g1.1; omega⟩
  ·have := k5.1
   simpa using this
  ·have := k5
   simp only [encCl, AV.cells] at this
   exact this
  ·rw [aE]
   rw [aR (by omega)]
   exact g2
  ·rw [List.getElem?_append_right (by simp)]
   simp
 ·have hge := aL hlt
  rw [aU hge] at *
  simp -implicitDefEqProofs only [go_sem, hlt, g2]
  refine call_wk (args' := [.agg [.sl 3 (p.procs.map encPr), .mp km, .v (.map none)], .sl 4 (q.goals.map enc)]) (by simp [wkrs, wkr, Pr.goals]) ?_
  refine bX hC (q154 _ (g1.got hk)) fun h3 k3 => ?_
  simp -implicitDefEqProofs only [go_sem]
  exact aK (g1.trans k3).1 ⟨rfl, g1.trans k3⟩
theorem dE {l : List Bool} {i : Nat} (hi : i < l.length) : (l.map encB)[i]? = some (.v (.bool (mkd l i))) := by simp [List.getElem?_map, List.getElem?_eq_getElem hi, encB, mkd, List.getD]
theorem set_encB (l : List Bool) (i : Nat) : (l.map encB).set i (.v (.bool true)) = (l.set i true).map encB := by rw [show AV.v (.bool true) = encB true from rfl, List.map_set]
theorem takeB_self (l : List Bool) : (l.map encB).take l.length = l.map encB := List.take_of_length_le (by simp)
theorem bndB {i : Nat} {l : List Bool} (hi : i < l.length) : bounds (i : Int) (List.take l.length (l.map encB)).length = True := by rw [takeB_self]; simp [bounds, hi]
structure VH (p : Pg) (km sb k xb vb : Nat) (l : List Bool) (h : List AObj) : Prop where
 s : h[sb]? = some (.cells 92 [.vec k 1 l.length])
 k : h[k]? = some (.buf 4 1 (l.map encB))
 x : h[xb]? = some (.cells 153 [.sl 3 (p.procs.map encPr), .mp km, .v (.map none)])
 v : h[vb]? = some (.cells 240 [.fn (.func 225) [] [.ref sb 0, .ref xb 0, .ref vb 0]])
 t : h[km]? = some (tabO p.syms)
theorem VH.keep {p : Pg} {km sb k xb vb : Nat} {l l' : List Bool} {h h' : List AObj} (H : VH p km sb k xb vb l h) (hk : Keep (fun i _ => i = k) h h') (hl : l'.length = l.length) (h2 : h'[k]? = some (.buf 4 1 (l'.map encB))) : VH p km sb k xb vb l' h' := by
 refine ⟨?_, h2, hk.get H.x (cJ H.x H.k (by simp)), hk.get H.v (cJ H.v H.k (by simp)), hk.get H.t (cJ H.t H.k (by simp [tabO]))⟩
 rw [hl]
 exact hk.get H.s (cJ H.s H.k (by simp))
theorem cnt_set {l : List Bool} {i : Nat} (hi : i < l.length) (h : mkd l i = false) : cntB l < cntB (l.set i true) := by
 obtain ⟨c1, c2⟩ := (Sub.set hi).cnt (by simp)
 have : cntB l ≠ cntB (l.set i true) := fun e => by
  have := c2 e
  have h2 : mkd (l.set i true) i = true := by rw [mkd_set hi]; simp
  rw [<- this, h] at h2; cases h2
 omega
theorem h225 (p : Pg) (hp : p.calls) (km sb k xb vb : Nat) (m : Nat) : ∀ (l : List Bool) (i : Nat) (h : List AObj), l.length = p.procs.length -> i < l.length -> l.length - cntB l = m -> VH p km sb k xb vb l h ->
  Gives (PC GLs) 225 [.i i, .ref sb 0, .ref xb 0, .ref vb 0] h fun _ h' => ∃ l', Vis (calN p) i l l' /\ h'[k]? = some (.buf 4 1 (l'.map encB)) /\ Keep (fun j _ => j = k) h h' := by
 induction m using Nat.strongRecOn with
 | _ m ih =>
 intro l i h hl hi hm H
 have bl : Nat.ble l.length l.length = true := aQ _
 refine k225.gives (by simp) ?_
 simp -implicitDefEqProofs only [go_sem, c225, r225, H.s, H.k, bl, bndB hi, dE hi]
 rcases hmk : mkd l i with _ | _
 ·have hcl := cntB_le l
  have hcs := cnt_set hi hmk
  have H1 : VH p km sb k xb vb (l.set i true) (h.set k (.buf 4 1 ((l.set i true).map encB))) := H.keep (Keep.set _ H.k rfl) (by simp) (aJ H.k)
  have hk1 : Keep (fun j _ => j = k) h (h.set k (.buf 4 1 ((l.set i true).map encB))) := Keep.set _ H.k rfl
  have q := h133 p hp i (by omega) km _ H1.t
  have hks : ∀ x ∈ calN p i, x < p.procs.length := calN_lt p i
  have hnl : (calN p i).length <= p.procs.length := by have := nxs_len (calG p i); rwa [dH] at this
  have hn24 := hp.n
  generalize hKs : calN p i = ks at *
  simp -implicitDefEqProofs only [go_sem, H.s, H.k, bl, bndB hi, dE hi, hmk, set_encB, H1.x]
  refine bX hC q fun h2 k2 => ?_
  have H2 : VH p km sb k xb vb (l.set i true) h2 := H1.keep k2.of_all rfl (k2.got H1.k)
  simp -implicitDefEqProofs only [go_sem]
  refine aZ hC (fun j _ => [(18, .i j), (16, .sl 1 (ks.map encN)), (17, .i ks.length), (1, .ref sb 0), (2, .ref xb 0), (3, .ref vb 0)])
   (fun j l1 h' => VH p km sb k xb vb l1 h' /\ Viss (calN p) (ks.take j) (l.set i true) l1 /\ Keep (fun j _ => j = k) h h') ks.length ?_ fun j l1 h3 hj ⟨g1, g2, g3⟩ => ?_
  ·exact ⟨l.set i true, h2, Wk.pick (hk1.trans k2.of_all).1 (by simp [go_sem]), H2, Viss.nil, hk1.trans k2.of_all⟩
  have hll : l1.length = l.length := by rw [g2.n]; simp
  simp -implicitDefEqProofs only [go_sem]
  refine aG (fun hlt => ?_) (fun hlt => ?_)
  ·have hlt := aI hlt
   have w5 : IntKind.i64.wrap ((j : Int) + 1) = (j : Int) + 1 := aD _ (by omega)
   have hcn := (g2.s.cnt g2.n.symm).1
   have hcl1 := cntB_le l1
   simp -implicitDefEqProofs only [go_sem, hlt, aS, encN, g1.v]
   refine aN hC (ih (l1.length - cntB l1) (by omega) l1 ks[j] h3 (by omega) (by have := hks _ (List.getElem_mem hlt); omega) rfl g1) fun _ h4 ⟨l2, v, b2, k4⟩ => ?_
   simp -implicitDefEqProofs only [go_sem]
   refine ⟨l2, h4, Wk.pick (g3.trans k4).1 (by simp [go_sem, w5]), g1.keep k4 v.n b2, ?_, g3.trans k4⟩
   rw [bB hlt]
   exact g2.snoc v
  ·have hge := aL hlt
   rw [aU hge] at g2
   simp -implicitDefEqProofs only [go_sem]
   refine aK g3.1 ⟨l1, Vis.of hi ?_, g1.k, g3⟩
   rw [hKs]; exact g2
 ·simp -implicitDefEqProofs only [go_sem]
  exact aK (Nat.le_refl _) ⟨l, Vis.seen hmk, H.k, Keep.refl _ _⟩
theorem map_rep (n : Nat) : List.replicate n (AV.v (.bool false)) = (List.replicate n false).map encB := by simp [encB]
theorem h151 (p : Pg) (hp : p.calls) (S : List Bool) (hS : S.length = p.procs.length) (km : Nat) (h : List AObj) (hk : h[km]? = some (tabO p.syms)) :
  Adds (PC GLs) 151 [.agg [.sl 3 (p.procs.map encPr), .mp km, .v (.map none)], .sl 1 ((nxs S).map encN)] h (.sl 1 ((closeF (calN p) S).map encB)) := by
 have hn := hp.n
 have hfl := nxs_len S
 have hfr : ∀ x ∈ nxs S, x < p.procs.length := fun x hx => by have := nxs_lt hx; omega
 have hmem : ∀ x, x ∈ nxs S ↔ mkd S x = true := fun x => mem_nxs
 have hcf := fun l' (hh : LC (calN p) (· ∈ nxs S) l') (hl' : l'.length = S.length) => closeF_eq (l := S) (by rw [hS]; exact calN_lt p) hh hl'
 generalize nxs S = fr at *
 generalize closeF (calN p) S = res at *
 have mk : (0 : Int) <= (p.procs.length : Int) /\ (p.procs.length : Int) * 1 <= 2 ^ 47 := by omega
 refine k151.gives (by simp) ?_
 simp -implicitDefEqProofs only [go_sem, c151, r151, aT, cB, List.append_assoc, List.length_map]
 refine ⟨by omega, ?_⟩
 obtain ⟨L, hL⟩ : ∃ L, L = h.length := ⟨_, rfl⟩
 rw [<- hL, map_rep]
 have H0 : VH p km (L + 2) (L + 1) L (L + 3) (List.replicate p.procs.length false) (h ++ [.cells 153 [.sl 3 (p.procs.map encPr), .mp km, .v (.map none)], .buf 4 1 ((List.replicate p.procs.length false).map encB), .cells 92 [.vec (L + 1) 1 p.procs.length], .cells 240 [.fn (.func 225) [] [.ref (L + 2) 0, .ref L 0, .ref (L + 3) 0]]]) := by
  subst hL
  refine ⟨?_, ?_, ?_, ?_, aE hk⟩
  ·rw [aT]; simp
  ·rw [aT]; rfl
  ·rw [dF]; rfl
  ·rw [aT]; rfl
 refine aZ hC (fun j _ => [(17, .i j), (15, .sl 1 (fr.map encN)), (16, .i fr.length), (6, .ref (L + 3) 0), (5, .ref (L + 2) 0)])
  (fun j l1 h' => VH p km (L + 2) (L + 1) L (L + 3) l1 h' /\ Viss (calN p) (fr.take j) (List.replicate p.procs.length false) l1 /\ Keep All h h') fr.length ?_ fun j l1 h3 hj ⟨g1, g2, g3⟩ => ?_
 ·exact ⟨_, _, Wk.pick (by simp; omega) (by simp [go_sem]), H0, Viss.nil, Keep.app _ _ _⟩
 have hll : l1.length = p.procs.length := by rw [g2.n]; simp
 simp -implicitDefEqProofs only [go_sem]
 refine aG (fun hlt => ?_) (fun hlt => ?_)
 ·have hlt := aI hlt
  have w5 : IntKind.i64.wrap ((j : Int) + 1) = (j : Int) + 1 := aD _ (by omega)
  have hx := hfr _ (List.getElem_mem hlt)
  simp -implicitDefEqProofs only [go_sem, hlt, aS, encN, g1.v]
  refine aN hC (h225 p hp km (L + 2) (L + 1) L (L + 3) _ l1 fr[j] h3 hll (by omega) rfl g1) fun _ h4 ⟨l2, v, b2, k4⟩ => ?_
  have k5 : Keep All h h4 := g3.trans' k4 fun i o hi e => by have := aV hi; omega
  simp -implicitDefEqProofs only [go_sem]
  refine ⟨l2, h4, Wk.pick (by have := k5.1; omega) (by simp [go_sem, w5]), g1.keep k4 v.n b2, ?_, k5⟩
  rw [bB hlt]
  exact g2.snoc v
 ·have hge := aL hlt
  rw [aU hge] at g2
  have e := hcf l1 g2.lc (by omega)
  subst e
  simp -implicitDefEqProofs only [go_sem, hlt, g1.s]
  refine fin_freeze g1.k (by have := g3.1; omega) (by simp) ⟨by rw [takeB_self], g3.freeze _ _ (by omega)⟩
theorem ixsN_take (l : List Bool) (j : Nat) (h : j < l.length) : ixsN l (j + 1) = if l[j] = true then ixsN l j ++ [(j : Int)] else ixsN l j := by rw [ixsN_succ, dG h]
theorem h153 (l : List Bool) (hl : l.length < 2 ^ 24) : Pure (PC GL) 153 [.sl 1 (l.map encB)] (.sl 1 ((nxs l).map encN)) := by
 rw [<- ixs_enc]
 refine k153.pure (by simp) (by simp [go_sem]) (by simp [go_sem]) ?_
 simp -implicitDefEqProofs only [go_sem, c153, r153]
 refine aZ hC (fun j a => [(8, .i j), (6, .sl 1 (l.map encB)), (7, .i l.length), (3, .own a 1 ((ixsN l j).map encI))]) (fun _ a h => h[a]? = some (.spare 3 1)) l.length ?_ fun j a h hj ha => ?_
 ·refine ⟨0, [.spare 3 1], (Wk.own_nil (h := []) 3 1 3 (by simp [go_sem]) (Nat.zero_le _)).trans (Wk.pick (Nat.zero_le _) ?_), rfl⟩
  simp [go_sem, ixsN]
 have g1 := ixsN_len l j
 have ha' := fun l => aE (l := l) ha
 simp -implicitDefEqProofs only [go_sem]
 refine aG (fun hlt => ?_) (fun hlt => ?_)
 ·have hlt := aI hlt
  have w5 : IntKind.i64.wrap ((j : Int) + 1) = (j : Int) + 1 := aD _ (by omega)
  have hs := ixsN_take l j hlt
  rcases hb : l[j] with _ | _
  ·rw [hb, if_neg (by simp)] at hs
   simp -implicitDefEqProofs only [go_sem, hlt, aS, encB, hb]
   exact ⟨a, h, Wk.pick (Nat.zero_le _) (by simp [go_sem, w5, hs]), ha⟩
  ·rw [hb, if_pos rfl] at hs
   simp -implicitDefEqProofs only [go_sem, hlt, aS, encB, hb, ha', blt01]
   refine ⟨by simp; omega, h.length + 1, _, Wk.pick (Nat.zero_le _) (by simp [go_sem, w5, hs, encI]), ?_⟩
   rw [get_ge (by simp)]; simp
 ·have hge := aL hlt
  have hj' : j = l.length := by omega
  subst hj'
  simp -implicitDefEqProofs only [go_sem, hlt]
  refine aF ?_ ?_ <;> simp [go_sem, ixs]
def callsE (p : Pg) (i : Int) : Int := if p.ok then (if i < 0 ∨ i >= p.procs.length then 1 else 0) else 5
def callsR (p : Pg) (i : Int) : List Nat := if callsE p i = 0 then calN p i.toNat else []
theorem wkr_nilN : wkr (.v (.slice none 0 0)) (.sl 1 (([] : List Nat).map encN)) := by simp [wkr]
theorem bne50 : ((5 : Int) != 0) = true := rfl
theorem h42 (p : Pg) (hp : p.small) (i : Int) : Pure (PC GLs) 42 [encPg p, .i i] (.tup [.sl 1 ((callsR p i).map encN), .i (callsE p i)]) := by
 have q116 := fun h => h116 p hp.fits h
 simp only [encPg] at q116
 have hl := hp.l
 refine k42.pure (by simp) (by simp [go_sem]) (by simp [go_sem]) ?_
 simp -implicitDefEqProofs only [go_sem, c42, r42, encPg]
 refine aN hC (q116 _) fun x h1 ⟨y, hx, hk1, hy⟩ => ?_
 subst hx
 have o1 := hk1.got (i := 0) rfl
 have o1_g := fun l => aE (l := l) o1
 have o1_s := fun o l => aO (l := l) o1 o
 have o1_e := fun o l => aP (o := o) (l := l) o1
 have o1_h := fun o => aJ (o := o) o1
 rcases hy with ⟨hy, k, rfl, hk⟩ | ⟨hy, rfl⟩
 ·have e0 : okE true = 0 := rfl
  by_cases hb : i < 0 ∨ i >= p.procs.length
  ·have hE : callsE p i = 1 := by simp [callsE, hy, hb]
   have hR : callsR p i = [] := by simp [callsR, hE]
   rw [hE, hR]
   have fin : ∃ y h', Wk GLs 0 [(0, .tup [.v (.slice none 0 0), .v (.int .i64 1)])] (h1 ++ [.cells 153 [.sl 3 (p.procs.map encPr), .mp k, .v (.map none)]]) [(0, y)] h' /\ h' = [] /\ ARes.val y = ARes.val (.tup [.sl 1 (([] : List Nat).map encN), .i 1]) := aF (wkr_pair wkr_nilN rfl) (by simp [go_sem])
   by_cases h0 : i < 0
   ·have d0 : decide (i < 0) = true := decide_eq_true h0
    simp -implicitDefEqProofs only [go_sem, hy, e0, bne_self_eq_false, d0]
    exact fin
   ·have d0 : decide (i < 0) = false := decide_eq_false h0
    have d1 : decide (i >= (p.procs.length : Int)) = true := decide_eq_true (hb.resolve_left h0)
    simp -implicitDefEqProofs only [go_sem, o1_g, hy, e0, bne_self_eq_false, d0, d1]
    exact fin
  ·have hE : callsE p i = 0 := by simp [callsE, hy, hb]
   have hR : callsR p i = calN p i.toNat := by simp [callsR, hE]
   rw [hE, hR]
   have h0 : ¬ i < 0 := fun h => hb (.inl h)
   have h1' : ¬ i >= p.procs.length := fun h => hb (.inr h)
   have d0 : decide (i < 0) = false := decide_eq_false h0
   have d1 : decide (i >= (p.procs.length : Int)) = false := decide_eq_false h1'
   have q := h133 p (hp.calls hy) i.toNat (by omega) k (h1 ++ [.cells 153 [.sl 3 (p.procs.map encPr), .mp k, .v (.map none)]]) (aE hk)
   rw [Int.toNat_of_nonneg (by omega)] at q
   simp -implicitDefEqProofs only [go_sem, o1_g, hy, e0, bne_self_eq_false, d0, d1]
   refine bX hC q fun h2 hk2 => ?_
   simp -implicitDefEqProofs only [go_sem]
   exact aF (wkr_refl _) (by simp [go_sem, free_encN.bds])
 ·have e0 : okE false = 5 := rfl
  have hE : callsE p i = 5 := by simp [callsE, hy]
  have hR : callsR p i = [] := by simp [callsR, hE]
  rw [hE, hR]
  simp -implicitDefEqProofs only [go_sem, hy, e0, bne50]
  exact aF (wkr_pair wkr_nilN rfl) (by simp [go_sem])
def reachS (p : Pg) (l : List Tm) : List Bool := closeF (calN p) (calB p l)
def reachR (p : Pg) (q : Qy) : List Nat := if okQuery p q then nxs (reachS p q.goals) else []
theorem h65 (p : Pg) (hp : p.small) (q : Qy) (hq : q.fits) (hq2 : q.goals.length < 2 ^ 24) : Pure (PC GLs) 65 [encPg p, encQy q] (.tup [.sl 1 ((reachR p q).map encN), .i (okE (okQuery p q))]) := by
 have q145 := fun h => h145 p hp.fits q hq h
 simp only [encPg, encQy] at q145
 have hl := hp.l
 refine k65.pure (by simp) (by simp [go_sem]) (by simp [go_sem]) ?_
 simp -implicitDefEqProofs only [go_sem, c65, r65, encPg, encQy]
 refine aN hC (q145 _) fun x h1 ⟨a, b, c, hx, hk1, hy⟩ => ?_
 subst hx
 have o1 := hk1.got (i := 0) rfl
 have o2 := hk1.got (i := 1) rfl
 have o1_g := fun l => aE (l := l) o1
 have o1_s := fun o l => aO (l := l) o1 o
 have o1_e := fun o l => aP (o := o) (l := l) o1
 have o1_h := fun o => aJ (o := o) o1
 have o2_g := fun l => aE (l := l) o2
 have o2_s := fun o l => aO (l := l) o2 o
 have o2_e := fun o l => aP (o := o) (l := l) o2
 have o2_h := fun o => aJ (o := o) o2
 rcases hok : okQuery p q with _ | _
 ·have e0 : okE false = 5 := rfl
  have hR : reachR p q = [] := by simp [reachR, hok]
  rw [hR]
  simp -implicitDefEqProofs only [go_sem, e0, bne50]
  exact aF (wkr_pair wkr_nilN rfl) (by simp [go_sem])
 ·obtain ⟨k, ⟨rfl, rfl, rfl⟩, hk⟩ := hy hok
  have hpo : p.ok = true /\ okCalls p.syms [] q.goals = true := by simp only [okQuery, Bool.and_eq_true] at hok; exact ⟨hok.1, hok.2.2⟩
  have hpc := hp.calls hpo.1
  have hR : reachR p q = nxs (reachS p q.goals) := by simp [reachR, hok]
  rw [hR]
  have e0 : okE true = 0 := rfl
  have q154 := h154 p q.goals hq2 hpo.2 k (h1 ++ [.cells 153 [.sl 3 (p.procs.map encPr), .mp k, .v (.map none)]]) (aE hk)
  rw [ixs_enc] at q154
  have q151 := fun h' hk' => h151 p hpc (calB p q.goals) (cR _ _) k h' hk'
  have q153 := h153 (GL := GLs) (reachS p q.goals) (by rw [reachS, closeF_len, cR]; omega)
  simp -implicitDefEqProofs only [go_sem, o2_g, e0, bne_self_eq_false]
  refine bX hC q154 fun h2 hk2 => ?_
  have o3 := hk2.got (i := h1.length) (by rw [dF]; rfl)
  simp -implicitDefEqProofs only [go_sem, o3]
  refine bX hC (q151 h2 (hk2.got (aE hk))) fun h3 hk3 => ?_
  simp -implicitDefEqProofs only [go_sem]
  refine aC hC q153 ?_
  simp -implicitDefEqProofs only [go_sem]
  exact aF (wkr_refl _) (by simp [go_sem, free_encN.bds])
theorem mkd_setb {l : List Bool} {i j : Nat} {b : Bool} (hi : i < l.length) : mkd (l.set i b) j = if j = i then b else mkd l j := by
 by_cases h : j = i
 ·subst h; simp [mkd, List.getD, hi]
 ·rw [if_neg h]; simp only [mkd, List.getD, List.getElem?_set_ne (fun e => h e.symm)]
theorem set_encB' (l : List Bool) (i : Nat) (b : Bool) : (l.map encB).set i (.v (.bool b)) = (l.set i b).map encB := by rw [show AV.v (.bool b) = encB b from rfl, List.map_set]
theorem cont_calN (p : Pg) (i k : Nat) : (calN p i).contains k = mkd (calG p i) k := by
 rw [Bool.eq_iff_iff, List.contains_iff_mem, calN, mem_nxs]
end Go.Rip
namespace Go.Rip
open Go
structure Wd (x y : AV) : Prop where
 l : y.cells.length = x.cells.length
 r : ∀ E A G w v, Rep E A G w x v -> Rep E A G w y v
 c : ∀ E A G w b o, RepC E A G w b o x.cells -> RepC E A G w b o y.cells
theorem Wd.rfl (x : AV) : Wd x x := ⟨Eq.refl _, fun _ _ _ _ _ h => h, fun _ _ _ _ _ _ h => h⟩
theorem Wd.one {x y : AV} (hx : x.cells = [x]) (hy : y.cells = [y]) (h : ∀ E A G w v, Rep E A G w x v -> Rep E A G w y v) : Wd x y :=
 ⟨by rw [hx, hy]; exact Eq.refl _, h, fun E A G w b o => by
  rw [hx, hy]
  simp only [RepC, and_true]
  rintro ⟨u, h1, h2, h3, h4⟩
  exact ⟨u, h1, h2, h3, h _ _ _ _ _ h4⟩⟩
def Wds : List AV -> List AV -> Prop
 | [], [] => True
 | x :: xs, y :: ys => Wd x y /\ Wds xs ys
 | _, _ => False
theorem Wds.rfl : ∀ l, Wds l l
 | [] => trivial
 | x :: xs => ⟨Wd.rfl x, Wds.rfl xs⟩
theorem Wds.app : ∀ {a a' b b' : List AV}, Wds a a' -> Wds b b' -> Wds (a ++ b) (a' ++ b')
 | [], [], _, _, _, h => h
 | _ :: _, _ :: _, _, _, h, k => ⟨h.1, Wds.app h.2 k⟩
 | [], _ :: _, _, _, h, _ => h.elim
 | _ :: _, [], _, _, h, _ => h.elim
theorem Wds.len : ∀ {l l' : List AV}, Wds l l' -> l'.length = l.length
 | [], [], _ => Eq.refl _
 | _ :: _, _ :: _, h => by simp [Wds.len h.2]
 | [], _ :: _, h => h.elim
 | _ :: _, [], h => h.elim
section
variable {E : Env} {A : Nat -> Nat -> Prop} {G : Gd} {w : World}
theorem Wds.reps : ∀ {l l' : List AV} {vs : List Value}, Wds l l' -> Reps E A G w l vs -> Reps E A G w l' vs
 | [], [], _, _, h => h
 | _ :: _, _ :: _, _, h, k => by
  simp only [Reps] at k ⊢
  obtain ⟨u, us, rfl, h1, h2⟩ := k
  exact ⟨u, us, Eq.refl _, h.1.r _ _ _ _ _ h1, Wds.reps h.2 h2⟩
 | [], _ :: _, _, h, _ => h.elim
 | _ :: _, [], _, h, _ => h.elim
theorem Wds.repC : ∀ {l l' : List AV} {b o : Nat}, Wds l l' -> RepC E A G w b o l -> RepC E A G w b o l'
 | [], [], _, _, _, h => h
 | _ :: _, _ :: _, _, _, h, k => by
  simp only [RepC] at k ⊢
  obtain ⟨⟨u, h1, h2, h3, h4⟩, h5⟩ := k
  exact ⟨⟨u, h1, h2, h3, h.1.r _ _ _ _ _ h4⟩, Wds.repC h.2 h5⟩
 | [], _ :: _, _, _, h, _ => h.elim
 | _ :: _, [], _, _, h, _ => h.elim
theorem Wds.repL {sz : Nat} : ∀ {l l' : List AV} {b o : Nat}, Wds l l' -> RepL E A G w sz b o l -> RepL E A G w sz b o l'
 | [], [], _, _, _, h => h
 | _ :: _, _ :: _, _, _, h, k => by
  rw [bY] at k ⊢
  exact ⟨h.1.l.trans k.1, h.1.c _ _ _ _ _ _ k.2.1, Wds.repL h.2 k.2.2⟩
 | [], _ :: _, _, _, h, _ => h.elim
 | _ :: _, [], _, _, h, _ => h.elim
theorem Wds.slice {l l' : List AV} {sz n c : Nat} {p : Option Addr} (h : Wds l l') (k : n = l.length /\ n <= c /\ n <= 2 ^ 50 /\ (l = [] ∨ ∃ b o, p = some ⟨b, o, none⟩ /\ RepL E A G w sz b o l)) :
  n = l'.length /\ n <= c /\ n <= 2 ^ 50 /\ (l' = [] ∨ ∃ b o, p = some ⟨b, o, none⟩ /\ RepL E A G w sz b o l') := by
 obtain ⟨h1, h2, h3, h4⟩ := k
 refine ⟨h1.trans h.len.symm, h2, h3, ?_⟩
 rcases h4 with rfl | ⟨b, o, hp, hr⟩
 ·exact .inl (List.eq_nil_of_length_eq_zero (by rw [h.len]; exact Eq.refl _))
 ·exact .inr ⟨b, o, hp, h.repL hr⟩
end
theorem Wd.sl {sz : Nat} {l l' : List AV} (h : Wds l l') : Wd (.sl sz l) (.sl sz l') := Wd.one (Eq.refl _) (Eq.refl _) fun E A G w v k => by
 simp only [Rep] at k ⊢
 obtain ⟨p, n, c, e, k⟩ := k
 exact ⟨p, n, c, e, h.slice k⟩
theorem Wd.own {j sz : Nat} {l l' : List AV} (h : Wds l l') : Wd (.own j sz l) (.own j sz l') := Wd.one (Eq.refl _) (Eq.refl _) fun E A G w v k => by
 simp only [Rep] at k ⊢
 obtain ⟨k1, k2, p, n, c, e, k⟩ := k
 exact ⟨k1, k2, p, n, c, e, h.slice k⟩
theorem Wd.fz {j sz : Nat} {l l' : List AV} (h : Wds l l') : Wd (.own j sz l) (.sl sz l') := Wd.one (Eq.refl _) (Eq.refl _) fun E A G w v k => by
 simp only [Rep] at k ⊢
 obtain ⟨_, _, p, n, c, e, k⟩ := k
 exact ⟨p, n, c, e, h.slice k⟩
theorem Wd.nil {sz : Nat} : Wd (.v (.slice none 0 0)) (.sl sz []) := Wd.one (Eq.refl _) (Eq.refl _) fun E A G w v k => by
 simp only [Rep] at k ⊢
 subst k
 exact ⟨none, 0, 0, Eq.refl _, Eq.refl _, Nat.le_refl _, by decide, .inl trivial⟩
theorem Wd.agg {l l' : List AV} (h : Wds l l') : Wd (.agg l) (.agg l') := ⟨h.len, fun E A G w v k => by
 simp only [Rep] at k ⊢
 obtain ⟨cs, e, ho, k⟩ := k
 exact ⟨cs, e, ho, h.reps k⟩, fun E A G w b o k => h.repC k⟩
theorem Wd.tup {l l' : List AV} (h : Wds l l') : Wd (.tup l) (.tup l') := Wd.one (Eq.refl _) (Eq.refl _) fun E A G w v k => by
 simp only [Rep] at k ⊢
 obtain ⟨cs, e, k⟩ := k
 exact ⟨cs, e, h.reps k⟩
def PicksW (τ : List (Nat × AV)) : List (Nat × AV) -> Prop
 | [] => True
 | (i, x) :: r => Wd (tget τ i) x /\ PicksW τ r
theorem PicksW.get {τ : List (Nat × AV)} : ∀ {r : List (Nat × AV)}, PicksW τ r -> ∀ i, Wd (tget τ i) (tget r i) ∨ tget r i = .any
 | [], _, i => .inr (Eq.refl _)
 | (j, x) :: r, h, i => by
  simp only [PicksW] at h
  simp only [tget]
  split
  ·rename_i hb
   have := Nat.eq_of_beq_eq_true hb
   subst this
   exact .inl h.1
  ·exact PicksW.get h.2 i
theorem Wk.pickW {GL : Glob} {m : Nat} {τ τ' : List (Nat × AV)} {h : List AObj} (hm : m <= h.length) (hp : PicksW τ τ') : Wk GL m τ h τ' h := by
 intro E A G w f hW hf
 refine ⟨E, A, G, hW, fun i => ?_, Ext.refl _ _ _, by rw [hW.n]; exact hm, fun _ _ => ⟨Eq.refl _, Eq.refl _, Eq.refl _, Eq.refl _⟩⟩
 rcases hp.get i with e | e
 ·exact e.r _ _ _ _ _ (hf i)
 ·rw [e]; simp [Rep]
end Go.Rip
namespace Go.Rip
open Go Go.Proofs
set_option maxRecDepth 100000
variable {GL : Glob}
attribute [local irreducible] Pure
def encIs (l : List Int) : AV := .sl 1 (l.map encI)
theorem free_encIs : Free encIs := ⟨fun κ a => by simp only [encIs, ren, free_encI.rens], fun n a => by simp only [encIs, bd, free_encI.bds]⟩
@[go_sem] theorem bds_encIs' (n : Nat) (l : List (List Int)) : bds n (l.map encIs) = True := free_encIs.bds n l
def rowM (p : Pg) (i : Nat) : List Bool := closeF (calN p) (calG p i)
def matM (p : Pg) : List (List Bool) := (List.range p.procs.length).map (rowM p)
theorem rowM_len (p : Pg) (i : Nat) : (rowM p i).length = p.procs.length := by rw [rowM, closeF_len, dH]
theorem matM_row {p : Pg} {i : Nat} (h : i < p.procs.length) : (matM p).getD i [] = rowM p i := by simp [matM, List.getD, h]
theorem toM_row {p : Pg} {i k : Nat} (h : i < p.procs.length) : toM (matM p) i k = mkd (rowM p i) k := by rw [toM, matM_row h]
theorem matM_tr (p : Pg) : TrM p.procs.length (matM p) := trM_of (G := calN p) fun i hi => by
 rw [matM_row hi]
 have h := closeF_lc (G := calN p) (l := calG p i) (by rw [dH]; exact calN_lt p)
 exact ⟨fun k hk => h.m k (mem_nxs.1 hk), h.c, fun T hT hk => h.t T hT fun k hm => hk k (mem_nxs.2 hm)⟩
def encRow (p : Pg) (i : Nat) : AV := .sl 1 ((rowM p i).map encB)
def rowsA (p : Pg) (j : Nat) : List AV := (List.range p.procs.length).map fun i => if i < j then encRow p i else .v (.slice none 0 0)
theorem rowsA_len (p : Pg) (j : Nat) : (rowsA p j).length = p.procs.length := by simp [rowsA]
theorem rowsA_zero (p : Pg) : List.replicate p.procs.length (AV.v (.slice none 0 0)) = rowsA p 0 := by
 apply List.ext_getElem (by simp [rowsA])
 intro i h1 h2
 simp [rowsA]
theorem rowsA_set {p : Pg} {j : Nat} (_ : j < p.procs.length) : (rowsA p j).set j (encRow p j) = rowsA p (j + 1) := by
 apply List.ext_getElem (by simp [rowsA])
 intro i h1 h2
 rw [List.getElem_set]
 simp only [rowsA, List.getElem_map, List.getElem_range]
 split
 ·subst_vars; simp
 ·rename_i hne
  have : (i < j) = (i < j + 1) := by
   rw [eq_iff_iff]; omega
  simp only [this]
theorem rowsA_get {p : Pg} {i : Nat} (h : i < p.procs.length) : (rowsA p p.procs.length)[i]? = some (encRow p i) := by simp [rowsA, h]
theorem bndR {p : Pg} {i : Nat} (j : Nat) (h : i < p.procs.length) : bounds (i : Int) (List.take p.procs.length (rowsA p j)).length = True := by
 rw [List.take_of_length_le (by rw [rowsA_len]; exact Nat.le_refl _), rowsA_len]; simp [bounds, h]
theorem bleR (p : Pg) (j : Nat) : Nat.ble p.procs.length (rowsA p j).length = true := by rw [rowsA_len]; simp
theorem bndRow {p : Pg} {i k : Nat} (h : k < p.procs.length) : bounds (k : Int) (List.length (rowM p i)) = True := by rw [rowM_len]; simp [bounds, h]
theorem getRow {p : Pg} {i k : Nat} (h : k < p.procs.length) : ((rowM p i).map encB).getD k .any = encB (mkd (rowM p i) k) := by
 have := dE (l := rowM p i) (i := k) (by rw [rowM_len]; exact h)
 rw [List.getD, this]; rfl
theorem h152 (p : Pg) (i k : Nat) (hi : i < p.procs.length) (hk : k < p.procs.length) (tb kt : Nat) (h : List AObj) (h1 : h[tb]? = some (.cells 89 [.vec kt 1 p.procs.length])) (h2 : h[kt]? = some (.buf 92 1 (rowsA p p.procs.length))) :
  Adds (PC GL) 152 [.i i, .i k, .ref tb 0] h (.b (oneM (matM p) i k)) := by
 have e : oneM (matM p) i k = (i == k || (mkd (rowM p i) k && mkd (rowM p k) i)) := by rw [oneM, toM_row hi, toM_row hk]
 rw [e]
 have ei : ((i : Int) == (k : Int)) = (i == k) := by rw [Bool.eq_iff_iff, beq_iff_eq, beq_iff_eq]; omega
 have fin : ∀ b, ∃ y h', Wk GL h.length [(0, .b b)] h [(0, y)] h' /\ ∃ x, ARes.val y = ARes.val x /\ x = .b b /\ Keep All h h' := fun b => aK (Nat.le_refl _) ⟨rfl, Keep.refl _ _⟩
 refine k152.gives (by simp) ?_
 simp -implicitDefEqProofs only [go_sem, c152, r152, ei]
 rcases i == k with _ | _
 ·simp -implicitDefEqProofs only [go_sem, h1, h2, bleR, bndR _ hi, rowsA_get hi, encRow, bndRow hk, getRow hk, encB]
  rcases mkd (rowM p i) k with _ | _
  ·simp -implicitDefEqProofs only [go_sem]
   exact fin _
  ·simp -implicitDefEqProofs only [go_sem, h1, h2, bleR, bndR _ hk, rowsA_get hk, encRow, bndRow hi, getRow hi, encB]
   rcases mkd (rowM p k) i with _ | _
   ·exact fin _
   ·exact fin _
 ·simp -implicitDefEqProofs only [go_sem]
  exact fin _
end Go.Rip
namespace Go.Rip
open Go Go.Proofs
set_option maxRecDepth 100000
structure Dim (n : Nat) (R : List (List Bool)) : Prop where
 r : R.length = n
 c : ∀ i, i < n -> (R.getD i []).length = n
def setM (R : List (List Bool)) (i j : Nat) (b : Bool) : List (List Bool) := R.set i ((R.getD i []).set j b)
theorem getD_setr {R : List (List Bool)} {i i' : Nat} {x : List Bool} (hi : i < R.length) : (R.set i x).getD i' [] = if i' = i then x else R.getD i' [] := by
 by_cases h : i' = i
 ·subst h; simp [List.getD, hi]
 ·rw [if_neg h]; simp only [List.getD, List.getElem?_set_ne (fun e => h e.symm)]
theorem Dim.set {n : Nat} {R : List (List Bool)} (h : Dim n R) {i : Nat} (hi : i < n) (j : Nat) (b : Bool) : Dim n (setM R i j b) := by
 have hR := h.r
 refine ⟨by simp [setM, hR], fun x hx => ?_⟩
 rw [setM, getD_setr (by omega)]
 split
 ·rw [List.length_set]; exact h.c i hi
 ·exact h.c x hx
theorem toM_set {n : Nat} {R : List (List Bool)} (h : Dim n R) {i j : Nat} (hi : i < n) (hj : j < n) (b : Bool) (i' j' : Nat) : toM (setM R i j b) i' j' = if i' = i /\ j' = j then b else toM R i' j' := by
 have hR := h.r
 have hc := h.c i hi
 rw [toM, setM, getD_setr (by omega)]
 by_cases e : i' = i
 ·subst e
  simp only [if_true, true_and]
  rw [mkd_setb (by omega), toM]
 ·simp only [e, if_false, false_and, toM]
def stepM (R : List (List Bool)) (k i j : Nat) : List (List Bool) := setM R i j (toM R i j || (toM R i k && toM R k j))
def fwJ (R : List (List Bool)) (k i : Nat) : Nat -> List (List Bool)
 | 0 => R
 | j + 1 => stepM (fwJ R k i j) k i j
def fwI (n : Nat) (R : List (List Bool)) (k : Nat) : Nat -> List (List Bool)
 | 0 => R
 | i + 1 => fwJ (fwI n R k i) k i n
def fwK (n : Nat) (R : List (List Bool)) : Nat -> List (List Bool)
 | 0 => R
 | k + 1 => fwI n (fwK n R k) k n
def viaM (R : List (List Bool)) (k i j : Nat) : Bool := toM R i j || (toM R i k && toM R k j)
theorem viaM_left (R : List (List Bool)) (k i : Nat) : viaM R k i k = toM R i k := by
 unfold viaM; rcases toM R i k <;> rcases toM R k k <;> rfl
theorem viaM_right (R : List (List Bool)) (k j : Nat) : viaM R k k j = toM R k j := by
 unfold viaM; rcases toM R k j <;> rcases toM R k k <;> rfl
theorem fwJ_ok {n : Nat} {R : List (List Bool)} (h : Dim n R) {k i : Nat} (hi : i < n) : ∀ j, j <= n -> Dim n (fwJ R k i j) /\ ∀ i' j', toM (fwJ R k i j) i' j' = if i' = i /\ j' < j then viaM R k i' j' else toM R i' j'
 | 0, _ => ⟨h, fun i' j' => by simp [fwJ]⟩
 | j + 1, hj => by
  obtain ⟨d, ih⟩ := fwJ_ok h hi j (by omega)
  refine ⟨d.set hi _ _, fun i' j' => ?_⟩
  rw [fwJ, stepM, toM_set d hi (by omega)]
  have h1 : toM (fwJ R k i j) i j = toM R i j := by rw [ih, if_neg (by omega)]
  have h2 : toM (fwJ R k i j) i k = toM R i k := by
   rw [ih]; split
   ·exact viaM_left R k i
   ·rfl
  have h3 : toM (fwJ R k i j) k j = toM R k j := by rw [ih, if_neg (by omega)]
  rw [h1, h2, h3, ih]
  by_cases e : i' = i /\ j' = j
  ·obtain ⟨rfl, rfl⟩ := e
   rw [if_pos ⟨rfl, rfl⟩, if_pos ⟨rfl, by omega⟩]; rfl
  ·rw [if_neg e]
   have : (i' = i /\ j' < j) = (i' = i /\ j' < j + 1) := by
    rw [eq_iff_iff]; omega
   simp only [this]
theorem fwI_ok {n : Nat} {R : List (List Bool)} (h : Dim n R) {k : Nat} : ∀ i, i <= n -> Dim n (fwI n R k i) /\ ∀ i' j', toM (fwI n R k i) i' j' = if i' < i /\ j' < n then viaM R k i' j' else toM R i' j'
 | 0, _ => ⟨h, fun i' j' => by simp [fwI]⟩
 | i + 1, hi => by
  obtain ⟨d, ih⟩ := fwI_ok h (k := k) i (by omega)
  obtain ⟨d2, ih2⟩ := fwJ_ok d (k := k) (show i < n by omega) n (Nat.le_refl _)
  refine ⟨d2, fun i' j' => ?_⟩
  rw [fwI, ih2]
  by_cases e : i' = i /\ j' < n
  ·obtain ⟨rfl, hj⟩ := e
   rw [if_pos ⟨rfl, hj⟩, if_pos ⟨by omega, hj⟩, viaM, ih, if_neg (by omega), ih, if_neg (by omega), ih]
   split
   ·rw [viaM_right]; rfl
   ·rfl
  ·rw [if_neg e, ih]
   have : (i' < i /\ j' < n) = (i' < i + 1 /\ j' < n) := by
    rw [eq_iff_iff]; omega
   simp only [this]
theorem Dim.out {n : Nat} {R : List (List Bool)} (h : Dim n R) {i j : Nat} (ht : toM R i j = true) : i < n /\ j < n := by
 have hj := mkd_lt ht
 have hi : i < n := by
  rcases Nat.lt_or_ge i R.length with g | g
  ·have := h.r; omega
  ·simp [List.getD, List.getElem?_eq_none g] at hj
 exact ⟨hi, by have := h.c i hi; omega⟩
theorem fwK_ok {n : Nat} {R : List (List Bool)} (h : Dim n R) : ∀ k, k <= n -> Dim n (fwK n R k) /\ (∀ i j, toM R i j = true -> toM (fwK n R k) i j = true) /\
  (∀ x, x < k -> ∀ i j, toM (fwK n R k) i x = true -> toM (fwK n R k) x j = true -> toM (fwK n R k) i j = true) /\
  ∀ Q : Nat -> Nat -> Prop, (∀ a b c, Q a b -> Q b c -> Q a c) -> (∀ i j, toM R i j = true -> Q i j) -> ∀ i j, toM (fwK n R k) i j = true -> Q i j
 | 0, _ => ⟨h, fun _ _ e => e, fun x hx => by omega, fun Q _ hQ => hQ⟩
 | k + 1, hk => by
  obtain ⟨d, i1, i2, i3⟩ := fwK_ok h k (by omega)
  obtain ⟨d2, ih⟩ := fwI_ok d (k := k) n (Nat.le_refl _)
  have val : ∀ i j, toM (fwK n R (k + 1)) i j = true ↔ toM (fwK n R k) i j = true ∨ (toM (fwK n R k) i k = true /\ toM (fwK n R k) k j = true) := fun i j => by
   rw [fwK, ih]
   split
   ·rw [viaM, Bool.or_eq_true, Bool.and_eq_true]
   ·rename_i hn
    refine ⟨.inl, ?_⟩
    rintro (e | ⟨e1, e2⟩)
    ·exact e
    ·exact absurd ⟨(d.out e1).1, (d.out e2).2⟩ hn
  refine ⟨d2, fun i j e => (val i j).2 (.inl (i1 i j e)), fun x hx i j e1 e2 => ?_, fun Q hT hQ i j e => ?_⟩
  ·rw [val] at e1 e2 ⊢
   by_cases hxk : x = k
   ·subst hxk
    refine .inr ⟨?_, ?_⟩
    ·rcases e1 with e | ⟨e, _⟩ <;> exact e
    ·rcases e2 with e | ⟨_, e⟩ <;> exact e
   ·have hx' : x < k := by omega
    rcases e1 with e1 | ⟨a1, a2⟩ <;> rcases e2 with e2 | ⟨b1, b2⟩
    ·exact .inl (i2 x hx' i j e1 e2)
    ·exact .inr ⟨i2 x hx' i k e1 b1, b2⟩
    ·exact .inr ⟨a1, i2 x hx' k j a2 e2⟩
    ·exact .inr ⟨a1, b2⟩
  ·rcases (val i j).1 e with e | ⟨e1, e2⟩
   ·exact i3 Q hT hQ i j e
   ·exact hT i k j (i3 Q hT hQ i k e1) (i3 Q hT hQ k j e2)
def calM (p : Pg) : List (List Bool) := (List.range p.procs.length).map (calG p)
theorem calM_row {p : Pg} {i : Nat} (h : i < p.procs.length) : (calM p).getD i [] = calG p i := by simp [calM, List.getD, h]
theorem calM_dim (p : Pg) : Dim p.procs.length (calM p) := ⟨by simp [calM], fun i hi => by rw [calM_row hi, dH]⟩
theorem calM_to {p : Pg} {i k : Nat} (h : i < p.procs.length) : toM (calM p) i k = true ↔ k ∈ calN p i := by rw [toM, calM_row h, calN, mem_nxs]
theorem fw_matM (p : Pg) : fwK p.procs.length (calM p) p.procs.length = matM p := by
 obtain ⟨d, h1, h2, h3⟩ := fwK_ok (calM_dim p) p.procs.length (Nat.le_refl _)
 generalize fwK p.procs.length (calM p) p.procs.length = F at *
 have row : ∀ i, i < p.procs.length -> F.getD i [] = rowM p i := fun i hi => by
  have hl := closeF_lc (G := calN p) (l := calG p i) (by rw [dH]; exact calN_lt p)
  have hF : LC (calN p) (fun k => mkd (calG p i) k = true) (F.getD i []) := by
   refine ⟨fun k hk => h1 i k ((calM_to hi).2 (mem_nxs.2 hk)), fun x hx k hk => ?_, fun T hT hk x hx => ?_⟩
   ·have hx2 := (d.out (i := i) hx).2
    exact h2 x hx2 i k hx (h1 x k ((calM_to hx2).2 hk))
   ·refine h3 (fun a b => (a = i ∨ mkd T a = true) -> mkd T b = true) (fun a b c ab bc ha => bc (.inr (ab ha))) (fun a b e ha => ?_) i x hx (.inl rfl)
    have ha2 := (calM_dim p).out e
    have e := (calM_to ha2.1).1 e
    rcases ha with rfl | ha
    ·exact hk b (mem_nxs.1 e)
    ·exact hT a ha b e
  exact hF.eq hl (fun _ => Iff.rfl) (by rw [d.c i hi, rowM_len])
 apply List.ext_getElem
 ·rw [d.r]; simp [matM]
 ·intro i a b
  have hi : i < p.procs.length := by have := d.r; omega
  have := row i hi
  simp only [List.getD, List.getElem?_eq_getElem a, Option.getD_some] at this
  rw [this]; simp [matM]
end Go.Rip
namespace Go.Rip
open Go Go.Proofs
set_option maxRecDepth 100000
variable {GL : Glob}
attribute [local irreducible] Pure
def frT (M : List (List Bool)) (done : List Bool) (j t : Nat) : Bool := !mkd done j && (List.range t).all (okM M done j)
theorem frT_succ (M : List (List Bool)) (done : List Bool) (j t : Nat) : frT M done j (t + 1) = (frT M done j t && okM M done j t) := by
 rw [frT, frT, List.range_succ, List.all_append]; simp [Bool.and_assoc]
theorem frT_stop {M : List (List Bool)} {done : List Bool} {j t n : Nat} (h : frT M done j t = false) (ht : t <= n) : freeM n M done j = false := by
 rw [<- Bool.not_eq_true] at h ⊢
 intro hf
 refine h ?_
 simp only [freeM, frT, Bool.and_eq_true, List.all_eq_true, List.mem_range] at hf ⊢
 exact ⟨hf.1, fun x hx => hf.2 x (by omega)⟩
theorem frT_full (n : Nat) (M : List (List Bool)) (done : List Bool) (j : Nat) : frT M done j n = freeM n M done j := rfl
def nxOk (n : Nat) (M : List (List Bool)) (done : List Bool) (j : Nat) (x : Int) : Prop := (x = -1 /\ ∀ i, i < j -> freeM n M done i = false) ∨ ∃ i : Nat, x = i /\ nextM n M done = some i
def compT (M : List (List Bool)) (i t : Nat) : List Int := ((List.range t).filter (oneM M i)).map fun k : Nat => (k : Int)
theorem compT_succ (M : List (List Bool)) (i t : Nat) : compT M i (t + 1) = if oneM M i t then compT M i t ++ [(t : Int)] else compT M i t := by
 simp only [compT, List.range_succ, List.filter_append, List.map_append]
 rcases h : oneM M i t with _ | _ <;> simp [h]
theorem compT_len (M : List (List Bool)) (i t : Nat) : (compT M i t).length <= t := by
 have := List.length_filter_le (oneM M i) (List.range t)
 simpa [compT] using this
structure CH (p : Pg) (tb kt kd : Nat) (done : List Bool) (h : List AObj) : Prop where
 b : h[tb]? = some (.cells 89 [.vec kt 1 p.procs.length])
 t : h[kt]? = some (.buf 92 1 (rowsA p p.procs.length))
 d : h[kd]? = some (.buf 4 1 (done.map encB))
theorem CH.keep {p : Pg} {tb kt kd : Nat} {done : List Bool} {h h' : List AObj} (H : CH p tb kt kd done h) (k : Keep All h h') : CH p tb kt kd done h' := ⟨k.got H.b, k.got H.t, k.got H.d⟩
theorem CH.set {p : Pg} {tb kt kd : Nat} {done : List Bool} {h : List AObj} (H : CH p tb kt kd done h) (d2 : List Bool) : CH p tb kt kd d2 (h.set kd (.buf 4 1 (d2.map encB))) :=
 ⟨by rw [aR (cJ H.d H.b (by simp))]; exact H.b, by rw [aR (cJ H.d H.t (by simp))]; exact H.t, aJ H.d⟩
theorem decm : decide ((-1 : Int) < 0) = true := rfl
theorem decn (n : Nat) : decide ((n : Int) < 0) = false := decide_eq_false (by omega)
def compsR (p : Pg) : List (List Int) := if p.ok then comps p.procs.length (matM p) p.procs.length (List.replicate p.procs.length false) else []
theorem h63 (p : Pg) (hp : p.small) : Pure (PC GLs) 63 [encPg p] (.tup [.sl 1 ((compsR p).map encIs), .i (okE p.ok)]) := by
 have q116 := fun h => h116 p hp.fits h
 simp only [encPg] at q116
 have hl := hp.l
 refine k63.pure (by simp) (by simp [go_sem]) (by simp [go_sem]) ?_
 simp -implicitDefEqProofs only [go_sem, c63, r63, encPg]
 refine aN hC (q116 _) fun x h1 ⟨y, hx, hk1, hy⟩ => ?_
 subst hx
 have o1 := hk1.got (i := 0) rfl
 have o1_g := fun l => aE (l := l) o1
 have o1_s := fun o l => aO (l := l) o1 o
 have o1_e := fun o l => aP (o := o) (l := l) o1
 have o1_h := fun o => aJ (o := o) o1
 rcases hy with ⟨hy, km, rfl, hk⟩ | ⟨hy, rfl⟩
 ·have e0 : okE true = 0 := rfl
  have hR : compsR p = comps p.procs.length (matM p) p.procs.length (List.replicate p.procs.length false) := by simp [compsR, hy]
  rw [hR, hy, e0]
  have hpc := hp.calls hy
  simp -implicitDefEqProofs only [go_sem, aT, cB, List.append_assoc, o1_g, bne_self_eq_false, rowsA_zero]
  refine ⟨by omega, ?_⟩
  have q133 := fun i hi h hk => h133 p hpc i hi km h hk
  have q151 := fun S hS h hk => h151 p hpc S hS km h hk
  obtain ⟨L, hL⟩ : ∃ L, L = h1.length := ⟨_, rfl⟩
  rw [<- hL]
  refine aZ hC (fun j (_ : Unit) => [(32, .i j), (31, .i p.procs.length), (6, .i p.procs.length), (7, .ref (L + 2) 0), (4, .ref L 0)])
   (fun j (_ : Unit) h' => h'[L]? = some (.cells 153 [.sl 3 (p.procs.map encPr), .mp km, .v (.map none)]) /\ h'[km]? = some (tabO p.syms) /\ h'[L + 2]? = some (.cells 89 [.vec (L + 1) 1 p.procs.length]) /\ h'[L + 1]? = some (.buf 92 1 (rowsA p j))) p.procs.length ?_ fun j _ h2 hj ⟨f1, f2, f3, f4⟩ => ?_
  ·refine ⟨(), _, Wk.pick (by simp) (by simp [go_sem]), ?_, aE hk, ?_, ?_⟩
   ·subst hL; rw [dF]; rfl
   ·subst hL; rw [aT]; rfl
   ·subst hL; rw [aT]; rfl
  simp -implicitDefEqProofs only [go_sem]
  refine aG (fun hlt => ?_) (fun hlt => ?_)
  ·have hlt := aI hlt
   have w5 : IntKind.i64.wrap ((j : Int) + 1) = (j : Int) + 1 := aD _ (by omega)
   simp -implicitDefEqProofs only [go_sem, hlt, f1, f3]
   refine bX hC (q133 j hlt h2 f2) fun h3 k3 => ?_
   have q := q151 (calG p j) (dH p j) h3 (k3.got f2)
   simp -implicitDefEqProofs only [go_sem, k3.got f1, k3.got f3]
   refine bX hC q fun h4 k4 => ?_
   have k5 := k3.trans k4
   have g4 := k5.got f4
   have es : (rowsA p j).set j (.sl 1 ((closeF (calN p) (calG p j)).map encB)) = rowsA p (j + 1) := rowsA_set hlt
   have gj : ∃ x, (rowsA p j)[j]? = some x /\ ∀ cs, x ≠ .agg cs := by
    refine ⟨.v (.slice none 0 0), by simp [rowsA, hlt], fun cs e => by cases e⟩
   have gj0 : (rowsA p j)[j]? = some (.v (.slice none 0 0)) := by simp [rowsA, hlt]
   simp -implicitDefEqProofs only [go_sem, k5.got f3, g4, bleR, bndR _ hlt, gj0, es]
   exact ⟨(), _, Wk.pick (Nat.zero_le _) (by simp [go_sem, w5]), by rw [aR (by omega)]; exact k5.got f1, by rw [aR (cJ g4 (k5.got f2) (by simp [tabO]))]; exact k5.got f2, by rw [aR (by omega)]; exact k5.got f3, aJ g4⟩
  ·have hge := aL hlt
   have hj' : j = p.procs.length := by omega
   subst hj'
   have hMt := matM_tr p
   simp -implicitDefEqProofs only [go_sem, hlt, map_rep]
   refine ⟨by omega, ?_⟩
   have q152 := fun i k hi hk h h1 h2 => h152 (GL := GLs) p i k hi hk (L + 2) (L + 1) h h1 h2
   have H0 : CH p (L + 2) (L + 1) h2.length (List.replicate p.procs.length false) (h2 ++ [.buf 4 1 ((List.replicate p.procs.length false).map encB)]) := ⟨aE f3, aE f4, by rw [dF]; rfl⟩
   refine aZ hC (fun t (x : List Bool × List (List Int) × Nat) => [(6, .i p.procs.length), (7, .ref (L + 2) 0), (9, .fn (.func 152) [] [.ref (L + 2) 0]), (10, .vec h2.length 1 p.procs.length), (11, .own x.2.2 1 (x.2.1.map encIs))])
    (fun t x h' => CH p (L + 2) (L + 1) h2.length x.1 h' /\ x.1.length = p.procs.length /\ x.2.1 ++ comps p.procs.length (matM p) (p.procs.length - t) x.1 = comps p.procs.length (matM p) p.procs.length (List.replicate p.procs.length false) /\ t <= cntB x.1 /\ h'[x.2.2]? = some (.spare 61 1) /\ x.2.1.length = t) p.procs.length ?_ fun t x h3 ht ⟨a1, a2, a3, a4, a5, a6⟩ => ?_
   ·refine ⟨(_, [], h2.length + 1), _, (Wk.own_nil 61 1 11 (by simp [go_sem]) (by simp)).trans (Wk.pick (by simp) (by simp [go_sem])), H0.keep (Keep.app _ _ _), by simp, by simp, Nat.zero_le _, ?_, rfl⟩
    rw [List.append_assoc, aT]; rfl
   obtain ⟨done, out, o⟩ := x
   dsimp only at a1 a2 a3 a4 a5 a6
   simp -implicitDefEqProofs only [go_sem]
   refine aZ hC (fun j (nx : Int) => [(13, .i j), (12, .i nx), (6, .i p.procs.length), (7, .ref (L + 2) 0), (9, .fn (.func 152) [] [.ref (L + 2) 0]), (10, .vec h2.length 1 p.procs.length), (11, .own o 1 (out.map encIs))])
    (fun j nx h' => CH p (L + 2) (L + 1) h2.length done h' /\ h'[o]? = some (.spare 61 1) /\ nxOk p.procs.length (matM p) done j nx) p.procs.length ?_ fun j nx h4 hj2 ⟨b1, b2, b3⟩ => ?_
   ·exact ⟨-1, h3, Wk.pick (Nat.zero_le _) (by simp [go_sem]), a1, a5, .inl ⟨rfl, fun i hi => by omega⟩⟩
   have lD : Nat.ble p.procs.length done.length = true := Nat.ble_eq_true_of_le (by omega)
   have bD : ∀ {x : Nat}, x < p.procs.length -> bounds (x : Int) (List.take p.procs.length (List.map encB done)).length = True := fun hx => by simp [bounds]; omega
   have gD : ∀ {x : Nat}, x < p.procs.length -> (done.map encB)[x]? = some (.v (.bool (mkd done x))) := fun hx => dE (by omega)
   have w6 : IntKind.i64.wrap ((j : Int) + 1) = (j : Int) + 1 := aD _ (by omega)
   rcases b3 with ⟨rfl, b3⟩ | ⟨i, rfl, b3⟩
   ·by_cases hjn : j < p.procs.length
    ·have dj : decide ((j : Int) < (p.procs.length : Int)) = true := decide_eq_true (by omega)
     simp -implicitDefEqProofs only [go_sem, dj, decm, b1.d, lD, bD hjn, gD hjn]
     refine aZ hC (fun t (_ : Unit) => [(15, .i t), (14, .b (frT (matM p) done j t)), (13, .i j), (12, .i (-1)), (6, .i p.procs.length), (7, .ref (L + 2) 0), (9, .fn (.func 152) [] [.ref (L + 2) 0]), (10, .vec h2.length 1 p.procs.length), (11, .own o 1 (out.map encIs))])
      (fun t (_ : Unit) h' => CH p (L + 2) (L + 1) h2.length done h' /\ h'[o]? = some (.spare 61 1)) p.procs.length ?_ fun t _ h5 ht5 ⟨c1, c2⟩ => ?_
     ·exact ⟨(), h4, Wk.pick (Nat.zero_le _) (by simp [go_sem, frT]), b1, b2⟩
     have w7 : IntKind.i64.wrap ((t : Int) + 1) = (t : Int) + 1 := aD _ (by omega)
     have hfs := frT_succ (matM p) done j t
     have stop : frT (matM p) done j t = false -> nxOk p.procs.length (matM p) done (j + 1) (-1) := fun hf => .inl ⟨rfl, fun i hi => by
      by_cases e : i = j
      ·subst e; exact frT_stop hf ht5
      ·exact b3 i (by omega)⟩
     simp -implicitDefEqProofs only [go_sem]
     by_cases htn : t < p.procs.length
     ·have dt : decide ((t : Int) < (p.procs.length : Int)) = true := decide_eq_true (by omega)
      rcases hf : frT (matM p) done j t with _ | _
      ·simp -implicitDefEqProofs only [go_sem, dt, w6]
       exact ⟨hjn, -1, h5, Wk.pick (Nat.zero_le _) (by simp [go_sem]), c1, c2, stop hf⟩
      ·rw [hf, Bool.true_and, okM, toM_row hjn] at hfs
       rcases ha : mkd (rowM p j) t with _ | _
       ·rw [ha] at hfs
        simp -implicitDefEqProofs only [go_sem, dt, c1.b, c1.t, bleR, bndR _ hjn, rowsA_get hjn, encRow, bndRow htn, getRow htn, encB, ha, Bool.not_false]
        exact ⟨htn, (), h5, Wk.pick (Nat.zero_le _) (by simp [go_sem, hfs, w7]), c1, c2⟩
       ·rw [ha, Bool.not_true, Bool.false_or] at hfs
        rcases hd : mkd done t with _ | _
        ·rw [hd, Bool.false_or] at hfs
         simp -implicitDefEqProofs only [go_sem, dt, c1.b, c1.t, c1.d, lD, bD htn, gD htn, bleR, bndR _ hjn, rowsA_get hjn, encRow, bndRow htn, getRow htn, encB, ha, hd, Bool.not_true]
         refine bX hC (q152 j t hjn htn h5 c1.b c1.t) fun h6 k6 => ?_
         simp -implicitDefEqProofs only [go_sem]
         exact ⟨htn, (), h6, Wk.pick (Nat.zero_le _) (by simp [go_sem, hfs, w7]), c1.keep k6, k6.got c2⟩
        ·rw [hd] at hfs
         simp -implicitDefEqProofs only [go_sem, dt, c1.b, c1.t, c1.d, lD, bD htn, gD htn, bleR, bndR _ hjn, rowsA_get hjn, encRow, bndRow htn, getRow htn, encB, ha, hd, Bool.not_true]
         exact ⟨htn, (), h5, Wk.pick (Nat.zero_le _) (by simp [go_sem, hfs, w7]), c1, c2⟩
     ·have dt : decide ((t : Int) < (p.procs.length : Int)) = false := decide_eq_false (by omega)
      have ht' : t = p.procs.length := by omega
      rcases hf : frT (matM p) done j t with _ | _
      ·simp -implicitDefEqProofs only [go_sem, dt, w6]
       exact ⟨hjn, -1, h5, Wk.pick (Nat.zero_le _) (by simp [go_sem]), c1, c2, stop hf⟩
      ·simp -implicitDefEqProofs only [go_sem, dt, w6]
       refine ⟨hjn, (j : Int), h5, Wk.pick (Nat.zero_le _) (by simp [go_sem]), c1, c2, .inr ⟨j, rfl, nextM_hit hjn ?_ b3⟩⟩
       rw [<- frT_full, <- ht']; exact hf
    ·have dj : decide ((j : Int) < (p.procs.length : Int)) = false := decide_eq_false (by omega)
     have hnn : nextM p.procs.length (matM p) done = none := nextM_none fun i hi => b3 i (by omega)
     have hout : out = comps p.procs.length (matM p) p.procs.length (List.replicate p.procs.length false) := by
      rw [<- a3]
      rcases hk : p.procs.length - t with _ | r
      ·simp [comps]
      ·simp [comps, hnn]
     simp -implicitDefEqProofs only [go_sem, dj, decm]
     rw [hout]
     exact aF (wkr_pair (by simp [wkr]) rfl) (by simp [go_sem])
   ·have hin := (nextM_some b3).1
    rcases hB : decide ((j : Int) < (p.procs.length : Int)) with _ | _
    all_goals
     simp -implicitDefEqProofs only [go_sem, hB, decn]
     refine aZ hC (fun k (y : List Bool × Nat) => [(95, .i k), (94, .i p.procs.length), (16, .own y.2 1 ((compT (matM p) i k).map encI)), (12, .i i), (6, .i p.procs.length), (7, .ref (L + 2) 0), (9, .fn (.func 152) [] [.ref (L + 2) 0]), (10, .vec h2.length 1 p.procs.length), (11, .own o 1 (out.map encIs))])
      (fun k y h' => CH p (L + 2) (L + 1) h2.length y.1 h' /\ y.1.length = p.procs.length /\ (∀ x, mkd y.1 x = (mkd done x || (decide (x < k) && oneM (matM p) i x))) /\ h'[y.2]? = some (.spare 3 1) /\ h'[o]? = some (.spare 61 1)) p.procs.length ?_ fun k y h5 hk5 ⟨c1, c2, c3, c4, c5⟩ => ?_
     ·refine ⟨(done, h4.length), _, (Wk.own_nil 3 1 16 (by simp [go_sem]) (Nat.zero_le _)).trans (Wk.pick (Nat.zero_le _) (by simp [go_sem, compT])), b1.keep (Keep.app _ _ _), a2, fun x => by simp, by rw [dF]; rfl, aE b2⟩
     obtain ⟨dn, b⟩ := y
     dsimp only at c1 c2 c3 c4 c5
     have w8 : IntKind.i64.wrap ((k : Int) + 1) = (k : Int) + 1 := aD _ (by omega)
     have hcs := compT_succ (matM p) i k
     have hcl := compT_len (matM p) i k
     simp -implicitDefEqProofs only [go_sem]
     by_cases hkn : k < p.procs.length
     ·have dk : decide ((k : Int) < (p.procs.length : Int)) = true := decide_eq_true (by omega)
      simp -implicitDefEqProofs only [go_sem, dk]
      refine bX hC (q152 i k hin hkn h5 c1.b c1.t) fun h6 k6 => ?_
      have C6 := c1.keep k6
      have s6 := k6.got c4
      have o6 := k6.got c5
      have q1 := C6.d
      rcases ho : oneM (matM p) i k with _ | _
      ·rw [ho, if_neg (by simp)] at hcs
       simp -implicitDefEqProofs only [go_sem, w8]
       refine ⟨hkn, (dn, b), h6, Wk.pick (Nat.zero_le _) (by simp [go_sem, hcs]), C6, c2, fun x => ?_, s6, o6⟩
       rw [c3]
       by_cases hx : x = k
       ·subst hx; simp [ho]
       ·have : decide (x < k) = decide (x < k + 1) := by simp only [decide_eq_decide]; omega
        rw [this]
      ·rw [ho, if_pos rfl] at hcs
       have s6_g := fun l => aE (l := l) s6
       have s6_s := fun o l => aO (l := l) s6 o
       have s6_e := fun o l => aP (o := o) (l := l) s6
       have s6_h := fun o => aJ (o := o) s6
       have q1_g := fun l => aE (l := l) q1
       have q1_s := fun o l => aO (l := l) q1 o
       have q1_e := fun o l => aP (o := o) (l := l) q1
       have q1_h := fun o => aJ (o := o) q1
       have q1_s6b := fun o l => get_beside (o := o) (l := l) q1 s6 (by simp)
       have q1_s6s := fun o l x => set_beside (o := o) (l := l) (x' := x) q1 s6 (by simp)
       have q1_s6g := fun o l x => get_beside2 (o := o) (l := l) (x' := x) q1 s6 (by simp)
       have q1_s6k := fun o l x => get_beside3 (o := o) (l := l) (x' := x) q1 s6 (by simp)
       have hkl : k < dn.length := by omega
       have lN : Nat.ble p.procs.length dn.length = true := Nat.ble_eq_true_of_le (by omega)
       have bN : bounds (k : Int) (List.take p.procs.length (List.map encB dn)).length = True := by simp [bounds]; omega
       simp -implicitDefEqProofs only [go_sem, w8, blt01, List.append_assoc, s6_g, s6_s, q1_s6b, q1_s6s, lN, bN, dE hkl, set_encB]
       have G : ∀ {x : Nat} {y : AObj}, h6[x]? = some y -> x ≠ b -> x ≠ h2.length -> ∀ y1 y2 l, (((h6.set b y1).set h2.length y2) ++ l)[x]? = some y := fun hx n1 n2 y1 y2 l => aE (by rw [aR (Ne.symm n2), aR (Ne.symm n1)]; exact hx)
       refine ⟨by omega, hkn, (dn.set k true, h6.length + 1), _, Wk.pick (Nat.zero_le _) (by simp [go_sem, hcs, encI]), ⟨G C6.b (cJ C6.b s6 (by simp)) (cJ C6.b q1 (by simp)) _ _ _, G C6.t (cJ C6.t s6 (by simp)) (cJ C6.t q1 (by simp)) _ _ _, q1_s6g _ _ _⟩, by simpa using c2, fun x => ?_, ?_, G o6 (cJ o6 s6 (by simp)) (cJ o6 q1 (by simp)) _ _ _⟩
       ·dsimp only
        rw [mkd_set hkl, c3]
        by_cases hx : x = k
        ·subst hx; simp [ho]
        ·have : decide (x < k) = decide (x < k + 1) := by simp only [decide_eq_decide]; omega
         rw [this]; simp [hx]
       ·rw [List.getElem?_append_right (by simp)]; simp
     ·have dk : decide ((k : Int) < (p.procs.length : Int)) = false := decide_eq_false (by omega)
      have hk' : k = p.procs.length := by omega
      subst hk'
      have hdn : dn = markM p.procs.length (matM p) done i := mkd_ext (by rw [c2, markM_len]) fun x => by
       by_cases hx : x < p.procs.length
       ·rw [c3, mkd_markM hx, decide_eq_true hx, Bool.true_and]
       ·have z : ∀ l : List Bool, l.length = p.procs.length -> mkd l x = false := fun l hl => by
         rcases h : mkd l x with _ | _
         ·rfl
         ·have := mkd_lt h; omega
        rw [z _ c2, z _ (markM_len _ _ _ _)]
      have hcnt := markM_cnt a2 b3
      have hcn := cntB_le (markM p.procs.length (matM p) done i)
      rw [markM_len] at hcn
      have c5_g := fun l => aE (l := l) c5
      have c5_s := fun o l => aO (l := l) c5 o
      have c5_e := fun o l => aP (o := o) (l := l) c5
      have c5_h := fun o => aJ (o := o) c5
      have hcomp : compT (matM p) i p.procs.length = compM p.procs.length (matM p) i := rfl
      obtain ⟨r, hr⟩ : ∃ r, p.procs.length - t = r + 1 := ⟨p.procs.length - t - 1, by omega⟩
      have hr' : p.procs.length - (t + 1) = r := by omega
      simp -implicitDefEqProofs only [go_sem, dk, blt01, List.append_assoc, c5_g, c5_s]
      refine ⟨by simp; omega, by omega, (dn, out ++ [compT (matM p) i p.procs.length], h5.length + 1), _, Wk.pickW (Nat.zero_le _) ⟨Wd.rfl _, Wd.rfl _, Wd.rfl _, Wd.rfl _, Wd.own (by rw [List.map_append]; exact Wds.app (Wds.rfl _) ⟨Wd.fz (Wds.rfl _), trivial⟩), trivial⟩, ⟨?_, ?_, ?_⟩, c2, ?_, ?_, ?_, ?_⟩
      ·exact aE (by rw [aR (cJ c5 c1.b (by simp))]; exact c1.b)
      ·exact aE (by rw [aR (cJ c5 c1.t (by simp))]; exact c1.t)
      ·exact aE (by rw [aR (cJ c5 c1.d (by simp))]; exact c1.d)
      ·rw [<- a3, hr, hr', hcomp, hdn]
       simp [comps, b3]
      ·rw [hdn]; exact Nat.le_trans (Nat.succ_le_succ a4) hcnt
      ·rw [List.getElem?_append_right (by simp)]; simp
      ·simp [a6]
 ·have e0 : okE false = 5 := rfl
  have hR : compsR p = [] := by simp [compsR, hy]
  rw [hR]
  simp -implicitDefEqProofs only [go_sem, hy, e0, bne50]
  refine aF (wkr_pair (by simp [wkr]) rfl) (by simp [go_sem])
end Go.Rip
namespace Go.Rip
open Go Go.Proofs
set_option maxRecDepth 100000
theorem cntB_countP : ∀ l : List Bool, cntB l = (List.range l.length).countP (mkd l) := fun l => by
 have h : l = (List.range l.length).map (mkd l) := by
  apply List.ext_getElem (by simp)
  intro i h1 h2
  rw [List.getElem_map, List.getElem_range, dG h1]
 conv => lhs; rw [h]
 rw [cntB, List.count, List.countP_map]
 congr 1
 funext x
 simp [Function.comp]
theorem countP_disj {α : Type} {f g : α -> Bool} : ∀ {l : List α}, (∀ x ∈ l, f x = true -> g x = false) -> l.countP (fun x => f x || g x) = l.countP f + l.countP g
 | [], _ => rfl
 | x :: r, h => by
  have ih := countP_disj (l := r) fun y hy => h y (by simp [hy])
  have hx := h x (by simp)
  simp only [List.countP_cons, ih]
  rcases hf : f x with _ | _ <;> rcases hg : g x with _ | _
  ·simp
  ·simp; omega
  ·simp; omega
  ·rw [hx hf] at hg; cases hg
theorem cntB_all {l : List Bool} (h : l.length <= cntB l) {k : Nat} (hk : k < l.length) : mkd l k = true := by
 have h1 := cntB_le l
 have := List.count_eq_length.1 (show l.count true = l.length by rw [cntB] at h h1; omega)
 rw [dG hk, <- this _ (List.getElem_mem hk)]
section
variable {n : Nat} {M : List (List Bool)}
def DoneC (M : List (List Bool)) (done : List Bool) : Prop := ∀ i k, mkd done i = true -> toM M i k = true -> mkd done k = true
theorem one_sym {i k : Nat} : oneM M i k = oneM M k i := by
 rw [oneM, oneM, Bool.and_comm]
 congr 1
 rw [Bool.eq_iff_iff, beq_iff_eq, beq_iff_eq]; exact eq_comm
theorem one_to {i k : Nat} (h : oneM M i k = true) : i = k ∨ (toM M i k = true /\ toM M k i = true) := by
 simpa [oneM] using h
theorem one_of {i k : Nat} (h : i = k ∨ (toM M i k = true /\ toM M k i = true)) : oneM M i k = true := by
 simpa [oneM] using h
theorem one_tr (hT : TrM n M) {i k x : Nat} (hi : i < n) (hk : k < n) (hx : x < n) (h1 : oneM M i k = true) (h2 : oneM M k x = true) : oneM M i x = true := by
 rcases one_to h1 with rfl | ⟨a1, a2⟩
 ·exact h2
 ·rcases one_to h2 with rfl | ⟨b1, b2⟩
  ·exact h1
  ·exact one_of (.inr ⟨hT i k x hi hk a1 b1, hT x k i hx hk b2 a2⟩)
theorem mem_compM {i k : Nat} : (k : Int) ∈ compM n M i ↔ k < n /\ oneM M i k = true := by
 simp only [compM, List.mem_map, List.mem_filter, List.mem_range]
 constructor
 ·rintro ⟨x, h, e⟩
  obtain rfl : x = k := by omega
  exact h
 ·intro h; exact ⟨k, h, rfl⟩
structure CompsOk (n : Nat) (M : List (List Bool)) (done : List Bool) (L : List (List Int)) : Prop where
 m : ∀ k, k < n -> mkd done k = false -> ∃ a, a < L.length /\ (k : Int) ∈ L.getD a []
 o : ∀ a k, ((k : Nat) : Int) ∈ L.getD a [] -> k < n /\ mkd done k = false
 e : ∀ a b i k, ((i : Nat) : Int) ∈ L.getD a [] -> ((k : Nat) : Int) ∈ L.getD b [] -> (a = b ↔ oneM M i k = true) /\ (toM M i k = true -> b <= a)
 s : (L.map List.length).sum + cntB done = n
 z : ∀ a x, x ∈ L.getD a [] -> ∃ k : Nat, x = k
theorem CompsOk.nil {done : List Bool} (hl : done.length = n) (h : n <= cntB done) : CompsOk n M done [] := by
 have := cntB_le done
 refine ⟨fun k hk hd => ?_, fun a k h => by simp at h, fun a b i k h => by simp at h, by simp; omega, fun a x h => by simp at h⟩
 rw [cntB_all (by omega) (by omega)] at hd; cases hd
theorem comps_ok (hT : TrM n M) (hD : ∀ i k, toM M i k = true -> i < n /\ k < n) : ∀ (f : Nat) (done : List Bool), done.length = n -> DoneC M done -> n <= cntB done + f -> CompsOk n M done (comps n M f done)
 | 0, done, hl, _, h => CompsOk.nil hl h
 | f + 1, done, hl, hc, h => by
  rw [comps]
  rcases hn : nextM n M done with _ | i
  ·dsimp only
   refine CompsOk.nil hl ?_
   refine Nat.le_of_not_lt fun hlt => ?_
   obtain ⟨i, hi⟩ := nextM_ex hT hl hlt
   rw [hn] at hi; cases hi
  ·dsimp only
   obtain ⟨hi, hf, -⟩ := nextM_some hn
   have hcnt := markM_cnt hl hn
   simp only [freeM, Bool.and_eq_true, Bool.not_eq_true', List.all_eq_true, List.mem_range] at hf
   obtain ⟨hf1, hf2⟩ := hf
   have hmk : ∀ k, k < n -> mkd (markM n M done i) k = (mkd done k || oneM M i k) := fun k hk => mkd_markM hk
   have hto : ∀ k x, k < n -> x < n -> oneM M i k = true -> toM M k x = true -> toM M i x = true := fun k x hk hx h1 h2 => by
    rcases one_to h1 with rfl | ⟨a, _⟩
    ·exact h2
    ·exact hT i k x hi hk a h2
   have hfr : ∀ x, x < n -> toM M i x = true -> mkd (markM n M done i) x = true := fun x hx hix => by
    have := hf2 x hx
    rw [okM, hix] at this
    rw [hmk x hx]
    simpa using this
   have hc2 : DoneC M (markM n M done i) := fun k x hk hkx => by
    obtain ⟨hkn, hxn⟩ := hD k x hkx
    rw [hmk k hkn, Bool.or_eq_true] at hk
    rcases hk with hk | hk
    ·rw [hmk x hxn, hc k x hk hkx]; rfl
    ·exact hfr x hxn (hto k x hkn hxn hk hkx)
   have ih := comps_ok hT hD f (markM n M done i) (markM_len _ _ _ _) hc2 (by omega)
   generalize hL : comps n M f (markM n M done i) = L at ih ⊢
   have hnd : ∀ k, k < n -> oneM M i k = true -> mkd done k = false := fun k hk ho => by
    rcases hd : mkd done k with _ | _
    ·rfl
    ·rcases one_to ho with rfl | ⟨_, a2⟩
     ·rw [hf1] at hd; cases hd
     ·have := hc k i hd a2
      rw [hf1] at this; cases this
   have g0 : ∀ c : List Int, (c :: L).getD 0 [] = c := fun _ => rfl
   have gs : ∀ (c : List Int) a, (c :: L).getD (a + 1) [] = L.getD a [] := fun _ _ => rfl
   have un : ∀ k, k < n -> mkd (markM n M done i) k = false -> oneM M i k = false /\ mkd done k = false := fun k hk h => by
    rw [hmk k hk, Bool.or_eq_false_iff] at h
    exact ⟨h.2, h.1⟩
   refine ⟨fun k hk hd => ?_, fun a k ha => ?_, fun a b x y ha hb => ?_, ?_, fun a x hx => ?_⟩
   ·rcases ho : oneM M i k with _ | _
    ·obtain ⟨a, h1, h2⟩ := ih.m k hk (by rw [hmk k hk, hd, ho]; rfl)
     exact ⟨a + 1, by simpa using h1, by rw [gs]; exact h2⟩
    ·exact ⟨0, by simp, by rw [g0]; exact mem_compM.2 ⟨hk, ho⟩⟩
   ·rcases a with _ | a
    ·rw [g0, mem_compM] at ha
     exact ⟨ha.1, hnd k ha.1 ha.2⟩
    ·rw [gs] at ha
     obtain ⟨h1, h2⟩ := ih.o a k ha
     exact ⟨h1, (un k h1 h2).2⟩
   ·rcases a with _ | a <;> rcases b with _ | b
    ·rw [g0, mem_compM] at ha hb
     refine ⟨⟨fun _ => one_tr hT ha.1 hi hb.1 (by rw [one_sym]; exact ha.2) hb.2, fun _ => rfl⟩, fun _ => Nat.le_refl _⟩
    ·rw [g0, mem_compM] at ha
     rw [gs] at hb
     obtain ⟨h1, h2⟩ := ih.o b y hb
     obtain ⟨h3, h4⟩ := un y h1 h2
     refine ⟨⟨fun e => by omega, fun ho => ?_⟩, fun ht => ?_⟩
     ·rw [one_tr hT hi ha.1 h1 ha.2 ho] at h3; cases h3
     ·rw [hfr y h1 (hto x y ha.1 h1 ha.2 ht)] at h2; cases h2
    ·rw [g0, mem_compM] at hb
     rw [gs] at ha
     obtain ⟨h1, h2⟩ := ih.o a x ha
     obtain ⟨h3, h4⟩ := un x h1 h2
     refine ⟨⟨fun e => by omega, fun ho => ?_⟩, fun _ => Nat.zero_le _⟩
     rw [one_tr hT hi hb.1 h1 hb.2 (by rw [one_sym]; exact ho)] at h3; cases h3
    ·rw [gs] at ha hb
     obtain ⟨h1, h2⟩ := ih.e a b x y ha hb
     exact ⟨by rw [<- h1]; omega, fun ht => by have := h2 ht; omega⟩
   ·have hs := ih.s
    have e1 : cntB (markM n M done i) = cntB done + (compM n M i).length := by
     rw [cntB_countP, markM_len, cntB_countP done, hl, compM, List.length_map, <- List.countP_eq_length_filter, <- countP_disj fun x hx h => by
      rcases ho : oneM M i x with _ | _
      ·rfl
      ·rw [hnd x (List.mem_range.1 hx) ho] at h; cases h]
     apply List.countP_congr
     intro x hx
     rw [hmk x (List.mem_range.1 hx)]
    rw [e1] at hs
    simp only [List.map_cons, List.sum_cons]
    omega
   ·rcases a with _ | a
    ·rw [g0, compM] at hx
     obtain ⟨k, _, e⟩ := List.mem_map.1 hx
     exact ⟨k, e.symm⟩
    ·rw [gs] at hx; exact ih.z a x hx
end
def putC (of : List Int) (c : List Int) (a : Int) : List Int := c.foldl (fun l k => l.set k.toNat a) of
theorem putC_snoc (of c : List Int) (x a : Int) : putC of (c ++ [x]) a = (putC of c a).set x.toNat a := by rw [putC, List.foldl_append]; rfl
theorem putC_len (c : List Int) (a : Int) : ∀ of : List Int, (putC of c a).length = of.length := by
 induction c with
 | nil => intro of; rfl
 | cons x r ih => intro of; rw [putC, List.foldl_cons]; have := ih (of.set x.toNat a); rw [putC] at this; rw [this, List.length_set]
theorem putC_get (a : Int) (k : Nat) : ∀ (c of : List Int), (∀ x ∈ c, ∃ m : Nat, x = m) -> k < of.length -> (putC of c a).getD k 0 = if (k : Int) ∈ c then a else of.getD k 0 := by
 intro c
 induction c with
 | nil => intro of _ _; simp [putC]
 | cons x r ih =>
  intro of hc hk
  have e : putC of (x :: r) a = putC (of.set x.toNat a) r a := rfl
  rw [e, ih _ (fun y hy => hc y (by simp [hy])) (by simpa using hk)]
  obtain ⟨m, rfl⟩ := hc x (by simp)
  by_cases h1 : (k : Int) ∈ r
  ·rw [if_pos h1, if_pos (by simp [h1])]
  ·rw [if_neg h1]
   by_cases h2 : k = m
   ·subst h2; rw [if_pos (by simp)]; simp [List.getD, hk]
   ·rw [if_neg (by simp [h1]; omega)]
    simp only [List.getD]
    rw [List.getElem?_set_ne (by simp; omega)]
def ofC (n : Nat) (L : List (List Int)) : Nat -> List Int
 | 0 => List.replicate n 0
 | a + 1 => putC (ofC n L a) (L.getD a []) a
theorem ofC_len (n : Nat) (L : List (List Int)) : ∀ a, (ofC n L a).length = n
 | 0 => by simp [ofC]
 | a + 1 => by rw [ofC, putC_len, ofC_len n L a]
def manyC (L : List (List Int)) : Nat -> Nat
 | 0 => 0
 | a + 1 => manyC L a + (L.getD a []).length
theorem manyC_sum (L : List (List Int)) : manyC L L.length = (L.map List.length).sum := by
 have : ∀ a, a <= L.length -> manyC L a = ((L.take a).map List.length).sum := by
  intro a
  induction a with
  | zero => intro _; simp [manyC]
  | succ a ih =>
   intro h
   have hx : L.getD a [] = L[a] := by simp [List.getD, show a < L.length by omega]
   rw [manyC, ih (by omega), bB (show a < L.length by omega), List.map_append, List.sum_append, hx]
   simp only [List.map_cons, List.map_nil, List.sum_cons, List.sum_nil, Nat.add_zero]
 rw [this _ (Nat.le_refl _), List.take_length]
theorem manyC_le (L : List (List Int)) : ∀ a, a <= L.length -> manyC L a <= manyC L L.length := by
 have : ∀ d a, manyC L a <= manyC L (a + d) := by
  intro d
  induction d with
  | zero => intro a; exact Nat.le_refl _
  | succ d ih => intro a; have := ih a; rw [<- Nat.add_assoc, manyC]; omega
 intro a h
 have := this (L.length - a) a
 rwa [show a + (L.length - a) = L.length by omega] at this
section
variable {n : Nat} {M : List (List Bool)} {L : List (List Int)}
theorem ofC_get (H : CompsOk n M (List.replicate n false) L) {k : Nat} (hk : k < n) {b : Nat} (hb : (k : Int) ∈ L.getD b []) : ∀ a, a <= L.length -> b < a -> (ofC n L a).getD k 0 = b
 | a + 1, ha, hba => by
  rw [ofC, putC_get _ _ _ _ (fun x hx => H.z a x hx) (by rw [ofC_len]; exact hk)]
  by_cases h : (k : Int) ∈ L.getD a []
  ·rw [if_pos h]
   have := (H.e a b k k h hb).1.2 (one_of (.inl rfl))
   rw [this]
  ·rw [if_neg h]
   refine ofC_get H hk hb a (by omega) ?_
   by_cases e : b = a
   ·subst e; exact absurd hb h
   ·omega
theorem comps_law (H : CompsOk n M (List.replicate n false) L) : manyC L L.length = n /\ ∀ i k, i < n -> k < n -> ((ofC n L L.length).getD i 0 = (ofC n L L.length).getD k 0 ↔ oneM M i k = true) /\ (toM M i k = true -> (ofC n L L.length).getD k 0 <= (ofC n L L.length).getD i 0) := by
 refine ⟨?_, fun i k hi hk => ?_⟩
 ·rw [manyC_sum]
  have := H.s
  have h0 : cntB (List.replicate n false) = 0 := by simp [cntB, List.count_replicate]
  omega
 ·obtain ⟨a, ha, hia⟩ := H.m i hi (mkd_rep _ _)
  obtain ⟨b, hb, hkb⟩ := H.m k hk (mkd_rep _ _)
  rw [ofC_get H hi hia _ (Nat.le_refl _) ha, ofC_get H hk hkb _ (Nat.le_refl _) hb]
  obtain ⟨h1, h2⟩ := H.e a b i k hia hkb
  exact ⟨by rw [<- h1]; omega, fun ht => by have := h2 ht; omega⟩
end
theorem matM_out {p : Pg} {i k : Nat} (h : toM (matM p) i k = true) : i < p.procs.length /\ k < p.procs.length := by
 have hi : i < p.procs.length := by
  rcases Nat.lt_or_ge i p.procs.length with g | g
  ·exact g
  ·rw [toM, List.getD, List.getElem?_eq_none (by simpa [matM] using g)] at h
   simp [mkd] at h
 rw [toM_row hi] at h
 exact ⟨hi, by have := mkd_lt h; rwa [rowM_len] at this⟩
theorem compsR_ok {p : Pg} (hok : p.ok = true) : CompsOk p.procs.length (matM p) (List.replicate p.procs.length false) (compsR p) := by
 rw [compsR, if_pos hok]
 exact comps_ok (matM_tr p) (fun i k h => matM_out h) _ _ (by simp) (fun i k hi => by rw [mkd_rep] at hi; cases hi) (by omega)
end Go.Rip
namespace Go.Rip
open Go Go.Proofs
set_option maxRecDepth 100000
variable {GL : Glob}
attribute [local irreducible] Pure
structure RH (p : Pg) (ks : List Nat) (j : Nat) (h : List AObj) : Prop where
 n : ks.length = j
 r : ∀ i, i < j -> h[ks.getD i 0]? = some (.buf 4 1 ((rowM p i).map encB))
theorem RH.keep {p : Pg} {ks : List Nat} {j : Nat} {h h' : List AObj} {K : Nat -> AObj -> Prop} (H : RH p ks j h) (k : Keep K h h') (hn : ∀ i, i < j -> ∀ o, ¬ K (ks.getD i 0) o) : RH p ks j h' :=
 ⟨H.n, fun i hi => k.get (H.r i hi) (hn i hi _)⟩
theorem RH.all {p : Pg} {ks : List Nat} {j : Nat} {h h' : List AObj} (H : RH p ks j h) (k : Keep All h h') : RH p ks j h' := H.keep k fun _ _ _ h => h
theorem RH.lt {p : Pg} {ks : List Nat} {j : Nat} {h : List AObj} (H : RH p ks j h) {i : Nat} (hi : i < j) : ks.getD i 0 < h.length := aV (H.r i hi)
end Go.Rip
