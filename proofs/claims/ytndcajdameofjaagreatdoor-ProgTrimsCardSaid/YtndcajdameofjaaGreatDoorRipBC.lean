/- Procedures that goals call: their numbers, each once. -/
import Derived.Test.YtndcajdameofjaaGreatDoorRipAT
import Derived.Test.YtndcajdameofjaaGreatDoorRipBA
import Derived.Test.YtndcajdameofjaaGreatDoorRipBB
namespace Go.Rip
open Go Go.Proofs
set_option maxRecDepth 100000
variable {GL : Glob}
attribute [local irreducible] Pure
theorem call_wk {f : FuncId} {args args' : List AV} {h : List AObj} {R : ARes -> List AObj -> Prop} (hw : wkrs args args') (hc : PC GL (.fn f) args' h R) : PC GL (.fn f) args h R :=
 fun E A G w vs hW ha => hc E A G w vs hW (Reps.wk _ _ _ hw ha)
theorem h227n : Pure (PC GLs) 227 [.v (.slice none 0 0)] (.tup []) := bL bM mo0 (n := 3000) (by kernel_rfl) (by kernel_rfl)
theorem h228n : Pure (PC GLs) 228 [.v (.slice none 0 0)] (.v (.slice none 0 0)) := bL bM mo0 (n := 3000) (by kernel_rfl) (by kernel_rfl)
def calB (p : Pg) (l : List Tm) : List Bool := (List.range p.procs.length).map fun k : Nat => (calledS l).any fun s => findS s p.syms == (k : Int)
def calI (p : Pg) (l : List Tm) : List Int := (calledS l).map fun s => findS s p.syms
theorem calI_len (p : Pg) (l : List Tm) : (calI p l).length = (calledS l).length := by simp [calI]
theorem cR (p : Pg) (l : List Tm) : (calB p l).length = p.procs.length := by simp [calB]
theorem mkd_calB {p : Pg} {l : List Tm} {i : Nat} (hi : i < p.procs.length) : mkd (calB p l) i = (calledS l).any fun s => findS s p.syms == (i : Int) := by
 rw [mkd_get (by rw [cR]; exact hi)]
 simp [calB]
theorem findS_mem {s : Sym} {l : List Sym} (h : s ∈ l) : ∃ i : Nat, i < l.length /\ findS s l = i := by
 obtain ⟨i, h1, h2⟩ := idxS_some h
 exact ⟨i, h2, by rw [findS, h1]⟩
theorem called_syms {p : Pg} {l : List Tm} (hc : okCalls p.syms [] l = true) : ∀ s ∈ calledS l, s ∈ p.syms := by
 rw [okCalls_nil, Bool.not_eq_true', List.any_eq_false] at hc
 intro s hs
 have := hc s hs
 simpa using this
theorem mem_calI {p : Pg} {l : List Tm} (hc : okCalls p.syms [] l = true) (x : Int) : x ∈ calI p l ↔ ∃ i : Nat, mkd (calB p l) i = true /\ x = i := by
 have hs := called_syms hc
 constructor
 ·intro hx
  obtain ⟨s, h1, rfl⟩ := List.mem_map.1 hx
  obtain ⟨i, hi, e⟩ := findS_mem (hs s h1)
  have hi' : i < p.procs.length := by simpa [Pg.syms] using hi
  exact ⟨i, by rw [mkd_calB hi']; exact List.any_eq_true.2 ⟨s, h1, by simpa using e⟩, e⟩
 ·rintro ⟨i, h1, rfl⟩
  have hi : i < p.procs.length := by have := mkd_lt h1; rwa [cR] at this
  rw [mkd_calB hi, List.any_eq_true] at h1
  obtain ⟨s, h2, h3⟩ := h1
  exact List.mem_map.2 ⟨s, h2, by simpa using h3⟩
theorem ixs_calB {p : Pg} {l : List Tm} (hc : okCalls p.syms [] l = true) {l' : List Int} (hp : (calI p l).Perm l') (hs : Srt 0 (calI p l).length l') : ded l' l'.length = ixs (calB p l) := by
 refine ixs_of (ded_incr (by rw [<- hp.length_eq]; exact hs) _ (Nat.le_refl _)) fun x => ?_
 rw [mem_ded, <- mem_calI hc, hp.mem_iff]
 constructor
 ·rintro ⟨i, hi, rfl⟩
  simp [List.getD, hi]
 ·intro hx
  obtain ⟨i, hi, e⟩ := List.mem_iff_getElem.1 hx
  exact ⟨i, hi, by simp [List.getD, hi, e]⟩
def outA (k : Nat) (l : List Int) : AV := if l = [] then .v (.slice none 0 0) else .vec k 1 l.length
theorem outA_nil (k : Nat) : outA k [] = .v (.slice none 0 0) := rfl
theorem outA_cons {k : Nat} {l : List Int} (h : l ≠ []) : outA k l = .vec k 1 l.length := if_neg h
theorem wkr_nilI : wkr (.v (.slice none 0 0)) (.sl 1 (([] : List Int).map encI)) := by simp [wkr]
theorem wkr_ownI (b : Nat) (l : List AV) : wkr (.own b 1 l) (.sl 1 l) := by simp [wkr]
theorem h154 (p : Pg) (goals : List Tm) (hg : goals.length < 2 ^ 24) (hc : okCalls p.syms [] goals = true) (km : Nat) (h : List AObj) (hk : h[km]? = some (tabO p.syms)) :
  Adds (PC GLs) 154 [.agg [.sl 3 (p.procs.map encPr), .mp km, .v (.map none)], .sl 4 (goals.map enc)] h (.sl 1 ((ixs (calB p goals)).map encI)) := by
 have q226 := h226 (GL := GLs) goals (by omega)
 have q142 := fun s h' (hk' : h'[km]? = some (tabO p.syms)) => h142 (GL := GLs) p.syms s km h' hk'
 have hcl := calledS_len goals
 have hfl := calI_len p goals
 simp only [tabV] at q142
 refine k154.gives (by simp) ?_
 simp -implicitDefEqProofs only [go_sem, c154, r154]
 refine aC hC q226 ?_
 simp -implicitDefEqProofs only [go_sem]
 refine aZ hC (fun j (x : List Int × Nat) => [(13, .i j), (11, .sl 2 ((calledS goals).map encSym)), (12, .i (calledS goals).length), (2, .ref h.length 0), (5, outA x.2 x.1)])
  (fun j x h' => x.1 = (calI p goals).take j /\ Keep All h h' /\ h'[h.length]? = some (.cells 153 [.sl 3 (p.procs.map encPr), .mp km, .v (.map none)]) /\ (x.1 = [] ∨ h'[x.2]? = some (.buf 3 1 (x.1.map encI)) /\ h.length <= x.2)) (calledS goals).length ?_ fun j x h2 hj ⟨g1, g2, g3, g4⟩ => ?_
 ·exact ⟨([], 0), _, Wk.pick (by simp) (by simp [go_sem, outA]), rfl, Keep.app _ _ _, by rw [get_at]; rfl, .inl rfl⟩
 obtain ⟨l, b⟩ := x
 dsimp only at g1 g4
 have g3_g := fun l => aE (l := l) g3
 have g3_s := fun o l => aO (l := l) g3 o
 have g3_e := fun o l => aP (o := o) (l := l) g3
 have g3_h := fun o => aJ (o := o) g3
 simp -implicitDefEqProofs only [go_sem]
 refine aG (fun hlt => ?_) (fun hlt => ?_)
 ·have hlt := aI hlt
  have hlt' : j < (calI p goals).length := by omega
  have w5 : IntKind.i64.wrap ((j : Int) + 1) = (j : Int) + 1 := aD _ (by omega)
  have hx : (calI p goals)[j] = findS (calledS goals)[j] p.syms := by simp [calI]
  have hs : (calI p goals).take (j + 1) = l ++ [findS (calledS goals)[j] p.syms] := by rw [bB hlt', hx, g1]
  have hll : l.length <= j := by rw [g1]; simp; omega
  have q := fun h' hk' => q142 (calledS goals)[j] h' hk'
  simp only [encSym] at q
  simp -implicitDefEqProofs only [go_sem, hlt, aS, encSym, g3_g]
  refine bX hC (q _ ((g2.trans (Keep.app _ _ _)).got hk)) fun h3 k3 => ?_
  have k4 : Keep All h h3 := g2.trans k3.left
  have g5 := k3.left.got g3
  by_cases hn : l = []
  ·subst hn
   simp -implicitDefEqProofs only [go_sem, outA_nil, blt01, w5, List.append_assoc]
   refine ⟨by simp, ([findS (calledS goals)[j] p.syms], h3.length + 1), _, Wk.pick (by simp; have := k4.1; omega) (by simp [go_sem, outA]), by rw [hs]; rfl, k4.trans (Keep.app _ _ _), aE g5, .inr ⟨?_, by have := k4.1; dsimp only; omega⟩⟩
   rw [aT]; rfl
  ·have g6 := k3.left.got (g4.resolve_left hn).1
   have hb := (g4.resolve_left hn).2
   have k5 := ((k4.trans (Keep.app All h3 [.spare 3 1])).turn .dead (aE g6) hb).trans (Keep.app All _ [.buf 3 1 (l.map encI ++ [.v (.int .i64 (findS (calledS goals)[j] p.syms))])])
   simp -implicitDefEqProofs only [go_sem, outA_cons hn, aE g6, blt01, w5]
   refine ⟨by simp; omega, (l ++ [findS (calledS goals)[j] p.syms], h3.length + 1), _, Wk.pick k5.1 (by simp [go_sem, outA]), hs.symm, k5, ?_, .inr ⟨?_, by have := k4.1; dsimp only; omega⟩⟩
   ·have := (k3.left.trans (Keep.app All h3 [.spare 3 1])).got g3
    rw [aE]
    rw [aR (by rintro rfl; rw [g5] at g6; cases g6)]
    exact this
   ·rw [List.getElem?_append_right (by simp)]
    simp [encI]
 ·have hge := aL hlt
  have hl : l = calI p goals := by rw [g1, List.take_of_length_le (by omega)]
  subst hl
  simp -implicitDefEqProofs only [go_sem, hlt]
  by_cases hn : calI p goals = []
  ·rw [hn]
   simp -implicitDefEqProofs only [go_sem, outA_nil]
   refine aC hC h227n ?_
   simp -implicitDefEqProofs only [go_sem]
   refine aC hC h228n ?_
   simp -implicitDefEqProofs only [go_sem]
   have e : ixs (calB p goals) = [] := by
    have := ixs_calB hc (List.Perm.refl _) (fun p q _ _ h => by rw [hn] at h; simp at h)
    rw [<- this, hn]; rfl
   exact fin_givesw g2.1 wkr_nilI ⟨by rw [e], g2⟩
  ·obtain ⟨g5, g6⟩ := g4.resolve_left hn
   have hl24 : (calI p goals).length < 2 ^ 24 := by omega
   have hpos : 0 < (calI p goals).length := List.length_pos_iff.2 hn
   simp -implicitDefEqProofs only [go_sem, outA_cons hn]
   refine aN hC (h227 _ hpos hl24 b _ g5) fun _ h3 ⟨l', s1, s2, s3, s4⟩ => ?_
   have hle := s1.length_eq
   simp -implicitDefEqProofs only [go_sem, hle]
   refine aN hC (h228d l' (by omega) b _ s3) fun x h4 hx => ?_
   have e := ixs_calB hc s1 s2
   have k5 : Keep All h h3 := g2.trans' s4 fun i o hi e => by have := aV hi; omega
   rcases hx with ⟨rfl, rfl, e2⟩ | ⟨c, rfl, k6⟩
   ·simp -implicitDefEqProofs only [go_sem]
    refine fin_freeze s3 k5.1 (by simp) ⟨?_, k5.freeze _ _ g6⟩
    rw [List.take_of_length_le (by simp), <- e, e2]
   ·simp -implicitDefEqProofs only [go_sem]
    refine fin_givesw ?_ (wkr_ownI _ _) ⟨by rw [e], ?_⟩
    ·exact (k5.trans' k6 fun i o hi e => by have := aV hi; omega).1
    ·exact k5.trans' k6 fun i o hi e => by have := aV hi; omega
def encB (b : Bool) : AV := .v (.bool b)
theorem free_encB : Free encB := ⟨fun κ a => by simp only [encB, ren], fun n a => by simp only [encB, bd]⟩
def encN (n : Nat) : AV := .v (.int .i64 n)
theorem free_encN : Free encN := ⟨fun κ a => by simp only [encN, ren], fun n a => by simp only [encN, bd]⟩
@[go_sem] theorem bds_bools (n : Nat) (l : List Bool) : bds n (l.map encB) = True := free_encB.bds n l
@[go_sem] theorem bds_nums (n : Nat) (l : List Nat) : bds n (l.map encN) = True := free_encN.bds n l
def nxs (l : List Bool) : List Nat := (List.range l.length).filter (mkd l)
theorem mem_nxs {l : List Bool} {k : Nat} : k ∈ nxs l ↔ mkd l k = true := by
 simp only [nxs, List.mem_filter, List.mem_range]
 exact ⟨fun h => h.2, fun h => ⟨mkd_lt h, h⟩⟩
theorem nxs_lt {l : List Bool} {k : Nat} (h : k ∈ nxs l) : k < l.length := mkd_lt (mem_nxs.1 h)
theorem ixs_enc (l : List Bool) : (ixs l).map encI = (nxs l).map encN := by
 simp only [ixs, ixsN, nxs, List.map_map]; rfl
theorem nxs_len (l : List Bool) : (nxs l).length <= l.length := by
 have := List.length_filter_le (mkd l) (List.range l.length)
 simpa [nxs] using this
def orN (l : List Bool) (ks : List Nat) : List Bool := (List.range l.length).map fun k => mkd l k || ks.contains k
theorem orN_len (l : List Bool) (ks : List Nat) : (orN l ks).length = l.length := by simp [orN]
theorem mkd_orN {l : List Bool} {ks : List Nat} {k : Nat} (h : k < l.length) : mkd (orN l ks) k = (mkd l k || ks.contains k) := by
 rw [mkd_get (by rw [orN_len]; exact h)]; simp [orN]
def rndF (G : Nat -> List Nat) (l : List Bool) : Nat -> List Bool
 | 0 => l
 | j + 1 => if mkd (rndF G l j) j then orN (rndF G l j) (G j) else rndF G l j
def rndsF (G : Nat -> List Nat) (l : List Bool) : Nat -> List Bool
 | 0 => l
 | r + 1 => rndF G (rndsF G l r) l.length
def closeF (G : Nat -> List Nat) (l : List Bool) : List Bool := rndsF G l l.length
theorem rndF_len (G : Nat -> List Nat) (l : List Bool) : ∀ j, (rndF G l j).length = l.length
 | 0 => rfl
 | j + 1 => by
  have := rndF_len G l j
  rw [rndF]; split
  ·rw [orN_len]; exact this
  ·exact this
theorem sub_orN (l : List Bool) (ks : List Nat) : Sub l (orN l ks) := fun i hi => by rw [mkd_orN (mkd_lt hi), hi]; rfl
theorem rndF_sub (G : Nat -> List Nat) (l : List Bool) : ∀ j, Sub l (rndF G l j)
 | 0 => Sub.refl _
 | j + 1 => by
  have := rndF_sub G l j
  rw [rndF]; split
  ·exact this.trans (sub_orN _ _)
  ·exact this
theorem rndF_step (G : Nat -> List Nat) (l : List Bool) (j : Nat) : Sub (rndF G l j) (rndF G l (j + 1)) := by
 rw [rndF]; split
 ·exact sub_orN _ _
 ·exact Sub.refl _
theorem rndF_mono (G : Nat -> List Nat) (l : List Bool) (j : Nat) : ∀ d, Sub (rndF G l j) (rndF G l (j + d))
 | 0 => Sub.refl _
 | d + 1 => (rndF_mono G l j d).trans (rndF_step G l (j + d))
theorem rndF_top (G : Nat -> List Nat) (l T : List Bool) (hT : Clo G T) (hl : Sub l T) : ∀ j, Sub (rndF G l j) T
 | 0 => hl
 | j + 1 => by
  have ih := rndF_top G l T hT hl j
  rw [rndF]; split
  ·rename_i h
   intro i hi
   rw [mkd_orN (by have := mkd_lt hi; rwa [orN_len] at this), Bool.or_eq_true] at hi
   rcases hi with hi | hi
   ·exact ih i hi
   ·exact hT j (ih j h) i (by simpa using hi)
  ·exact ih
theorem rndF_rnd {G : Nat -> List Nat} {l : List Bool} (hG : ∀ i, ∀ k ∈ G i, k < l.length) : Rnd G l (rndF G l l.length) := by
 refine ⟨rndF_len _ _ _, rndF_sub _ _ _, fun i hi k hk => ?_, fun T hT hl => rndF_top G l T hT hl _⟩
 have hlt := mkd_lt hi
 have h1 := rndF_sub G l i i hi
 have h2 : mkd (rndF G l (i + 1)) k = true := by
  rw [rndF, if_pos h1, mkd_orN (by rw [rndF_len]; exact hG i k hk)]
  simp [hk]
 have := rndF_mono G l (i + 1) (l.length - (i + 1)) k h2
 rwa [show i + 1 + (l.length - (i + 1)) = l.length by omega] at this
theorem rndsF_len (G : Nat -> List Nat) (l : List Bool) : ∀ r, (rndsF G l r).length = l.length
 | 0 => rfl
 | r + 1 => by rw [rndsF, rndF_len, rndsF_len G l r]
theorem rndsF_ok {G : Nat -> List Nat} {l : List Bool} (hG : ∀ i, ∀ k ∈ G i, k < l.length) : ∀ r, Rnds G r l (rndsF G l r)
 | 0 => Rnds.zero
 | r + 1 => by
  have ih := rndsF_ok hG r
  have := rndF_rnd (l := rndsF G l r) (G := G) (by rw [rndsF_len]; exact hG)
  rw [rndsF_len] at this
  rw [rndsF]
  exact ih.succ this
theorem closeF_lc {G : Nat -> List Nat} {l : List Bool} (hG : ∀ i, ∀ k ∈ G i, k < l.length) : LC G (fun k => mkd l k = true) (closeF G l) := (rndsF_ok hG l.length).lc
theorem closeF_len (G : Nat -> List Nat) (l : List Bool) : (closeF G l).length = l.length := rndsF_len _ _ _
theorem closeF_eq {G : Nat -> List Nat} {l l' : List Bool} (hG : ∀ i, ∀ k ∈ G i, k < l.length) (h : LC G (· ∈ nxs l) l') (hl : l'.length = l.length) : l' = closeF G l :=
 h.eq (closeF_lc hG) (fun _ => mem_nxs) (by rw [closeF_len, hl])
def Pr.goals (q : Pr) : List Tm := q.clauses.flatMap Cl.body
def calG (p : Pg) (i : Nat) : List Bool := calB p (p.procs.getD i default).goals
def calN (p : Pg) (i : Nat) : List Nat := nxs (calG p i)
theorem calN_lt (p : Pg) : ∀ i, ∀ k ∈ calN p i, k < p.procs.length := fun i k hk => by have := nxs_lt hk; rwa [calG, cR] at this
theorem calG_len (p : Pg) (i : Nat) : (calG p i).length = p.procs.length := cR _ _
structure Pg.calls (p : Pg) : Prop where
 n : p.procs.length < 2 ^ 24
 m : ∀ i, i < p.procs.length -> (p.procs.getD i default).clauses.length < 2 ^ 24
 c : ∀ i, i < p.procs.length -> okCalls p.syms [] (p.procs.getD i default).goals = true /\ (p.procs.getD i default).goals.length < 2 ^ 24
theorem okCalls_flat (l more : List Sym) (cs : List Cl) : okCalls l more (cs.flatMap Cl.body) = cs.all fun c => okCalls l more c.body := by
 induction cs with
 | nil => rfl
 | cons c r ih => rw [List.flatMap_cons, List.all_cons, <- ih, okCalls, List.all_append]; rfl
theorem flat_len_le : ∀ (cs : List Cl) (b : Nat), (∀ c ∈ cs, c.body.length <= b) -> (cs.flatMap Cl.body).length <= cs.length * b
 | [], _, _ => by simp
 | c :: r, b, h => by
  have h1 := h c (by simp)
  have h2 := flat_len_le r b fun x hx => h x (by simp [hx])
  rw [List.flatMap_cons, List.length_append, List.length_cons, Nat.add_mul]; omega
theorem Pg.small.calls {p : Pg} (hs : p.small) (hok : p.ok = true) : p.calls := by
 refine ⟨by have := hs.l; omega, fun i hi => ?_, fun i hi => ?_⟩
 ·have hm : p.procs.getD i default ∈ p.procs := by simp [List.getD, hi]
  have := (hs.q _ hm).c; omega
 have hm : p.procs.getD i default ∈ p.procs := by simp [List.getD, hi]
 generalize p.procs.getD i default = q at hm
 have hq := hs.q q hm
 constructor
 ·simp only [Pg.ok, Bool.and_eq_true] at hok
  have := List.all_eq_true.1 hok.2 q hm
  simp only [okClauses] at this
  rw [Pr.goals, okCalls_flat, List.all_eq_true]
  intro c hc
  have := List.all_eq_true.1 this c hc
  simp only [Bool.and_eq_true] at this
  exact this.2
 ·have := flat_len_le q.clauses 5000 fun c hc => by
   have h1 := (hq.t c hc).1
   have h2 := body_len c
   omega
  have h3 := hq.c
  have : q.clauses.length * 5000 <= 120 * 5000 := Nat.mul_le_mul_right _ h3
  rw [Pr.goals]; omega
theorem flat_take_snoc {cs : List Cl} {j : Nat} (h : j < cs.length) : (cs.take (j + 1)).flatMap Cl.body = (cs.take j).flatMap Cl.body ++ cs[j].body := by
 rw [bB h, List.flatMap_append]; simp
theorem flat_take_len (cs : List Cl) (j : Nat) : ((cs.take j).flatMap Cl.body).length <= (cs.flatMap Cl.body).length := by
 conv => rhs; rw [<- List.take_append_drop j cs]
 rw [List.flatMap_append, List.length_append]; omega
theorem h133 (p : Pg) (hp : p.calls) (i : Nat) (hi : i < p.procs.length) (km : Nat) (h : List AObj) (hk : h[km]? = some (tabO p.syms)) :
  Adds (PC GLs) 133 [.agg [.sl 3 (p.procs.map encPr), .mp km, .v (.map none)], .i i] h (.sl 1 ((calN p i).map encN)) := by
 obtain ⟨hc, hl⟩ := hp.c i hi
 have hq : p.procs.getD i default = p.procs[i] := by simp [List.getD, hi]
 have hcn : (calN p i).map encN = (ixs (calB p p.procs[i].goals)).map encI := by rw [ixs_enc, calN, calG, hq]
 have hm := hp.m i hi
 rw [hq] at hc hl hm
 have q154 := fun h' hk' => h154 p p.procs[i].goals hl hc km h' hk'
 rw [hcn]
 have hpq : p.procs[i].goals = p.procs[i].clauses.flatMap Cl.body := rfl
 rw [hpq] at hl
 refine k133.gives (by simp) ?_
 simp -implicitDefEqProofs only [go_sem, c133, r133, bnd hi, hi, aS, encPr]
 generalize p.procs[i] = q at *
 refine aZ hC (fun j a => [(16, .i j), (14, .sl 5 (q.clauses.map encCl)), (15, .i q.clauses.length), (2, .ref h.length 0), (5, .own a 4 (((q.clauses.take j).flatMap Cl.body).map enc))])
  (fun j a h' => Keep All h h' /\ h'[h.length]? = some (.cells 153 [.sl 3 (p.procs.map encPr), .mp km, .v (.map none)]) /\ h'[a]? = some (.spare 24 4) /\ h.length < a) q.clauses.length ?_ fun j a h2 hj ⟨g1, g2, g3, g4⟩ => ?_
 ·refine ⟨h.length + 1, _, (Wk.own_nil 24 4 5 (by simp [go_sem]) (by simp)).trans (Wk.pick (by simp) (by simp [go_sem])), ?_, ?_, ?_, by omega⟩
  ·exact (Keep.app _ _ _).trans (Keep.app _ _ _)
  ·rw [List.append_assoc, get_at]; rfl
  ·rw [List.append_assoc, aT]; rfl
 have g2_g := fun l => aE (l := l) g2
 have g2_s := fun o l => aO (l := l) g2 o
 have g2_e := fun o l => aP (o := o) (l := l) g2
 have g2_h := fun o => aJ (o := o) g2
 have g3_g := fun l => aE (l := l) g3
 have g3_s := fun o l => aO (l := l) g3 o
 have g3_e := fun o l => aP (o := o) (l := l) g3
 have g3_h := fun o => aJ (o := o) g3
 simp -implicitDefEqProofs only [go_sem]
 refine aG (fun hlt => ?_) (fun hlt => ?_)
 ·have hlt := aI hlt
  have w5 : IntKind.i64.wrap ((j : Int) + 1) = (j : Int) + 1 := aD _ (by omega)
  have hs := flat_take_snoc hlt
  have hsl := flat_take_len q.clauses (j + 1)
  rw [hs, List.length_append] at hsl
  simp -implicitDefEqProofs only [go_sem, hlt, aS, encCl, List.append_assoc, g3_g, g3_s]
  refine ⟨by omega, ?_⟩
  have k5 := (g1.turn .dead g3 (by omega)).trans (Keep.app All _ [.cells 68 (encCl q.clauses[j]).cells, .spare 24 4])
  refine ⟨h2.length + 1, _, Wk.pick ?_ (by simp [go_sem, w5, hs]), ?_, ?_, ?_, by have := g1.1; omega⟩
  ·have := k5.1
   simpa using this
  ·have := k5
   simp only [encCl, AV.cells] at this
   exact this
  ·rw [aE]
   rw [aR (by omega)]
   exact g2
  ·rw [List.getElem?_append_right (by simp)]
   simp
 ·have hge := aL hlt
  rw [aU hge] at *
  simp -implicitDefEqProofs only [go_sem, hlt, g2]
  refine call_wk (args' := [.agg [.sl 3 (p.procs.map encPr), .mp km, .v (.map none)], .sl 4 (q.goals.map enc)]) (by simp [wkrs, wkr, Pr.goals]) ?_
  refine bX hC (q154 _ (g1.got hk)) fun h3 k3 => ?_
  simp -implicitDefEqProofs only [go_sem]
  exact aK (g1.trans k3).1 ⟨rfl, g1.trans k3⟩
theorem get_encB {l : List Bool} {i : Nat} (hi : i < l.length) : (l.map encB)[i]? = some (.v (.bool (mkd l i))) := by simp [List.getElem?_map, List.getElem?_eq_getElem hi, encB, mkd, List.getD]
theorem set_encB (l : List Bool) (i : Nat) : (l.map encB).set i (.v (.bool true)) = (l.set i true).map encB := by rw [show AV.v (.bool true) = encB true from rfl, List.map_set]
theorem takeB_self (l : List Bool) : (l.map encB).take l.length = l.map encB := List.take_of_length_le (by simp)
theorem bndB {i : Nat} {l : List Bool} (hi : i < l.length) : bounds (i : Int) (List.take l.length (l.map encB)).length = True := by rw [takeB_self]; simp [bounds, hi]
structure VH (p : Pg) (km sb k xb vb : Nat) (l : List Bool) (h : List AObj) : Prop where
 s : h[sb]? = some (.cells 92 [.vec k 1 l.length])
 k : h[k]? = some (.buf 4 1 (l.map encB))
 x : h[xb]? = some (.cells 153 [.sl 3 (p.procs.map encPr), .mp km, .v (.map none)])
 v : h[vb]? = some (.cells 240 [.fn (.func 225) [] [.ref sb 0, .ref xb 0, .ref vb 0]])
 t : h[km]? = some (tabO p.syms)
theorem VH.keep {p : Pg} {km sb k xb vb : Nat} {l l' : List Bool} {h h' : List AObj} (H : VH p km sb k xb vb l h) (hk : Keep (fun i _ => i = k) h h') (hl : l'.length = l.length) (h2 : h'[k]? = some (.buf 4 1 (l'.map encB))) : VH p km sb k xb vb l' h' := by
 refine ⟨?_, h2, hk.get H.x (cJ H.x H.k (by simp)), hk.get H.v (cJ H.v H.k (by simp)), hk.get H.t (cJ H.t H.k (by simp [tabO]))⟩
 rw [hl]
 exact hk.get H.s (cJ H.s H.k (by simp))
theorem cnt_set {l : List Bool} {i : Nat} (hi : i < l.length) (h : mkd l i = false) : cntB l < cntB (l.set i true) := by
 obtain ⟨c1, c2⟩ := (Sub.set hi).cnt (by simp)
 have : cntB l ≠ cntB (l.set i true) := fun e => by
  have := c2 e
  have h2 : mkd (l.set i true) i = true := by rw [mkd_set hi]; simp
  rw [<- this, h] at h2; cases h2
 omega
theorem h225 (p : Pg) (hp : p.calls) (km sb k xb vb : Nat) (m : Nat) : ∀ (l : List Bool) (i : Nat) (h : List AObj), l.length = p.procs.length -> i < l.length -> l.length - cntB l = m -> VH p km sb k xb vb l h ->
  Gives (PC GLs) 225 [.i i, .ref sb 0, .ref xb 0, .ref vb 0] h fun _ h' => ∃ l', Vis (calN p) i l l' /\ h'[k]? = some (.buf 4 1 (l'.map encB)) /\ Keep (fun j _ => j = k) h h' := by
 induction m using Nat.strongRecOn with
 | _ m ih =>
 intro l i h hl hi hm H
 have bl : Nat.ble l.length l.length = true := aQ _
 refine k225.gives (by simp) ?_
 simp -implicitDefEqProofs only [go_sem, c225, r225, H.s, H.k, bl, bndB hi, get_encB hi]
 rcases hmk : mkd l i with _ | _
 ·have hcl := cntB_le l
  have hcs := cnt_set hi hmk
  have H1 : VH p km sb k xb vb (l.set i true) (h.set k (.buf 4 1 ((l.set i true).map encB))) := H.keep (Keep.set _ H.k rfl) (by simp) (aJ H.k)
  have hk1 : Keep (fun j _ => j = k) h (h.set k (.buf 4 1 ((l.set i true).map encB))) := Keep.set _ H.k rfl
  have q := h133 p hp i (by omega) km _ H1.t
  have hks : ∀ x ∈ calN p i, x < p.procs.length := calN_lt p i
  have hnl : (calN p i).length <= p.procs.length := by have := nxs_len (calG p i); rwa [calG_len] at this
  have hn24 := hp.n
  generalize hKs : calN p i = ks at *
  simp -implicitDefEqProofs only [go_sem, H.s, H.k, bl, bndB hi, get_encB hi, hmk, set_encB, H1.x]
  refine bX hC q fun h2 k2 => ?_
  have H2 : VH p km sb k xb vb (l.set i true) h2 := H1.keep k2.of_all rfl (k2.got H1.k)
  simp -implicitDefEqProofs only [go_sem]
  refine aZ hC (fun j _ => [(18, .i j), (16, .sl 1 (ks.map encN)), (17, .i ks.length), (1, .ref sb 0), (2, .ref xb 0), (3, .ref vb 0)])
   (fun j l1 h' => VH p km sb k xb vb l1 h' /\ Viss (calN p) (ks.take j) (l.set i true) l1 /\ Keep (fun j _ => j = k) h h') ks.length ?_ fun j l1 h3 hj ⟨g1, g2, g3⟩ => ?_
  ·exact ⟨l.set i true, h2, Wk.pick (hk1.trans k2.of_all).1 (by simp [go_sem]), H2, Viss.nil, hk1.trans k2.of_all⟩
  have hll : l1.length = l.length := by rw [g2.n]; simp
  simp -implicitDefEqProofs only [go_sem]
  refine aG (fun hlt => ?_) (fun hlt => ?_)
  ·have hlt := aI hlt
   have w5 : IntKind.i64.wrap ((j : Int) + 1) = (j : Int) + 1 := aD _ (by omega)
   have hcn := (g2.s.cnt g2.n.symm).1
   have hcl1 := cntB_le l1
   simp -implicitDefEqProofs only [go_sem, hlt, aS, encN, g1.v]
   refine aN hC (ih (l1.length - cntB l1) (by omega) l1 ks[j] h3 (by omega) (by have := hks _ (List.getElem_mem hlt); omega) rfl g1) fun _ h4 ⟨l2, v, b2, k4⟩ => ?_
   simp -implicitDefEqProofs only [go_sem]
   refine ⟨l2, h4, Wk.pick (g3.trans k4).1 (by simp [go_sem, w5]), g1.keep k4 v.n b2, ?_, g3.trans k4⟩
   rw [bB hlt]
   exact g2.snoc v
  ·have hge := aL hlt
   rw [aU hge] at g2
   simp -implicitDefEqProofs only [go_sem]
   refine aK g3.1 ⟨l1, Vis.of hi ?_, g1.k, g3⟩
   rw [hKs]; exact g2
 ·simp -implicitDefEqProofs only [go_sem]
  exact aK (Nat.le_refl _) ⟨l, Vis.seen hmk, H.k, Keep.refl _ _⟩
theorem map_rep (n : Nat) : List.replicate n (AV.v (.bool false)) = (List.replicate n false).map encB := by simp [encB]
theorem h151 (p : Pg) (hp : p.calls) (S : List Bool) (hS : S.length = p.procs.length) (km : Nat) (h : List AObj) (hk : h[km]? = some (tabO p.syms)) :
  Adds (PC GLs) 151 [.agg [.sl 3 (p.procs.map encPr), .mp km, .v (.map none)], .sl 1 ((nxs S).map encN)] h (.sl 1 ((closeF (calN p) S).map encB)) := by
 have hn := hp.n
 have hfl := nxs_len S
 have hfr : ∀ x ∈ nxs S, x < p.procs.length := fun x hx => by have := nxs_lt hx; omega
 have hmem : ∀ x, x ∈ nxs S ↔ mkd S x = true := fun x => mem_nxs
 have hcf := fun l' (hh : LC (calN p) (· ∈ nxs S) l') (hl' : l'.length = S.length) => closeF_eq (l := S) (by rw [hS]; exact calN_lt p) hh hl'
 generalize nxs S = fr at *
 generalize closeF (calN p) S = res at *
 have mk : (0 : Int) <= (p.procs.length : Int) /\ (p.procs.length : Int) * 1 <= 2 ^ 47 := by omega
 refine k151.gives (by simp) ?_
 simp -implicitDefEqProofs only [go_sem, c151, r151, aT, cB, List.append_assoc, List.length_map]
 refine ⟨by omega, ?_⟩
 obtain ⟨L, hL⟩ : ∃ L, L = h.length := ⟨_, rfl⟩
 rw [<- hL, map_rep]
 have H0 : VH p km (L + 2) (L + 1) L (L + 3) (List.replicate p.procs.length false) (h ++ [.cells 153 [.sl 3 (p.procs.map encPr), .mp km, .v (.map none)], .buf 4 1 ((List.replicate p.procs.length false).map encB), .cells 92 [.vec (L + 1) 1 p.procs.length], .cells 240 [.fn (.func 225) [] [.ref (L + 2) 0, .ref L 0, .ref (L + 3) 0]]]) := by
  subst hL
  refine ⟨?_, ?_, ?_, ?_, aE hk⟩
  ·rw [aT]; simp
  ·rw [aT]; rfl
  ·rw [get_at]; rfl
  ·rw [aT]; rfl
 refine aZ hC (fun j _ => [(17, .i j), (15, .sl 1 (fr.map encN)), (16, .i fr.length), (6, .ref (L + 3) 0), (5, .ref (L + 2) 0)])
  (fun j l1 h' => VH p km (L + 2) (L + 1) L (L + 3) l1 h' /\ Viss (calN p) (fr.take j) (List.replicate p.procs.length false) l1 /\ Keep All h h') fr.length ?_ fun j l1 h3 hj ⟨g1, g2, g3⟩ => ?_
 ·exact ⟨_, _, Wk.pick (by simp; omega) (by simp [go_sem]), H0, Viss.nil, Keep.app _ _ _⟩
 have hll : l1.length = p.procs.length := by rw [g2.n]; simp
 simp -implicitDefEqProofs only [go_sem]
 refine aG (fun hlt => ?_) (fun hlt => ?_)
 ·have hlt := aI hlt
  have w5 : IntKind.i64.wrap ((j : Int) + 1) = (j : Int) + 1 := aD _ (by omega)
  have hx := hfr _ (List.getElem_mem hlt)
  simp -implicitDefEqProofs only [go_sem, hlt, aS, encN, g1.v]
  refine aN hC (h225 p hp km (L + 2) (L + 1) L (L + 3) _ l1 fr[j] h3 hll (by omega) rfl g1) fun _ h4 ⟨l2, v, b2, k4⟩ => ?_
  have k5 : Keep All h h4 := g3.trans' k4 fun i o hi e => by have := aV hi; omega
  simp -implicitDefEqProofs only [go_sem]
  refine ⟨l2, h4, Wk.pick (by have := k5.1; omega) (by simp [go_sem, w5]), g1.keep k4 v.n b2, ?_, k5⟩
  rw [bB hlt]
  exact g2.snoc v
 ·have hge := aL hlt
  rw [aU hge] at g2
  have e := hcf l1 g2.lc (by omega)
  subst e
  simp -implicitDefEqProofs only [go_sem, hlt, g1.s]
  refine fin_freeze g1.k (by have := g3.1; omega) (by simp) ⟨by rw [takeB_self], g3.freeze _ _ (by omega)⟩
theorem ixsN_take (l : List Bool) (j : Nat) (h : j < l.length) : ixsN l (j + 1) = if l[j] = true then ixsN l j ++ [(j : Int)] else ixsN l j := by rw [ixsN_succ, mkd_get h]
theorem h153 (l : List Bool) (hl : l.length < 2 ^ 24) : Pure (PC GL) 153 [.sl 1 (l.map encB)] (.sl 1 ((nxs l).map encN)) := by
 rw [<- ixs_enc]
 refine k153.pure (by simp) (by simp [go_sem]) (by simp [go_sem]) ?_
 simp -implicitDefEqProofs only [go_sem, c153, r153]
 refine aZ hC (fun j a => [(8, .i j), (6, .sl 1 (l.map encB)), (7, .i l.length), (3, .own a 1 ((ixsN l j).map encI))]) (fun _ a h => h[a]? = some (.spare 3 1)) l.length ?_ fun j a h hj ha => ?_
 ·refine ⟨0, [.spare 3 1], (Wk.own_nil (h := []) 3 1 3 (by simp [go_sem]) (Nat.zero_le _)).trans (Wk.pick (Nat.zero_le _) ?_), rfl⟩
  simp [go_sem, ixsN]
 have g1 := ixsN_len l j
 have ha' := fun l => aE (l := l) ha
 simp -implicitDefEqProofs only [go_sem]
 refine aG (fun hlt => ?_) (fun hlt => ?_)
 ·have hlt := aI hlt
  have w5 : IntKind.i64.wrap ((j : Int) + 1) = (j : Int) + 1 := aD _ (by omega)
  have hs := ixsN_take l j hlt
  rcases hb : l[j] with _ | _
  ·rw [hb, if_neg (by simp)] at hs
   simp -implicitDefEqProofs only [go_sem, hlt, aS, encB, hb]
   exact ⟨a, h, Wk.pick (Nat.zero_le _) (by simp [go_sem, w5, hs]), ha⟩
  ·rw [hb, if_pos rfl] at hs
   simp -implicitDefEqProofs only [go_sem, hlt, aS, encB, hb, ha', blt01]
   refine ⟨by simp; omega, h.length + 1, _, Wk.pick (Nat.zero_le _) (by simp [go_sem, w5, hs, encI]), ?_⟩
   rw [get_ge (by simp)]; simp
 ·have hge := aL hlt
  have hj' : j = l.length := by omega
  subst hj'
  simp -implicitDefEqProofs only [go_sem, hlt]
  refine aF ?_ ?_ <;> simp [go_sem, ixs]
theorem wkr_nilN : wkr (.v (.slice none 0 0)) (.sl 1 (([] : List Nat).map encN)) := by simp [wkr]
theorem bne50 : ((5 : Int) != 0) = true := rfl
def reachS (p : Pg) (l : List Tm) : List Bool := closeF (calN p) (calB p l)
def reachR (p : Pg) (q : Qy) : List Nat := if okQuery p q then nxs (reachS p q.goals) else []
theorem h65 (p : Pg) (hp : p.small) (q : Qy) (hq : q.fits) (hq2 : q.goals.length < 2 ^ 24) : Pure (PC GLs) 65 [encPg p, encQy q] (.tup [.sl 1 ((reachR p q).map encN), .i (okE (okQuery p q))]) := by
 have q145 := fun h => h145 p hp.fits q hq h
 simp only [encPg, encQy] at q145
 have hl := hp.l
 refine k65.pure (by simp) (by simp [go_sem]) (by simp [go_sem]) ?_
 simp -implicitDefEqProofs only [go_sem, c65, r65, encPg, encQy]
 refine aN hC (q145 _) fun x h1 ⟨a, b, c, hx, hk1, hy⟩ => ?_
 subst hx
 have o1 := hk1.got (i := 0) rfl
 have o2 := hk1.got (i := 1) rfl
 have o1_g := fun l => aE (l := l) o1
 have o1_s := fun o l => aO (l := l) o1 o
 have o1_e := fun o l => aP (o := o) (l := l) o1
 have o1_h := fun o => aJ (o := o) o1
 have o2_g := fun l => aE (l := l) o2
 have o2_s := fun o l => aO (l := l) o2 o
 have o2_e := fun o l => aP (o := o) (l := l) o2
 have o2_h := fun o => aJ (o := o) o2
 rcases hok : okQuery p q with _ | _
 ·have e0 : okE false = 5 := rfl
  have hR : reachR p q = [] := by simp [reachR, hok]
  rw [hR]
  simp -implicitDefEqProofs only [go_sem, e0, bne50]
  exact aF (wkr_pair wkr_nilN rfl) (by simp [go_sem])
 ·obtain ⟨k, ⟨rfl, rfl, rfl⟩, hk⟩ := hy hok
  have hpo : p.ok = true /\ okCalls p.syms [] q.goals = true := by simp only [okQuery, Bool.and_eq_true] at hok; exact ⟨hok.1, hok.2.2⟩
  have hpc := hp.calls hpo.1
  have hR : reachR p q = nxs (reachS p q.goals) := by simp [reachR, hok]
  rw [hR]
  have e0 : okE true = 0 := rfl
  have q154 := h154 p q.goals hq2 hpo.2 k (h1 ++ [.cells 153 [.sl 3 (p.procs.map encPr), .mp k, .v (.map none)]]) (aE hk)
  rw [ixs_enc] at q154
  have q151 := fun h' hk' => h151 p hpc (calB p q.goals) (cR _ _) k h' hk'
  have q153 := h153 (GL := GLs) (reachS p q.goals) (by rw [reachS, closeF_len, cR]; omega)
  simp -implicitDefEqProofs only [go_sem, o2_g, e0, bne_self_eq_false]
  refine bX hC q154 fun h2 hk2 => ?_
  have o3 := hk2.got (i := h1.length) (by rw [get_at]; rfl)
  simp -implicitDefEqProofs only [go_sem, o3]
  refine bX hC (q151 h2 (hk2.got (aE hk))) fun h3 hk3 => ?_
  simp -implicitDefEqProofs only [go_sem]
  refine aC hC q153 ?_
  simp -implicitDefEqProofs only [go_sem]
  exact aF (wkr_refl _) (by simp [go_sem, free_encN.bds])
end Go.Rip
namespace Go.Rip
open Go
structure Wd (x y : AV) : Prop where
 l : y.cells.length = x.cells.length
 r : ∀ E A G w v, Rep E A G w x v -> Rep E A G w y v
 c : ∀ E A G w b o, RepC E A G w b o x.cells -> RepC E A G w b o y.cells
theorem Wd.rfl (x : AV) : Wd x x := ⟨Eq.refl _, fun _ _ _ _ _ h => h, fun _ _ _ _ _ _ h => h⟩
theorem Wd.one {x y : AV} (hx : x.cells = [x]) (hy : y.cells = [y]) (h : ∀ E A G w v, Rep E A G w x v -> Rep E A G w y v) : Wd x y :=
 ⟨by rw [hx, hy]; exact Eq.refl _, h, fun E A G w b o => by
  rw [hx, hy]
  simp only [RepC, and_true]
  rintro ⟨u, h1, h2, h3, h4⟩
  exact ⟨u, h1, h2, h3, h _ _ _ _ _ h4⟩⟩
def Wds : List AV -> List AV -> Prop
 | [], [] => True
 | x :: xs, y :: ys => Wd x y /\ Wds xs ys
 | _, _ => False
theorem Wds.rfl : ∀ l, Wds l l
 | [] => trivial
 | x :: xs => ⟨Wd.rfl x, Wds.rfl xs⟩
theorem Wds.app : ∀ {a a' b b' : List AV}, Wds a a' -> Wds b b' -> Wds (a ++ b) (a' ++ b')
 | [], [], _, _, _, h => h
 | _ :: _, _ :: _, _, _, h, k => ⟨h.1, Wds.app h.2 k⟩
 | [], _ :: _, _, _, h, _ => h.elim
 | _ :: _, [], _, _, h, _ => h.elim
theorem Wds.len : ∀ {l l' : List AV}, Wds l l' -> l'.length = l.length
 | [], [], _ => Eq.refl _
 | _ :: _, _ :: _, h => by simp [Wds.len h.2]
 | [], _ :: _, h => h.elim
 | _ :: _, [], h => h.elim
section
variable {E : Env} {A : Nat -> Nat -> Prop} {G : Gd} {w : World}
theorem Wds.reps : ∀ {l l' : List AV} {vs : List Value}, Wds l l' -> Reps E A G w l vs -> Reps E A G w l' vs
 | [], [], _, _, h => h
 | _ :: _, _ :: _, _, h, k => by
  simp only [Reps] at k ⊢
  obtain ⟨u, us, rfl, h1, h2⟩ := k
  exact ⟨u, us, Eq.refl _, h.1.r _ _ _ _ _ h1, Wds.reps h.2 h2⟩
 | [], _ :: _, _, h, _ => h.elim
 | _ :: _, [], _, h, _ => h.elim
theorem Wds.repC : ∀ {l l' : List AV} {b o : Nat}, Wds l l' -> RepC E A G w b o l -> RepC E A G w b o l'
 | [], [], _, _, _, h => h
 | _ :: _, _ :: _, _, _, h, k => by
  simp only [RepC] at k ⊢
  obtain ⟨⟨u, h1, h2, h3, h4⟩, h5⟩ := k
  exact ⟨⟨u, h1, h2, h3, h.1.r _ _ _ _ _ h4⟩, Wds.repC h.2 h5⟩
 | [], _ :: _, _, _, h, _ => h.elim
 | _ :: _, [], _, _, h, _ => h.elim
theorem Wds.repL {sz : Nat} : ∀ {l l' : List AV} {b o : Nat}, Wds l l' -> RepL E A G w sz b o l -> RepL E A G w sz b o l'
 | [], [], _, _, _, h => h
 | _ :: _, _ :: _, _, _, h, k => by
  rw [bY] at k ⊢
  exact ⟨h.1.l.trans k.1, h.1.c _ _ _ _ _ _ k.2.1, Wds.repL h.2 k.2.2⟩
 | [], _ :: _, _, _, h, _ => h.elim
 | _ :: _, [], _, _, h, _ => h.elim
theorem Wds.slice {l l' : List AV} {sz n c : Nat} {p : Option Addr} (h : Wds l l') (k : n = l.length /\ n <= c /\ n <= 2 ^ 50 /\ (l = [] ∨ ∃ b o, p = some ⟨b, o, none⟩ /\ RepL E A G w sz b o l)) :
  n = l'.length /\ n <= c /\ n <= 2 ^ 50 /\ (l' = [] ∨ ∃ b o, p = some ⟨b, o, none⟩ /\ RepL E A G w sz b o l') := by
 obtain ⟨h1, h2, h3, h4⟩ := k
 refine ⟨h1.trans h.len.symm, h2, h3, ?_⟩
 rcases h4 with rfl | ⟨b, o, hp, hr⟩
 ·exact .inl (List.eq_nil_of_length_eq_zero (by rw [h.len]; exact Eq.refl _))
 ·exact .inr ⟨b, o, hp, h.repL hr⟩
end
theorem Wd.sl {sz : Nat} {l l' : List AV} (h : Wds l l') : Wd (.sl sz l) (.sl sz l') := Wd.one (Eq.refl _) (Eq.refl _) fun E A G w v k => by
 simp only [Rep] at k ⊢
 obtain ⟨p, n, c, e, k⟩ := k
 exact ⟨p, n, c, e, h.slice k⟩
theorem Wd.own {j sz : Nat} {l l' : List AV} (h : Wds l l') : Wd (.own j sz l) (.own j sz l') := Wd.one (Eq.refl _) (Eq.refl _) fun E A G w v k => by
 simp only [Rep] at k ⊢
 obtain ⟨k1, k2, p, n, c, e, k⟩ := k
 exact ⟨k1, k2, p, n, c, e, h.slice k⟩
theorem Wd.nil {sz : Nat} : Wd (.v (.slice none 0 0)) (.sl sz []) := Wd.one (Eq.refl _) (Eq.refl _) fun E A G w v k => by
 simp only [Rep] at k ⊢
 subst k
 exact ⟨none, 0, 0, Eq.refl _, Eq.refl _, Nat.le_refl _, by decide, .inl trivial⟩
theorem Wd.agg {l l' : List AV} (h : Wds l l') : Wd (.agg l) (.agg l') := ⟨h.len, fun E A G w v k => by
 simp only [Rep] at k ⊢
 obtain ⟨cs, e, ho, k⟩ := k
 exact ⟨cs, e, ho, h.reps k⟩, fun E A G w b o k => h.repC k⟩
theorem Wd.tup {l l' : List AV} (h : Wds l l') : Wd (.tup l) (.tup l') := Wd.one (Eq.refl _) (Eq.refl _) fun E A G w v k => by
 simp only [Rep] at k ⊢
 obtain ⟨cs, e, k⟩ := k
 exact ⟨cs, e, h.reps k⟩
def PicksW (τ : List (Nat × AV)) : List (Nat × AV) -> Prop
 | [] => True
 | (i, x) :: r => Wd (tget τ i) x /\ PicksW τ r
theorem PicksW.get {τ : List (Nat × AV)} : ∀ {r : List (Nat × AV)}, PicksW τ r -> ∀ i, Wd (tget τ i) (tget r i) ∨ tget r i = .any
 | [], _, i => .inr (Eq.refl _)
 | (j, x) :: r, h, i => by
  simp only [PicksW] at h
  simp only [tget]
  split
  ·rename_i hb
   have := Nat.eq_of_beq_eq_true hb
   subst this
   exact .inl h.1
  ·exact PicksW.get h.2 i
end Go.Rip
namespace Go.Rip
open Go Go.Proofs
set_option maxRecDepth 100000
variable {GL : Glob}
attribute [local irreducible] Pure
def rowM (p : Pg) (i : Nat) : List Bool := closeF (calN p) (calG p i)
def encRow (p : Pg) (i : Nat) : AV := .sl 1 ((rowM p i).map encB)
def rowsA (p : Pg) (j : Nat) : List AV := (List.range p.procs.length).map fun i => if i < j then encRow p i else .v (.slice none 0 0)
structure CH (p : Pg) (tb kt kd : Nat) (done : List Bool) (h : List AObj) : Prop where
 b : h[tb]? = some (.cells 89 [.vec kt 1 p.procs.length])
 t : h[kt]? = some (.buf 92 1 (rowsA p p.procs.length))
 d : h[kd]? = some (.buf 4 1 (done.map encB))
theorem CH.keep {p : Pg} {tb kt kd : Nat} {done : List Bool} {h h' : List AObj} (H : CH p tb kt kd done h) (k : Keep All h h') : CH p tb kt kd done h' := ⟨k.got H.b, k.got H.t, k.got H.d⟩
theorem CH.set {p : Pg} {tb kt kd : Nat} {done : List Bool} {h : List AObj} (H : CH p tb kt kd done h) (d2 : List Bool) : CH p tb kt kd d2 (h.set kd (.buf 4 1 (d2.map encB))) :=
 ⟨by rw [aR (cJ H.d H.b (by simp))]; exact H.b, by rw [aR (cJ H.d H.t (by simp))]; exact H.t, aJ H.d⟩
structure RH (p : Pg) (ks : List Nat) (j : Nat) (h : List AObj) : Prop where
 n : ks.length = j
 r : ∀ i, i < j -> h[ks.getD i 0]? = some (.buf 4 1 ((rowM p i).map encB))
theorem RH.keep {p : Pg} {ks : List Nat} {j : Nat} {h h' : List AObj} {K : Nat -> AObj -> Prop} (H : RH p ks j h) (k : Keep K h h') (hn : ∀ i, i < j -> ∀ o, ¬ K (ks.getD i 0) o) : RH p ks j h' :=
 ⟨H.n, fun i hi => k.get (H.r i hi) (hn i hi _)⟩
theorem RH.all {p : Pg} {ks : List Nat} {j : Nat} {h h' : List AObj} (H : RH p ks j h) (k : Keep All h h') : RH p ks j h' := H.keep k fun _ _ _ h => h
theorem RH.lt {p : Pg} {ks : List Nat} {j : Nat} {h : List AObj} (H : RH p ks j h) {i : Nat} (hi : i < j) : ks.getD i 0 < h.length := aV (H.r i hi)
end Go.Rip
