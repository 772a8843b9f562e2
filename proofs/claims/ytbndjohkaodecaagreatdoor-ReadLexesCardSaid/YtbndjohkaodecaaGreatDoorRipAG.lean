/- Regions whose order is drawn: the simulation. -/
import Derived.RangeFuncRecord
import Derived.Test.YtbndjohkaodecaaGreatDoorRipAF
namespace Go.Rip
open Go
structure DReg (P : Program) (N : NB) (ops : Array Oper) (e : Nat -> AEnt) (fl : Nat -> Bool) (aa b : Nat -> List Nat) (g : Nat -> Option Nat) (ord : List Nat) : Prop where
 ok : DOk ops.size e fl aa b g ord
 ent : ∀ (i : Nat) (o : Oper), ops[i]? = some o -> dstOk N o.dst = true /\ ∃ (gd : Option (Nat × Bool)) (ao : AOp), compGuard ops o.guard = some gd /\ (CompOk P o ao ∨ ao = .bad) /\ e i = (o.dst, gd, ao)
 aft : ∀ (i : Nat) (o : Oper), ops[i]? = some o -> ∀ j, j ∈ aa i ↔ ∃ x ∈ o.after, Region.binds .any x = true /\ x.on = j
structure EaOk (e : Nat -> AEnt) (fl : Nat -> Bool) (listed : Array Bool) (rest : List Nat) (h : List AObj) (a : Act) (w : World) (E : Env) (A : Nat -> Nat -> Prop) (G : Gd) (p : Nat × Nat) : Prop where
 rest : p.1 ∈ rest
 lst : listed.getD p.1 false = true
 nfl : fl p.1 = false
 obj : ∃ (d : Nat) (T : TypeId) (zs : List AV) (cs : Array Value), e p.1 = (some d, none, .alloc T zs) /\ w.heap[p.2]? = some (.cells cs T (0, 0)) /\ (∀ u ∈ cs.toList, u.oneCell' = true) /\ (∀ E A G w, Reps E A G w zs cs.toList) /\
  a.tmps.getD d undef = .pointer (some ⟨p.2, 0, none⟩)
 off : HOff h w E A G p.2
theorem EaOk.al {e : Nat -> AEnt} {fl : Nat -> Bool} {listed : Array Bool} {rest : List Nat} {h : List AObj} {a : Act} {w : World} {E : Env} {A : Nat -> Nat -> Prop} {G : Gd} {p : Nat × Nat} (he : EaOk e fl listed rest h a w E A G p) : alE (e p.1) = true := by
 obtain ⟨d, T, zs, cs, h1, _⟩ := he.obj
 rw [h1]; rfl
structure DInv (P : Program) (GL : Glob) (B : Base) (e : Nat -> AEnt) (fl : Nat -> Bool) (aa b : Nat -> List Nat) (ord : List Nat) (n : Nat) (Kf : List (Nat × AV) -> List AObj -> Prop) (Pn : AV -> List AObj -> Prop)
  (listed : Array Bool) (ea : List (Nat × Nat)) (pre rest : List Nat) (τ : List (Nat × AV)) (h : List AObj) (a : Act) (w : World) (E : Env) (A : Nat -> Nat -> Prop) (G : Gd) : Prop extends RelM GL B h w E A G where
 size : B.N.1 <= a.tmps.size
 stab : ∀ t ∈ B.N.2, a.tmps.getD t undef = B.sv t
 dfs : DfsOk B G w a.defers
 tmps : ∀ t, (∀ q ∈ pre, listed.getD q false = false -> (e q).1 ≠ some t) -> (∀ p ∈ ea, (e p.1).1 ≠ some t) -> Rep E A G w (tget τ t) (a.tmps.getD t undef)
 lsz : listed.size = n
 lst : ∀ i, listed.getD i false = true -> i ∈ pre ∨ ∃ p ∈ ea, p.1 = i
 down : ∀ i, i < n -> listed.getD i false = true -> ∀ j ∈ aa i, listed.getD j false = true
 pend : ∀ q ∈ pre, listed.getD q false = false -> fl q = true /\ PendOk GL (e q) τ h
 ord : ord = pre.reverse ++ rest
 ear : ∀ p ∈ ea, EaOk e fl listed rest h a w E A G p
 ean : (ea.map (·.1)).Nodup /\ (ea.map (·.2)).Nodup
 go : opsA GL (AC P GL) (emit e fl b pre rest) τ h Kf Pn
section
variable {P : Program} {GL : Glob} {B : Base} {ops : Array Oper} {e : Nat -> AEnt} {fl : Nat -> Bool} {aa b : Nat -> List Nat} {g : Nat -> Option Nat} {ord : List Nat} {Kf : List (Nat × AV) -> List AObj -> Prop} {Pn : AV -> List AObj -> Prop}
variable {listed : Array Bool} {ea : List (Nat × Nat)} {pre rest : List Nat} {τ : List (Nat × AV)} {h : List AObj} {a : Act} {w : World} {E : Env} {A : Nat -> Nat -> Prop} {G : Gd} {Q : Exit -> Act -> World -> Prop} {r : Option Nat} {nn : Nat}
theorem DReg.lt (D : DReg P B.N ops e fl aa b g ord) {i : Nat} (hi : i ∈ ord) : i < ops.size := D.ok.lt i hi
theorem iE {op : AOp} {C : Calling} {K : AV -> List AObj -> Prop} (hq : quietA op = true) : opA GL C op τ h K Pn = stepA GL op τ h K := by
 cases op <;> simp only [quietA, Bool.false_eq_true] at hq <;> rfl
theorem DInv.notin (D : DReg P B.N ops e fl aa b g ord) {y : Nat} (hI : DInv P GL B e fl aa b ord ops.size Kf Pn listed ea pre rest τ h a w E A G) (hy : y ∈ rest) : y ∉ pre := by
 have := D.ok.nodup
 rw [hI.ord, List.nodup_append] at this
 intro hp
 exact this.2.2 y (List.mem_reverse.2 hp) y hy rfl
theorem DInv.pass (D : DReg P B.N ops e fl aa b g ord) {y : Nat} (hI : DInv P GL B e fl aa b ord ops.size Kf Pn listed ea pre (y :: rest) τ h a w E A G) (hy : fl y = true) :
  ∃ τ', DInv P GL B e fl aa b ord ops.size Kf Pn listed ea (y :: pre) rest τ' h a w E A G := by
 have hord := hI.ord
 have hyo : y ∈ ord := by rw [hord]; simp
 have hyn : y ∉ pre := hI.notin D (by simp)
 have hyea : ∀ p ∈ ea, p.1 ≠ y := fun p hp he => by
  have := (hI.ear p hp).nfl
  rw [he, hy] at this; cases this
 obtain ⟨hq, hself⟩ := D.ok.quiet y (D.lt hyo) hy
 have hgo := hI.go
 simp only [emit, hq, List.nil_append] at hgo
 have hpre : ∀ q ∈ pre, listed.getD q false = false -> ∀ i, (e y).1 = some i -> i ∉ AEnt.names (e q) := by
  intro q hqp hql i hi
  have hp := gX (by rw [<- hord]; exact D.ok.pairs) hqp (show y ∈ y :: rest by simp)
  rcases (eQ hp (hI.pend q hqp hql).1).1 with ⟨_, hf⟩ | hd
  ·rw [hy] at hf; cases hf
  ·exact hd i hi
 -- what is left to show, of the entry's value
 have fin : ∀ v, opsA GL (AC P GL) (emit e fl b (y :: pre) rest) (aput τ (e y).1 v) h Kf Pn -> (match (e y).2.1 with
   | none => Yl GL (e y).2.2 τ h v
   | some (j, c) => ∃ t, gdW (tget τ j) c = some t /\ (t = true -> Yl GL (e y).2.2 τ h v) /\ (t = false -> v = .v undef)) ->
   ∃ τ', DInv P GL B e fl aa b ord ops.size Kf Pn listed ea (y :: pre) rest τ' h a w E A G := by
  intro v hk hv
  refine ⟨aput τ (e y).1 v, ⟨hI.toRelM, hI.size, hI.stab, hI.dfs, fun t ht ht2 => ?_, hI.lsz, fun i hi => (hI.lst i hi).imp (List.mem_cons_of_mem _) id, hI.down, fun q hqp hql => ?_, by rw [hord]; simp, fun p hp => ?_, hI.ean, hk⟩⟩
  ·have hne : (e y).1 ≠ some t := ht y (by simp) (by
    cases hl : listed.getD y false with
    | false => rfl
    | true => exact (hI.lst y hl).elim (fun h => absurd h hyn) fun ⟨p, hp, he⟩ => absurd he (hyea p hp))
   rw [bN hne]
   exact hI.tmps t (fun q hqp => ht q (List.mem_cons_of_mem _ hqp)) ht2
  ·rcases List.mem_cons.1 hqp with rfl | hqp
   ·refine ⟨hy, v, fun i hi => by rw [hi]; exact bU, ?_⟩
    have hsame : ∀ t ∈ gdT (e q).2.1 ++ (e q).2.2.tmps, tget τ t = tget (aput τ (e q).1 v) t := fun t ht => (bN fun he => hself t he ht).symm
    have hyl : ∀ {v'}, Yl GL (e q).2.2 τ h v' -> Yl GL (e q).2.2 (aput τ (e q).1 v) h v' := fun hy' => hy'.congr (gG fun t ht => hsame t (List.mem_append_right _ ht))
    cases hg : (e q).2.1 with
    | none =>
     rw [hg] at hv
     exact hyl hv
    | some p =>
     obtain ⟨j, c⟩ := p
     rw [hg] at hv
     obtain ⟨t, h3, h4, h5⟩ := hv
     exact ⟨t, by rw [<- hsame j (List.mem_append_left _ (by rw [hg]; simp [gdT]))]; exact h3, fun h => hyl (h4 h), h5⟩
   ·exact ⟨(hI.pend q hqp hql).1, (hI.pend q hqp hql).2.put (hpre q hqp hql)⟩
  ·have := hI.ear p hp
   exact ⟨(List.mem_cons.1 this.rest).resolve_left (hyea p hp), this.lst, this.nfl, this.obj, this.off⟩
 have he : e y = ((e y).1, (e y).2.1, (e y).2.2) := rfl
 rw [he] at hgo
 cases hg : (e y).2.1 with
 | none =>
  rw [hg] at hgo fin
  simp only [opsA] at hgo
  rw [iE hq] at hgo
  obtain ⟨x, hx, hyl⟩ := eW hq hgo
  exact fin x hx hyl
 | some p =>
  obtain ⟨j, c⟩ := p
  rw [hg] at hgo fin
  simp only [opsA] at hgo
  split at hgo
  ·rename_i t ht
   cases htc : t with
   | true =>
    have := hgo.1 htc
    rw [iE hq] at this
    obtain ⟨x, hx, hyl⟩ := eW hq this
    exact fin x hx ⟨t, ht, fun _ => hyl, fun h => (by rw [htc] at h; cases h)⟩
   | false => exact fin _ (hgo.2 htc) ⟨t, ht, fun h => (by rw [htc] at h; cases h), fun _ => rfl⟩
  ·exact hgo.elim
theorem DInv.checked (D : DReg P B.N ops e fl aa b g ord) {i : Nat} (hI : DInv P GL B e fl aa b ord ops.size Kf Pn listed ea pre (i :: rest) τ h a w E A G) (hnb : ∀ q ∈ pre, listed.getD q false = false -> q ∉ b i)
  {τ' : List (Nat × AV)} {h' : List AObj} (hput : ∀ q ∈ pre, listed.getD q false = false -> PendOk GL (e q) τ' h)
  (hk : opsA GL (AC P GL) (chks e fl b i pre ++ emit e fl b (i :: pre) rest) τ' h' Kf Pn) :
  opsA GL (AC P GL) (emit e fl b (i :: pre) rest) τ' h' Kf Pn /\ ∀ q ∈ pre, listed.getD q false = false -> PendOk GL (e q) τ' h' := by
 have hord := hI.ord
 obtain ⟨h1, h2⟩ := fJ (n := ops.size) (fun z hz hf => (D.ok.quiet z hz hf).1) pre (fun z hz => D.lt (by rw [hord]; simp [hz])) (fE AC.mono _ _ _ _ hk)
 refine ⟨h1, fun q hqp hql => ?_⟩
 have hqf := (hI.pend q hqp hql).1
 cases hrd : readsA (e q).2.2 with
 | true => exact h2 q hqp hqf hrd (hnb q hqp hql) h (hput q hqp hql)
 | false => exact (hput q hqp hql).heap (D.ok.quiet q (D.lt (by rw [hord]; simp [hqp])) hqf).1 hrd
theorem mC {p : Nat × Nat} {f : Nat × Nat -> Nat} : ∀ {l1 l2 : List (Nat × Nat)}, ((l1 ++ p :: l2).map f).Nodup -> ((l1 ++ l2).map f).Nodup /\ ∀ q ∈ l1 ++ l2, f q ≠ f p
 | l1, l2, h => by
  rw [List.map_append, List.map_cons, List.nodup_append] at h
  obtain ⟨h1, h2, h3⟩ := h
  rw [List.nodup_cons] at h2
  refine ⟨?_, fun q hq => ?_⟩
  ·rw [List.map_append, List.nodup_append]
   exact ⟨h1, h2.2, fun x hx y hy => h3 x hx y (List.mem_cons_of_mem _ hy)⟩
  ·rcases List.mem_append.1 hq with hq | hq
   ·exact h3 _ (List.mem_map.2 ⟨q, hq, rfl⟩) _ (by simp)
   ·intro e
    exact h2.1 (e ▸ List.mem_map.2 ⟨q, hq, rfl⟩)
theorem DInv.passEa (D : DReg P B.N ops e fl aa b g ord) {p : Nat × Nat} (hp : p ∈ ea) (hI : DInv P GL B e fl aa b ord ops.size Kf Pn listed ea pre (p.1 :: rest) τ h a w E A G) :
  ∃ ea' τ' h' E', DInv P GL B e fl aa b ord ops.size Kf Pn listed ea' (p.1 :: pre) rest τ' h' a w E' A G /\ ∀ q ∈ ea, q.1 ≠ p.1 -> q ∈ ea' := by
 have hord := hI.ord
 obtain ⟨l1, l2, rfl⟩ := List.append_of_mem hp
 have hE := hI.ear p hp
 obtain ⟨d, T, zs, cs, he, hb, hone, hcl, htmp⟩ := hE.obj
 obtain ⟨o1, o2, o3, o4, o5⟩ := hE.off
 obtain ⟨n1, n1'⟩ := mC hI.ean.1
 obtain ⟨n2, n2'⟩ := mC hI.ean.2
 have hio : p.1 ∈ ord := by rw [hord]; simp
 have hlt := D.lt hio
 have hal : alE (e p.1) = true := hE.al
 have hgo := hI.go
 simp only [emit, he, quietA] at hgo
 have hgo : opsA GL (AC P GL) (chks e fl b p.1 pre ++ emit e fl b (p.1 :: pre) rest) (aput τ (some d) (.ref h.length 0)) (h ++ [.cells T zs]) Kf Pn := hgo
 have hbl : ∀ j ∈ b p.1, listed.getD j false = true := D.ok.down (L := fun j => listed.getD j false = true) hI.down p.1 hlt (hI.down p.1 hlt hE.lst)
 have hnb : ∀ q ∈ pre, listed.getD q false = false -> q ∉ b p.1 := fun q hqp hql hm => by rw [hbl q hm] at hql; cases hql
 have hfree : ∀ q ∈ pre, listed.getD q false = false -> d ∉ AEnt.names (e q) := by
  intro q hqp hql
  have hpr := gX (by rw [<- hord]; exact D.ok.pairs) hqp (show p.1 ∈ p.1 :: rest by simp)
  rcases (eQ hpr (hI.pend q hqp hql).1).1 with ⟨hm, _⟩ | hd
  ·exact absurd hm (hnb q hqp hql)
  ·exact hd d (by rw [he])
 obtain ⟨hk, hpend⟩ := hI.checked D hnb (fun q hqp hql => (hI.pend q hqp hql).2.put (d := some d) (u := .ref h.length 0) fun i hi => by cases hi; exact hfree q hqp hql) hgo
 have hle := E.le_push p.2 0 undef 0
 have hX := Ext.refl A G w
 have hn := hI.wf.n
 have hWf : Wf GL (E.push p.2 0 undef 0) A G (h ++ [.cells T zs]) w := by
  refine hI.wf.step hle hX (by simp [hn]) hI.wf.a hI.wf.g (fun k => k = h.length) ?_ ?_ ?_ ?_
  ·intro k x hx hk
   rw [List.getElem?_append] at hx
   split at hx
   ·exact ⟨hx, fun b hb => ⟨rfl, fun _ h => h, id⟩⟩
   ·have := (List.getElem?_eq_some_iff.1 hx).1
    simp at this
    exact absurd (by omega) hk
  ·rintro k x hx rfl
   simp at hx
   subst hx
   rw [<- hn]
   exact ⟨cs, by rw [Env.push_blk]; exact hb, hone, hcl _ _ _ _, by rw [Env.push_blk]; exact o2, by rw [Env.push_blk]; exact o3⟩
  ·rintro j k x y b' hx hy rfl hj hk
   simp at hx
   subst hx
   simp only [obk, Option.some.injEq] at hj
   rw [<- hn, Env.push_blk] at hj
   subst hj
   rw [List.getElem?_append] at hy
   split at hy
   ·rename_i hkl
    rw [hle.obk (by omega)] at hk
    exact absurd hk (o5 k y hy)
   ·have := (List.getElem?_eq_some_iff.1 hy).1
    simp at this
    omega
  ·rintro k x b' hx rfl hk
   simp at hx
   subst hx
   simp only [obk, Option.some.injEq] at hk
   rw [<- hn, Env.push_blk] at hk
   subst hk
   exact o4
 refine ⟨l1 ++ l2, aput τ (some d) (.ref h.length 0), h ++ [.cells T zs], E.push p.2 0 undef 0, ⟨hI.toRelM.step hle hX hWf, hI.size, hI.stab, hI.dfs, fun t ht ht2 => ?_, hI.lsz, fun i hi => ?_, hI.down, fun q hqp hql => ?_, by rw [hord]; simp, fun q hq => ?_, ⟨n1, n2⟩, hk⟩, fun q hq hne => ?_⟩
 ·by_cases hdt : d = t
  ·subst hdt
   rw [bU, htmp]
   simp only [Rep]
   rw [<- hn]
   exact ⟨Nat.lt_succ_self _, by rw [Env.push_blk]⟩
  ·rw [bN (fun h => hdt (by simpa using h))]
   refine (hI.tmps t (fun q hqp hql => ht q (List.mem_cons_of_mem _ hqp) hql) fun q hq => ?_).mono hle hX
   rcases List.mem_append.1 hq with hq | hq
   ·exact ht2 q (by simp [hq])
   ·rcases List.mem_cons.1 hq with rfl | hq
    ·rw [he]; simpa using hdt
    ·exact ht2 q (by simp [hq])
 ·rcases hI.lst i hi with h1 | ⟨q, hq, rfl⟩
  ·exact .inl (List.mem_cons_of_mem _ h1)
  ·by_cases hqp : q.1 = p.1
   ·exact .inl (by rw [hqp]; simp)
   ·refine .inr ⟨q, ?_, rfl⟩
    rcases List.mem_append.1 hq with hq | hq
    ·simp [hq]
    ·rcases List.mem_cons.1 hq with rfl | hq
     ·exact absurd rfl hqp
     ·simp [hq]
 ·rcases List.mem_cons.1 hqp with rfl | hqp
  ·rw [hE.lst] at hql; cases hql
  ·exact ⟨(hI.pend q hqp hql).1, hpend q hqp hql⟩
 ·have hq0 : q ∈ l1 ++ p :: l2 := by
   rcases List.mem_append.1 hq with hq | hq <;> simp [hq]
  have := hI.ear q hq0
  obtain ⟨q1, q2, q3, q4, q5⟩ := this.off
  refine ⟨(List.mem_cons.1 this.rest).resolve_left (n1' q hq), this.lst, this.nfl, this.obj, q1, q2, q3, q4, fun k x hx hk => ?_⟩
  rw [List.getElem?_append] at hx
  split at hx
  ·rename_i hkl
   rw [hle.obk (by omega)] at hk
   exact q5 k x hx hk
  ·rename_i hkl
   have hl := (List.getElem?_eq_some_iff.1 hx).1
   simp at hl
   have : k = h.length := by omega
   subst this
   simp at hx
   subst hx
   simp only [obk, Option.some.injEq] at hk
   rw [<- hn, Env.push_blk] at hk
   exact n2' q hq hk.symm
 ·rcases List.mem_append.1 hq with hq | hq
  ·simp [hq]
  ·rcases List.mem_cons.1 hq with rfl | hq
   ·exact absurd rfl hne
   ·simp [hq]
theorem DInv.passAll (D : DReg P B.N ops e fl aa b g ord) : ∀ (l : List Nat) {ea : List (Nat × Nat)} {pre : List Nat} {τ : List (Nat × AV)} {h : List AObj} {E : Env}, DInv P GL B e fl aa b ord ops.size Kf Pn listed ea pre (l ++ rest) τ h a w E A G -> (∀ y ∈ l, fl y = true ∨ ∃ p ∈ ea, p.1 = y) ->
  ∃ ea' τ' h' E', DInv P GL B e fl aa b ord ops.size Kf Pn listed ea' (l.reverse ++ pre) rest τ' h' a w E' A G
 | [], ea, pre, τ, h, E, hI, _ => ⟨ea, τ, h, E, hI⟩
 | y :: l, ea, pre, τ, h, E, hI, hl => by
  have hyn : ∀ z ∈ l, z ≠ y := by
   have := D.ok.nodup
   rw [hI.ord, List.nodup_append] at this
   have := this.2.1
   rw [List.cons_append, List.nodup_cons] at this
   exact fun z hz e => this.1 (by simp [<- e, hz])
  by_cases hy : fl y = true
  ·obtain ⟨τ', h1⟩ := hI.pass D hy
   obtain ⟨ea'', τ'', h'', E'', h2⟩ := DInv.passAll D l h1 fun z hz => hl z (by simp [hz])
   exact ⟨ea'', τ'', h'', E'', by simpa using h2⟩
  ·obtain ⟨p, hp, rfl⟩ := (hl y (by simp)).resolve_left hy
   obtain ⟨ea', τ', h', E', h1, hk⟩ := hI.passEa D hp
   obtain ⟨ea'', τ'', h'', E'', h2⟩ := DInv.passAll D l h1 fun z hz => (hl z (by simp [hz])).imp id fun ⟨q, hq, e⟩ => ⟨q, hk q hq (by rw [e]; exact hyn z hz), e⟩
   exact ⟨ea'', τ'', h'', E'', by simpa using h2⟩
def DInv.ml (e : Nat -> AEnt) (listed : Array Bool) (ea : List (Nat × Nat)) (pre : List Nat) : List (Option Nat) := ((pre.filter fun q => !listed.getD q false).map fun q => (e q).1) ++ ea.map fun p => (e p.1).1
theorem mem_ml {t : Nat} : some t ∈ DInv.ml e listed ea pre ↔ (∃ q ∈ pre, listed.getD q false = false /\ (e q).1 = some t) ∨ ∃ p ∈ ea, (e p.1).1 = some t := by
 simp only [DInv.ml, List.mem_append, List.mem_map, List.mem_filter, Bool.not_eq_true']
 constructor
 ·rintro (⟨q, ⟨h1, h2⟩, h3⟩ | h)
  ·exact .inl ⟨q, h1, h2, h3⟩
  ·exact .inr h
 ·rintro (⟨q, h1, h2, h3⟩ | h)
  ·exact .inl ⟨q, ⟨h1, h2⟩, h3⟩
  ·exact .inr h
theorem DInv.rel (hI : DInv P GL B e fl aa b ord ops.size Kf Pn listed ea pre rest τ h a w E A G) : Rel GL B (maskT (DInv.ml e listed ea pre) τ) h a w E A G := by
 refine ⟨hI.toRelM, hI.size, hI.stab, fun t => ?_, hI.dfs⟩
 by_cases ht : some t ∈ DInv.ml e listed ea pre
 ·rw [iR ht]; simp [Rep]
 ·rw [eP ht]
  exact hI.tmps t (fun q hq hl he => ht (mem_ml.2 (.inl ⟨q, hq, hl, he⟩))) fun p hp he => ht (mem_ml.2 (.inr ⟨p, hp, he⟩))
theorem iA {i j : Nat} (hi : i < listed.size) : (listed.setIfInBounds i true).getD j false = (if i = j then true else listed.getD j false) := by
 by_cases hij : i = j
 ·subst hij; simp [Array.getD_eq_getD_getElem?, hi]
 ·simp [Array.getD_eq_getD_getElem?, hij]
theorem DInv.before (D : DReg P B.N ops e fl aa b g ord) (hI : DInv P GL B e fl aa b ord ops.size Kf Pn listed ea pre rest τ h a w E A G) {i : Nat} (hi : i < ops.size) (hr : ∀ j ∈ aa i, listed.getD j false = true) : ∀ j ∈ b i, listed.getD j false = true :=
 D.ok.down (L := fun j => listed.getD j false = true) hI.down i hi hr
theorem DInv.eaFree (D : DReg P B.N ops e fl aa b g ord) (hI : DInv P GL B e fl aa b ord ops.size Kf Pn listed ea pre rest τ h a w E A G) {i : Nat} {l1 l2 : List Nat} (hl : ord = l1 ++ i :: l2) (hil : listed.getD i false = false) {p : Nat × Nat} (hp : p ∈ ea) (hpl : p.1 ∈ l2) {d : Nat} (hd : (e p.1).1 = some d) : d ∉ AEnt.names (e i) := by
 have hE := hI.ear p hp
 have hlt : p.1 < ops.size := D.lt (by rw [hl]; simp [hpl])
 have hbl : ∀ j ∈ b p.1, listed.getD j false = true := hI.before D hlt (hI.down p.1 hlt hE.lst)
 have hnb : i ∉ b p.1 := fun hm => by rw [hbl i hm] at hil; cases hil
 obtain ⟨m1, m2, hm⟩ := List.append_of_mem hpl
 have hpr := cV D.ok.pairs l1 i m1 p.1 m2 (by rw [hl, hm])
 cases hf : fl i with
 | true =>
  rcases (eQ hpr hf).1 with ⟨h, _⟩ | h
  ·exact absurd h hnb
  ·exact h d hd
 | false =>
  rcases oG hpr hf with h | ⟨_, _, h, _⟩
  ·exact absurd h hnb
  ·exact h d hd
theorem opA_mono' {op : AOp} {K K' : AV -> List AObj -> Prop} (hk : ∀ x h, K x h -> K' x h) (hs : opA GL (AC P GL) op τ h K Pn) : opA GL (AC P GL) op τ h K' Pn :=
 iC AC.mono hk (fun _ _ h => h) hs
theorem EaOk.step {rest' : List Nat} {h' : List AObj} {a' : Act} {w' : World} {E' : Env} {A' : Nat -> Nat -> Prop} {G' : Gd} {p : Nat × Nat} {i : Nat} {dst : Option Nat} (hsz : i < listed.size) (hE : EaOk e fl listed rest h a w E A G p)
  (hr : p.1 ∈ rest') (hb : w'.heap[p.2]? = w.heap[p.2]? /\ HOff h' w' E' A' G' p.2) (ht : ∀ t, dst ≠ some t -> a'.tmps.getD t undef = a.tmps.getD t undef) (hd : (e p.1).1 ≠ dst ∨ dst = none) :
  EaOk e fl (listed.setIfInBounds i true) rest' h' a' w' E' A' G' p := by
 refine ⟨hr, by rw [iA hsz]; split <;> first | rfl | exact hE.lst, hE.nfl, ?_, hb.2⟩
 obtain ⟨d, T, zs, cs, h1, h2, h3, h4, h5⟩ := hE.obj
 refine ⟨d, T, zs, cs, h1, by rw [hb.1]; exact h2, h3, h4, ?_⟩
 rw [ht d (fun e => by
  rcases hd with hd | hd
  ·rw [h1] at hd; exact hd e.symm
  ·rw [hd] at e; cases e)]
 exact h5
theorem DReg.dstNe (D : DReg P B.N ops e fl aa b g ord) {p : Nat × Nat} (hE : EaOk e fl listed rest h a w E A G p) (hp : p.1 < ops.size) {i : Nat} (hi : i < ops.size) (hne : p.1 ≠ i) : (e p.1).1 ≠ (e i).1 ∨ (e i).1 = none := by
 obtain ⟨d, T, zs, cs, h1, _⟩ := hE.obj
 refine .inl fun h2 => D.ok.al p.1 hp hE.al i hi hne d (by rw [h1]) (by rw [<- h2, h1])
theorem DInv.late (D : DReg P B.N ops e fl aa b g ord) (hP : POk GL B Pn Q) (hI : DInv P GL B e fl aa b ord ops.size Kf Pn listed ea pre rest τ h a w E A G) {i : Nat} (hip : i ∈ pre) (hil : listed.getD i false = false) (hr : ∀ j ∈ aa i, listed.getD j false = true)
  {next : Act -> World -> Prop} (hn : ∀ a' w' E' A' G', DInv P GL B e fl aa b ord ops.size Kf Pn (listed.setIfInBounds i true) ea pre rest τ h a' w' E' A' G' -> next a' w') : wpOpIn (FW r) nn P ops Q i next a w := by
 have hord := hI.ord
 have hio : i ∈ ord := by rw [hord]; simp [hip]
 have hi := D.lt hio
 have hb := hI.before D hi hr
 obtain ⟨hfl, hpend⟩ := hI.pend i hip hil
 obtain ⟨hq, hself⟩ := D.ok.quiet i hi hfl
 obtain ⟨o, ho⟩ : ∃ o, ops[i]? = some o := ⟨_, Array.getElem?_eq_getElem hi⟩
 obtain ⟨hd, gd, ao, hg, hc, he⟩ := D.ent i o ho
 rw [he] at hpend hq hself
 simp only at hpend hq hself
 -- of the operation's own names none will be written by another one
 have hfree : ∀ q ∈ pre, listed.getD q false = false -> q ≠ i -> ∀ d, (e q).1 = some d -> d ∉ AEnt.names (o.dst, gd, ao) := by
  intro q hqp hql hqi d hqd
  obtain ⟨l1, l2, hl⟩ := List.append_of_mem hqp
  rw [<- he]
  have hor : ord = l2.reverse ++ q :: (l1.reverse ++ rest) := by rw [hord, hl]; simp
  rw [hl] at hip
  have hqf := (hI.pend q hqp hql).1
  rcases List.mem_append.1 hip with h1 | h1
  ·-- the other one comes first
   obtain ⟨m1, m2, hm⟩ := List.append_of_mem h1
   have hp := cV D.ok.pairs l2.reverse q m2.reverse i (m1.reverse ++ rest) (by rw [hor, hm]; simp)
   rcases (eQ hp hqf).2 with h2 | h2
   ·have := hb q h2; rw [hql] at this; cases this
   ·exact h2 d hqd
  ·rcases List.mem_cons.1 h1 with h1 | h1
   ·exact absurd h1.symm hqi
   ·obtain ⟨m1, m2, hm⟩ := List.append_of_mem h1
    have hp := cV D.ok.pairs m2.reverse i m1.reverse q (l1.reverse ++ rest) (by rw [hor, hm]; simp)
    rcases (eQ hp hfl).1 with ⟨_, h2⟩ | h2
    ·rw [hqf] at h2; cases h2
    ·exact h2 d hqd
 have hfreeE : ∀ p ∈ ea, ∀ d, (e p.1).1 = some d -> d ∉ AEnt.names (o.dst, gd, ao) := by
  intro p hp d hpd
  obtain ⟨l1, l2, hl⟩ := List.append_of_mem hip
  rw [<- he]
  exact hI.eaFree D (l1 := l2.reverse) (l2 := l1.reverse ++ rest) (by rw [hord, hl]; simp) hil hp (List.mem_append_right _ (hI.ear p hp).rest) hpd
 have hunm : ∀ t ∈ gdT gd ++ ao.tmps, tget τ t = tget (maskT (DInv.ml e listed ea pre) τ) t := by
  intro t ht
  have hnm : t ∈ AEnt.names (o.dst, gd, ao) := mem_names.2 (.inr (List.mem_append.1 ht))
  refine (eP fun hm => ?_).symm
  rcases mem_ml.1 hm with ⟨q, hqp, hql, hqd⟩ | ⟨p, hp, hpd⟩
  ·by_cases hqi : q = i
   ·subst hqi
    rw [he] at hqd
    exact hself t hqd ht
   ·exact hfree q hqp hql hqi t hqd hnm
  ·exact hfreeE p hp t hpd hnm
 obtain ⟨v, hv1, hv2⟩ := hpend
 simp only at hv1 hv2
 unfold wpOpIn
 simp only [ho]
 refine ent_off (fun b => ∃ p ∈ ea, p.2 = b) (by rintro b ⟨p, hp, rfl⟩; exact (hI.ear p hp).off) (K := fun τ'' h'' => τ'' = aput (maskT (DInv.ml e listed ea pre) τ) o.dst v /\ h'' = h) hd hg hc hI.rel ?_ hP ?_
 ·have hyl : Yl GL ao τ h v -> opA GL (AC P GL) ao (maskT (DInv.ml e listed ea pre) τ) h (fun x h' => aput (maskT (DInv.ml e listed ea pre) τ) o.dst x = aput (maskT (DInv.ml e listed ea pre) τ) o.dst v /\ h' = h) Pn := fun hy => by
   rw [iE hq]
   exact (hy.congr (gG fun t ht => hunm t (List.mem_append_right _ ht))) _ ⟨rfl, rfl⟩
  cases gd with
  | none => exact hyl hv2
  | some p =>
   obtain ⟨j, c⟩ := p
   obtain ⟨t, ht, h1, h2⟩ := hv2
   simp only
   rw [<- hunm j (by simp [gdT]), ht]
   refine ⟨fun h => hyl (h1 h), fun h => ?_⟩
   rw [h2 h]
   exact ⟨rfl, trivial⟩
 ·rintro τ' h' a' w' E' A' G' hR ⟨rfl, rfl⟩ hoff htm
  have hset := fun j => iA (i := i) (j := j) (listed := listed) (by rw [hI.lsz]; exact hi)
  refine hn a' w' E' A' G' ⟨hR.toRelM, hR.size, hR.stab, hR.dfs, fun t ht ht2 => ?_, by simp [hI.lsz], fun j hj => ?_, fun k hk hkl j hj => ?_, fun q hqp hql => ?_, hord, fun p hp => ?_, hI.ean, hI.go⟩
  ·have := hR.tmps t
   by_cases hdt : o.dst = some t
   ·rw [hdt, bU] at this
    rw [hv1 t hdt]; exact this
   ·rw [bN hdt] at this
    rwa [eP] at this
    intro hm
    rcases mem_ml.1 hm with ⟨q, hqp, hql, hqd⟩ | ⟨p, hp, hpd⟩
    ·by_cases hqi : q = i
     ·subst hqi
      rw [he] at hqd
      exact hdt hqd
     ·refine ht q hqp ?_ hqd
      rw [hset, if_neg (fun h => hqi h.symm)]; exact hql
    ·exact ht2 p hp hpd
  ·rw [hset] at hj
   split at hj
   ·rename_i hij; subst hij; exact .inl hip
   ·exact hI.lst j hj
  ·rw [hset] at hkl ⊢
   split
   ·rfl
   ·split at hkl
    ·rename_i hik; subst hik; exact hr j hj
    ·exact hI.down k hk hkl j hj
  ·rw [hset] at hql
   split at hql
   ·cases hql
   ·exact hI.pend q hqp hql
  ·have hE := hI.ear p hp
   have hpo : p.1 ∈ ord := by rw [hord]; simp [hE.rest]
   have := D.dstNe hE (D.lt hpo) hi (fun e => hI.notin D hE.rest (by rw [e]; exact hip))
   rw [he] at this
   exact hE.step (by rw [hI.lsz]; exact hi) hE.rest (hoff p.2 ⟨p, hp, rfl⟩) htm this
theorem DInv.next (D : DReg P B.N ops e fl aa b g ord) (hP : POk GL B Pn Q) {i : Nat} (hI : DInv P GL B e fl aa b ord ops.size Kf Pn listed ea pre (i :: rest) τ h a w E A G) (hfi : fl i = false) (hil : listed.getD i false = false) (hr : ∀ j ∈ aa i, listed.getD j false = true)
  {next : Act -> World -> Prop} (hn : ∀ τ' h' a' w' E' A' G', DInv P GL B e fl aa b ord ops.size Kf Pn (listed.setIfInBounds i true) ea (i :: pre) rest τ' h' a' w' E' A' G' -> next a' w') : wpOpIn (FW r) nn P ops Q i next a w := by
 have hord := hI.ord
 have hio : i ∈ ord := by rw [hord]; simp
 have hi := D.lt hio
 have hb := hI.before D hi hr
 obtain ⟨o, ho⟩ : ∃ o, ops[i]? = some o := ⟨_, Array.getElem?_eq_getElem hi⟩
 obtain ⟨hd, gd, ao, hg, hc, he⟩ := D.ent i o ho
 have hpair : ∀ q ∈ pre, listed.getD q false = false -> q ∉ b i /\ (∀ d, o.dst = some d -> d ∉ AEnt.names (e q)) /\ ∀ d, (e q).1 = some d -> d ∉ AEnt.names (o.dst, gd, ao) := by
  intro q hqp hql
  have hnb : q ∉ b i := fun hm => by have := hb q hm; rw [hql] at this; cases this
  have hp := gX (by rw [<- hord]; exact D.ok.pairs) hqp (show i ∈ i :: rest by simp)
  have := eQ hp (hI.pend q hqp hql).1
  rw [he] at this
  exact ⟨hnb, this.1.resolve_left fun h => hnb h.1, this.2.resolve_left hnb⟩
 have hear : ∀ p ∈ ea, p.1 ∈ rest := fun p hp => by
  have hE := hI.ear p hp
  refine (List.mem_cons.1 hE.rest).resolve_left fun e => ?_
  have := hE.lst
  rw [e, hil] at this; cases this
 have hfreeE : ∀ p ∈ ea, ∀ d, (e p.1).1 = some d -> d ∉ AEnt.names (o.dst, gd, ao) := by
  intro p hp d hpd
  rw [<- he]
  exact hI.eaFree D (l1 := pre.reverse) (l2 := rest) hord hil hp (hear p hp) hpd
 have hunm : ∀ t ∈ gdT gd ++ ao.tmps, tget τ t = tget (maskT (DInv.ml e listed ea pre) τ) t := by
  intro t ht
  have hnm : t ∈ AEnt.names (o.dst, gd, ao) := mem_names.2 (.inr (List.mem_append.1 ht))
  refine (eP fun hm => ?_).symm
  rcases mem_ml.1 hm with ⟨q, hqp, hql, hqd⟩ | ⟨p, hp, hpd⟩
  ·exact (hpair q hqp hql).2.2 t hqd hnm
  ·exact hfreeE p hp t hpd hnm
 have hgo := hI.go
 simp only [emit, he] at hgo
 unfold wpOpIn
 simp only [ho]
 refine ent_off (fun b => ∃ p ∈ ea, p.2 = b) (by rintro b ⟨p, hp, rfl⟩; exact (hI.ear p hp).off) (K := fun τ'' h'' => ∃ x, τ'' = aput (maskT (DInv.ml e listed ea pre) τ) o.dst x /\ (quietA ao = true -> h'' = h) /\
  opsA GL (AC P GL) ((match quietA ao with | true => [] | false => chks e fl b i pre) ++ emit e fl b (i :: pre) rest) (aput τ o.dst x) h'' Kf Pn) hd hg hc hI.rel ?_ hP ?_
 ·have run : opA GL (AC P GL) ao τ h (fun x h' => opsA GL (AC P GL) ((match quietA ao with | true => [] | false => chks e fl b i pre) ++ emit e fl b (i :: pre) rest) (aput τ o.dst x) h' Kf Pn) Pn ->
    opA GL (AC P GL) ao (maskT (DInv.ml e listed ea pre) τ) h (fun x h' => ∃ x', aput (maskT (DInv.ml e listed ea pre) τ) o.dst x = aput (maskT (DInv.ml e listed ea pre) τ) o.dst x' /\ (quietA ao = true -> h' = h) /\
     opsA GL (AC P GL) ((match quietA ao with | true => [] | false => chks e fl b i pre) ++ emit e fl b (i :: pre) rest) (aput τ o.dst x') h' Kf Pn) Pn := by
   intro hs
   rw [opA_congr (fun d x e => hc.elim (fun h => h.chk d x e) (fun h => by rw [h] at e; cases e)) (gG fun t ht => hunm t (List.mem_append_right _ ht))] at hs
   cases hq : quietA ao with
   | true =>
    rw [hq] at hs
    rw [iE hq] at hs ⊢
    obtain ⟨x, hx, hyl⟩ := eW hq hs
    exact hyl _ ⟨x, rfl, fun _ => rfl, hx⟩
   | false =>
    rw [hq] at hs
    exact opA_mono' (fun x h' hx => ⟨x, rfl, fun h => (by cases h), hx⟩) hs
  cases gd with
  | none =>
   simp only [opsA] at hgo
   exact run hgo
  | some p =>
   obtain ⟨j, c⟩ := p
   simp only [opsA] at hgo
   simp only
   rw [<- hunm j (by simp [gdT])]
   split at hgo
   ·rename_i t ht
    rw [ht]
    exact ⟨fun h => run (hgo.1 h), fun h => ⟨_, rfl, fun _ => trivial, hgo.2 h⟩⟩
   ·exact hgo.elim
 ·rintro τ' h' a' w' E' A' G' hR ⟨x, rfl, hquiet, hk⟩ hoff htm
  have hset := fun j => iA (i := i) (j := j) (listed := listed) (by rw [hI.lsz]; exact hi)
  -- the checks
  have hk2 : opsA GL (AC P GL) (emit e fl b (i :: pre) rest) (aput τ o.dst x) h' Kf Pn /\ ∀ q ∈ pre, listed.getD q false = false -> PendOk GL (e q) (aput τ o.dst x) h' := by
   have hput : ∀ q ∈ pre, listed.getD q false = false -> PendOk GL (e q) (aput τ o.dst x) h := fun q hqp hql => (hI.pend q hqp hql).2.put (hpair q hqp hql).2.1
   cases hq : quietA ao with
   | true =>
    rw [hq] at hk
    refine ⟨hk, fun q hqp hql => ?_⟩
    rw [hquiet hq]
    exact hput q hqp hql
   | false =>
    rw [hq] at hk
    exact hI.checked D (fun q hqp hql => (hpair q hqp hql).1) hput hk
  refine hn _ h' a' w' E' A' G' ⟨hR.toRelM, hR.size, hR.stab, hR.dfs, fun t ht ht2 => ?_, by simp [hI.lsz], fun j hj => ?_, fun k hk' hkl j hj => ?_, fun q hqp hql => ?_, by rw [hord]; simp, fun p hp => ?_, hI.ean, hk2.1⟩
  ·have := hR.tmps t
   by_cases hdt : o.dst = some t
   ·rw [hdt, bU] at this
    rw [hdt, bU]; exact this
   ·rw [bN hdt] at this
    rw [bN hdt]
    rwa [eP] at this
    intro hm
    rcases mem_ml.1 hm with ⟨q, hqp, hql, hqd⟩ | ⟨p, hp, hpd⟩
    ·refine ht q (List.mem_cons_of_mem _ hqp) ?_ hqd
     rw [hset, if_neg (fun h => ?_)]
     ·exact hql
     ·subst h
      exact hI.notin D (by simp) hqp
    ·exact ht2 p hp hpd
  ·rw [hset] at hj
   split at hj
   ·rename_i hij; subst hij; simp
   ·exact (hI.lst j hj).imp (List.mem_cons_of_mem _) id
  ·rw [hset] at hkl ⊢
   split
   ·rfl
   ·split at hkl
    ·rename_i hik; subst hik; exact hr j hj
    ·exact hI.down k hk' hkl j hj
  ·rw [hset] at hql
   split at hql
   ·cases hql
   ·rename_i hne
    rcases List.mem_cons.1 hqp with rfl | hqp
    ·exact absurd rfl hne
    ·exact ⟨(hI.pend q hqp hql).1, hk2.2 q hqp hql⟩
  ·have hE := hI.ear p hp
   have hpr := hear p hp
   have hpo : p.1 ∈ ord := by rw [hord]; simp [hpr]
   have := D.dstNe hE (D.lt hpo) hi (fun e => by have := hE.lst; rw [e, hil] at this; cases this)
   rw [he] at this
   exact hE.step (by rw [hI.lsz]; exact hi) hpr (hoff p.2 ⟨p, hp, rfl⟩) htm this
theorem DInv.early (D : DReg P B.N ops e fl aa b g ord) {i : Nat} (hI : DInv P GL B e fl aa b ord ops.size Kf Pn listed ea pre rest τ h a w E A G) (hir : i ∈ rest) (hfi : fl i = false) (hal : alE (e i) = true) (hil : listed.getD i false = false) (hr : ∀ j ∈ aa i, listed.getD j false = true)
  {next : Act -> World -> Prop} (hn : ∀ ea' a' w', DInv P GL B e fl aa b ord ops.size Kf Pn (listed.setIfInBounds i true) ea' pre rest τ h a' w' E A G -> next a' w') : wpOpIn (FW r) nn P ops Q i next a w := by
 have hord := hI.ord
 have hio : i ∈ ord := by rw [hord]; simp [hir]
 have hi := D.lt hio
 obtain ⟨o, ho⟩ : ∃ o, ops[i]? = some o := ⟨_, Array.getElem?_eq_getElem hi⟩
 obtain ⟨hd, gd, ao, hg, hc, he⟩ := D.ent i o ho
 obtain ⟨d, T, zs, hae⟩ : ∃ d T zs, e i = (some d, none, .alloc T zs) := by
  unfold alE at hal
  split at hal
  ·rename_i d T zs h; exact ⟨d, T, zs, h⟩
  ·cases hal
 have hae' := hae
 rw [he] at hae'
 simp only [Prod.mk.injEq] at hae'
 obtain ⟨hdd, rfl, rfl⟩ := hae'
 have hc := hc.resolve_right (by intro h; cases h)
 have hisz : i < listed.size := by rw [hI.lsz]; exact hi
 have hset := fun j => iA (i := i) (j := j) (listed := listed) hisz
 have hne : ∀ p ∈ ea, p.1 ≠ i := fun p hp e => by have := (hI.ear p hp).lst; rw [e, hil] at this; cases this
 unfold wpOpIn
 simp only [ho]
 refine alloc_in hd hg hc hI.rel fun cs hR hone hcl hX => ?_
 have hput : ∀ t v, o.dst ≠ some t -> (a.put o.dst v).tmps.getD t undef = a.tmps.getD t undef := by
  intro t v ht
  rw [hdd] at ht ⊢
  rw [fR (fun k hk => by
   cases hk
   rw [hdd] at hd
   simp only [dstOk, Bool.and_eq_true] at hd
   exact Nat.lt_of_lt_of_le (Nat.le_of_ble_eq_true hd.1) hI.size), if_neg ht]
 have hself : ∀ v, (a.put o.dst v).tmps.getD d undef = v := by
  intro v
  rw [hdd, fR (fun k hk => by
   cases hk
   rw [hdd] at hd
   simp only [dstOk, Bool.and_eq_true] at hd
   exact Nat.lt_of_lt_of_le (Nat.le_of_ble_eq_true hd.1) hI.size), if_pos rfl]
 refine hn ((i, w.heap.size) :: ea) _ _ ⟨hR.toRelM, hR.size, hR.stab, hR.dfs, fun t ht ht2 => ?_, by simp [hI.lsz], fun j hj => ?_, fun k hk hkl j hj => ?_, fun q hqp hql => ?_, hord, fun p hp => ?_, ?_, hI.go⟩
 ·have h1 : (e i).1 ≠ some t := ht2 (i, w.heap.size) (by simp)
  rw [he] at h1
  rw [hput t _ h1]
  refine (hI.tmps t (fun q hq hl => ?_) fun p hp => ht2 p (by simp [hp])).mono E.le_refl hX
  refine ht q hq ?_
  rw [hset, if_neg (fun e => ?_)]
  ·exact hl
  ·subst e; exact hI.notin D hir hq
 ·rw [hset] at hj
  split at hj
  ·rename_i hij; subst hij; exact .inr ⟨(i, w.heap.size), List.mem_cons_self, rfl⟩
  ·exact (hI.lst j hj).imp id fun ⟨p, hp, h⟩ => ⟨p, by simp [hp], h⟩
 ·rw [hset] at hkl ⊢
  split
  ·rfl
  ·split at hkl
   ·rename_i hik; subst hik; exact hr j hj
   ·exact hI.down k hk hkl j hj
 ·rw [hset] at hql
  split at hql
  ·cases hql
  ·exact hI.pend q hqp hql
 ·rcases List.mem_cons.1 hp with rfl | hp
  ·refine ⟨hir, by rw [hset, if_pos rfl], hfi, ⟨d, T, zs, cs, hae, heap_alloc_new w _, hone, hcl, hself _⟩, by simp, fun o ho => ?_, fun hg => ?_, fun hh => ?_, fun k x hx hk => ?_⟩
   ·have := hI.wf.a_lt ho; omega
   ·have := hI.wf.g _ hg; omega
   ·have := hI.wf.hf _ hh; omega
   ·have := cJ (hI.wf.o k x hx) hk; omega
  ·have hE := hI.ear p hp
   have hpo : p.1 ∈ ord := by rw [hord]; simp [hE.rest]
   have hdn := D.dstNe hE (D.lt hpo) hi (hne p hp)
   rw [he] at hdn
   obtain ⟨q1, q2, q3, q4, q5⟩ := hE.off
   exact hE.step hisz hE.rest ⟨heap_alloc_old w _ p.2 q1, Nat.lt_of_lt_of_le q1 hX.size, q2, q3, q4, q5⟩ (fun t ht => hput t _ ht) hdn
 ·refine ⟨?_, ?_⟩
  ·rw [List.map_cons, List.nodup_cons]
   refine ⟨fun hm => ?_, hI.ean.1⟩
   obtain ⟨p, hp, e⟩ := List.mem_map.1 hm
   exact hne p hp e
  ·rw [List.map_cons, List.nodup_cons]
   refine ⟨fun hm => ?_, hI.ean.2⟩
   obtain ⟨p, hp, e⟩ := List.mem_map.1 hm
   have := (hI.ear p hp).off.1
   simp only at e
   omega
end
theorem pM {md : Region.Mode} {x : Edge} (h : Region.binds .any x = true) : Region.binds md x = true := by
 unfold Region.binds at h ⊢
 cases hg : x.ground <;> simp_all
def countF : List Bool -> Nat
 | [] => 0
 | false :: r => countF r + 1
 | true :: r => countF r
theorem jC : ∀ {l : List Bool} {i : Nat}, l[i]? = some false -> countF (l.set i true) + 1 = countF l
 | [], i, h => by simp at h
 | x :: r, 0, h => by simp at h; subst h; simp [countF]
 | x :: r, i + 1, h => by
  have := jC (l := r) (i := i) (by simpa using h)
  cases x <;> simp only [List.set_cons_succ, countF] <;> omega
theorem jA : ∀ {l : List Bool} {i : Nat}, l[i]? = some false -> 0 < countF l
 | [], i, h => by simp at h
 | x :: r, 0, h => by simp at h; subst h; simp [countF]
 | x :: r, i + 1, h => by
  have := jA (l := r) (i := i) (by simpa using h)
  cases x <;> simp only [countF] <;> omega
section
variable {P : Program} {GL : Glob} {B : Base} {ops : Array Oper} {e : Nat -> AEnt} {fl : Nat -> Bool} {aa b : Nat -> List Nat} {g : Nat -> Option Nat} {ord : List Nat} {Qa : Post} {Pn : AV -> List AObj -> Prop} {Q : Exit -> Act -> World -> Prop} {r : Option Nat} {nn : Nat} {md : Region.Mode}
theorem draw_any (D : DReg P B.N ops e fl aa b g ord) (hP : POk GL B Pn Q) (hQ : QOk GL B Qa Q) (hm : modeOk ops.toList ops.size md = true) : ∀ (fuel : Nat) (listed : Array Bool) (ea : List (Nat × Nat)) (pre rest : List Nat) (τ : List (Nat × AV)) (h : List AObj) (a : Act) (w : World) (E : Env) (A : Nat -> Nat -> Prop) (G : Gd),
  DInv P GL B e fl aa b ord ops.size (Qa .normal) Pn listed ea pre rest τ h a w E A G -> countF listed.toList <= fuel -> wpAnyIn (FW r) nn P md ops Q fuel listed a w := by
 have done : ∀ (listed : Array Bool) (ea : List (Nat × Nat)) (pre rest : List Nat) (τ : List (Nat × AV)) (h : List AObj) (a : Act) (w : World) (E : Env) (A : Nat -> Nat -> Prop) (G : Gd),
   DInv P GL B e fl aa b ord ops.size (Qa .normal) Pn listed ea pre rest τ h a w E A G -> Region.ready md ops listed = [] -> Q .normal a w := by
  intro listed ea pre rest τ h a w E A G hI hr
  have hall := pY hm hI.lsz hr
  obtain ⟨ea', τ', h', E', hI'⟩ := DInv.passAll (rest := []) D rest (by rw [List.append_nil]; exact hI) fun y hy => by
   have hyl := hall y (D.lt (by rw [hI.ord]; simp [hy]))
   exact .inr ((hI.lst y hyl).resolve_left (hI.notin D hy))
  have hgo := hI'.go
  simp only [emit, opsA] at hgo
  refine hQ .normal τ' h' a w E' A G ⟨hI'.toRelM, hI'.size, hI'.stab, fun t => hI'.tmps t (fun q hq hl => ?_) fun p hp => ?_, hI'.dfs⟩ hgo
  ·have := hall q (D.lt (by rw [hI'.ord, List.append_nil]; exact List.mem_reverse.2 hq))
   rw [this] at hl; cases hl
  ·have := (hI'.ear p hp).rest
   cases this
 intro fuel
 induction fuel with
 | zero =>
  intro listed ea pre rest τ h a w E A G hI hc
  have hr : Region.ready md ops listed = [] := by
   rw [List.eq_nil_iff_forall_not_mem]
   intro i hi
   rw [mem_ready] at hi
   obtain ⟨hl, o, ho, _⟩ := hi
   have hlt : i < listed.size := by rw [hI.lsz]; exact (Array.getElem?_eq_some_iff.1 ho).1
   have : listed.toList[i]? = some false := by
    rw [Array.getD_eq_getD_getElem?, Array.getElem?_eq_getElem hlt] at hl
    simp only [Option.getD_some] at hl
    rw [Array.getElem?_toList, Array.getElem?_eq_getElem hlt, hl]
   have := jA this
   omega
  exact ⟨hr, done listed ea pre rest τ h a w E A G hI hr⟩
 | succ fuel ih =>
  intro listed ea pre rest τ h a w E A G hI hc
  refine ⟨done listed ea pre rest τ h a w E A G hI, fun i hi => ?_⟩
  rw [mem_ready] at hi
  obtain ⟨hl, o, ho, hall⟩ := hi
  have hlt : i < ops.size := (Array.getElem?_eq_some_iff.1 ho).1
  have hlt' : i < listed.size := by rw [hI.lsz]; exact hlt
  have hlf : listed.getD i false = false := by
   rw [Array.getD_eq_getD_getElem?, Array.getElem?_eq_getElem hlt'] at hl ⊢
   exact hl
  have hcount : countF (listed.setIfInBounds i true).toList <= fuel := by
   have : listed.toList[i]? = some false := by
    rw [Array.getD_eq_getD_getElem?, Array.getElem?_eq_getElem hlt'] at hl
    simp only [Option.getD_some] at hl
    rw [Array.getElem?_toList, Array.getElem?_eq_getElem hlt', hl]
   have := jC this
   rw [Array.toList_setIfInBounds]
   omega
  have hr : ∀ j ∈ aa i, listed.getD j false = true := fun j hj => by
   obtain ⟨x, hx, hb, rfl⟩ := (D.aft i o ho j).1 hj
   exact hall x hx (pM hb)
  have late : ∀ {ea pre rest τ h E}, DInv P GL B e fl aa b ord ops.size (Qa .normal) Pn listed ea pre rest τ h a w E A G -> i ∈ pre -> wpOpIn (FW r) nn P ops Q i (wpAnyIn (FW r) nn P md ops Q fuel (listed.setIfInBounds i true)) a w := fun hI hip =>
   hI.late D hP hip hlf hr fun a' w' E' A' G' hI' => ih _ _ _ _ _ _ _ _ _ _ _ hI' hcount
  by_cases hip : i ∈ pre
  ·exact late hI hip
  ·have hir : i ∈ rest := by
    have := D.ok.all i hlt
    rw [hI.ord] at this
    rcases List.mem_append.1 this with h1 | h1
    ·exact absurd (List.mem_reverse.1 h1) hip
    ·exact h1
   by_cases hal : fl i = false /\ alE (e i) = true
   ·exact hI.early D hir hal.1 hal.2 hlf hr fun ea' a' w' hI' => ih _ _ _ _ _ _ _ _ _ _ _ hI' hcount
   obtain ⟨l1, l2, hrs⟩ := List.append_of_mem hir
   subst hrs
   have hb := hI.before D hlt hr
   have hfree : ∀ y ∈ l1, fl y = true ∨ ∃ p ∈ ea, p.1 = y := by
    intro y hy
    cases hf : fl y with
    | true => exact .inl rfl
    | false =>
     right
     obtain ⟨m1, m2, hm⟩ := List.append_of_mem hy
     have hp := cV D.ok.pairs (pre.reverse ++ m1) y m2 i l2 (by rw [hI.ord, hm]; simp)
     rcases oG hp hf with hyb | ⟨h1, h2, _⟩
     ·have hyl := hb y hyb
      exact (hI.lst y hyl).resolve_left (hI.notin D (by simp [hy]))
     ·exact absurd ⟨h1, h2⟩ hal
   obtain ⟨ea', τ', h', E', hI'⟩ := DInv.passAll D l1 hI hfree
   cases hfi : fl i with
   | true =>
    obtain ⟨τ'', hI''⟩ := hI'.pass D hfi
    exact late hI'' (by simp)
   | false => exact hI'.next D hP hfi hlf hr fun τ' h' a' w' E' A' G' hI'' => ih _ _ _ _ _ _ _ _ _ _ _ hI'' hcount
theorem DInv.drawn {n : Nat} {Kf : List (Nat × AV) -> List AObj -> Prop} {E : Env} {A : Nat -> Nat -> Prop} {G : Gd} {h : List AObj} {w : World} {τ : List (Nat × AV)} {a : Act} {listed : Array Bool} {ea : List (Nat × Nat)} {pre rest : List Nat}
  (hI : DInv P GL B e fl aa b ord n Kf Pn listed ea pre rest τ h a w E A G) : DInv P GL B e fl aa b ord n Kf Pn listed ea pre rest τ h a { w with drawn := w.drawn + 1 } E A G :=
 ⟨hI.toRelM.step E.le_refl Ext.drawn hI.wf.drawn, hI.size, hI.stab, hI.dfs.mono (Ext.drawn (A := A)), fun t ht ht2 => Rep.mono E.le_refl Ext.drawn _ _ (hI.tmps t ht ht2), hI.lsz, hI.lst, hI.down, hI.pend, hI.ord, fun p hp => let he := hI.ear p hp; ⟨he.rest, he.lst, he.nfl, he.obj, he.off⟩, hI.ean, hI.go⟩
theorem DInv.start {Kf : List (Nat × AV) -> List AObj -> Prop} {E : Env} {A : Nat -> Nat -> Prop} {G : Gd} {h : List AObj} {w : World} {τ : List (Nat × AV)} {a : Act} (_D : DReg P B.N ops e fl aa b g ord) (hR : Rel GL B τ h a w E A G)
  (hs : opsA GL (AC P GL) (emit e fl b [] ord) τ h Kf Pn) : DInv P GL B e fl aa b ord ops.size Kf Pn (Array.replicate ops.size false) [] [] ord τ h a w E A G :=
 ⟨hR.toRelM, hR.size, hR.stab, hR.dfs, fun t _ _ => hR.tmps t, by simp, fun i hi => by simp [Array.getD_eq_getD_getElem?, Array.getElem?_replicate] at hi; split at hi <;> simp at hi, fun i hi hl => by simp [Array.getD_eq_getD_getElem?, hi] at hl, fun q hq => (by cases hq), rfl, fun p hp => (by cases hp), ⟨List.nodup_nil, List.nodup_nil⟩, hs⟩
theorem mS (hmo : modesOk (P.follows .mixedOrders) ops.toList ops.size = true) {a : Act} {w : World}
  (go : ∀ md, modeOk ops.toList ops.size md = true -> ∀ t, wpOpsIn (FW r) nn P ops Q (Region.linearise md ops t) a w) (t : Nat) : wpOpsIn (FW r) nn P ops Q (Region.schedule (P.follows .mixedOrders) ops t) a w := by
 have hdep : Region.departs ops = !allBind ops.toList := by
  have : ∀ x : Bool, (x = true ↔ Region.departs ops = true) -> Region.departs ops = x := fun x h => by
   cases x <;> cases hd : Region.departs ops <;> simp_all
  refine this _ ?_
  simp only [Region.departs, allBind, Bool.not_eq_true']
  rw [<- Array.any_toList, List.any_eq_true, <- Bool.not_eq_true, List.all_eq_true]
  constructor
  ·intro h
   apply Classical.byContradiction
   intro hn
   apply h
   intro o ho
   rw [List.all_eq_true]
   intro x hx
   cases hb : Region.binds .any x with
   | true => rfl
   | false =>
    exact absurd ⟨o, ho, by rw [<- Array.any_toList, List.any_eq_true]; exact ⟨x, hx, by simp [hb]⟩⟩ hn
  ·rintro ⟨o, ho, h⟩ hall
   rw [<- Array.any_toList, List.any_eq_true] at h
   obtain ⟨x, hx, h⟩ := h
   have := hall o ho
   rw [List.all_eq_true] at this
   have := this x hx
   rw [this] at h
   simp at h
 unfold modesOk at hmo
 unfold Region.schedule
 rw [hdep]
 cases hx : (P.follows .mixedOrders || allBind ops.toList) with
 | true =>
  rw [hx] at hmo
  rw [Bool.not_not, hx, if_pos rfl]
  exact go _ hmo t
 | false =>
  rw [hx] at hmo
  simp only [Bool.and_eq_true] at hmo
  rw [Bool.not_not, hx, if_neg (by simp)]
  split
  ·exact go _ hmo.1 _
  ·exact go _ hmo.2 _
theorem sT {E : Env} {A : Nat -> Nat -> Prop} {G : Gd} {h : List AObj} {w : World} {τ : List (Nat × AV)} {a : Act} {id : Nat} {es : List AEnt} {El : List AEnt} (hE : El.length = ops.size /\ ∀ (i : Nat) (o : Oper), ops[i]? = some o -> dstOk B.N o.dst = true /\ ∃ (g : Option (Nat × Bool)) (ao : AOp), compGuard ops o.guard = some g /\ (CompOk P o ao ∨ ao = .bad) /\ El[i]? = some (o.dst, g, ao))
  (hc : compDrawE P ops El = some es) (hP : POk GL B Pn Q) (hQ : QOk GL B Qa Q)
  (hR : Rel GL B τ h a w E A G) (hs : opsA GL (AC P GL) es τ h (Qa .normal) Pn) : (Code.region id ops true).wpIn (FW r) nn P Q a w := by
 ·unfold compDrawE at hc
  dsimp only at hc
  split at hc
  ·rename_i hok
   simp only [Option.some.injEq] at hc
   subst hc
   rw [Bool.and_eq_true] at hok
   obtain ⟨h1, h2⟩ := hE
   rw [h1] at hok hs
   have D : DReg P B.N ops (entAt El) _ _ _ _ _ := ⟨sW hok.1, fun i o ho => by
    obtain ⟨g1, gd, ao, g2, g3, g4⟩ := h2 i o ho
    exact ⟨g1, gd, ao, g2, g3, by simp [entAt, List.getD, g4]⟩, fun i o ho j => lY (md := .any) ho j⟩
   have hI := DInv.start D hR hs
   refine wpIn_region_draw fun t => ?_
   have hI' := hI.drawn
   have go : ∀ md, modeOk ops.toList ops.size md = true -> ∀ t, wpOpsIn (FW r) nn P ops Q (Region.linearise md ops t) a { w with drawn := w.drawn + 1 } := fun md hm t => by
    refine wpAnyIn_sound ops.size t _ a _ (draw_any D hP hQ hm ops.size _ _ _ _ _ _ _ _ _ _ _ hI' ?_)
    have : ∀ n, countF (List.replicate n false) = n := fun n => by
     induction n with
     | zero => rfl
     | succ n ih => simp only [List.replicate_succ, countF, ih]
    simp [this]
   exact mS hok.2 go t
  ·cases hc
theorem draw_in {E : Env} {A : Nat -> Nat -> Prop} {G : Gd} {h : List AObj} {w : World} {τ : List (Nat × AV)} {a : Act} {id : Nat} {es : List AEnt} (hc : compDraw P B.N ops = some es) (hP : POk GL B Pn Q) (hQ : QOk GL B Qa Q)
  (hR : Rel GL B τ h a w E A G) (hs : opsA GL (AC P GL) es τ h (Qa .normal) Pn) : (Code.region id ops true).wpIn (FW r) nn P Q a w := by
 unfold compDraw at hc
 split at hc
 ·cases hc
 ·rename_i El hE
  obtain ⟨h1, h2⟩ := gT hE
  have h1 : El.length = ops.size := by simpa using h1
  split at hc
  ·rename_i es' hes
   cases hc
   refine sT (El := El) ⟨h1, fun i o ho => ?_⟩ hes hP hQ hR hs
   obtain ⟨g1, gd, g2, g4⟩ := h2 i o (by simpa using ho)
   exact ⟨g1, gd, _, g2, eK o, g4⟩
  ·refine sT ⟨by simpa using h1, fun i o ho => ?_⟩ hc hP hQ hR hs
   obtain ⟨g1, gd, g2, g4⟩ := h2 i o (by simpa using ho)
   exact ⟨g1, gd, _, g2, uC o, by simp [g4]⟩
theorem drawn_any {E0 : List AEnt} (hlen : E0.length = ops.size) (hE : ∀ (i : Nat) (o : Oper), ops[i]? = some o -> dstOk B.N o.dst = true /\ ∃ (g : Option (Nat × Bool)), compGuard ops o.guard = some g /\ E0[i]? = some (o.dst, g, compOpB P o))
  {es : List (AEnt × List Nat)} (hes : es = E0.zip (ops.toList.map (afterIn .any))) (hP : POk GL B Pn Q) (hQ : QOk GL B Qa Q) (hm : modeOk ops.toList ops.size md = true) {J : List Nat -> List (Nat × AV) -> List AObj -> Prop}
  (hstep : ∀ l τ h i e, J l τ h -> es[i]? = some e -> i ∉ l -> (∀ j ∈ e.2, j ∈ l) -> opsA GL (AC P GL) [e.1] τ h (J (i :: l)) Pn) (hend : ∀ l τ h, J l τ h -> (∀ i, i < es.length -> i ∈ l) -> Qa .normal τ h) :
  ∀ (fuel : Nat) (listed : Array Bool) (l : List Nat) (τ : List (Nat × AV)) (h : List AObj) (a : Act) (w : World) (E : Env) (A : Nat -> Nat -> Prop) (G : Gd),
   Rel GL B τ h a w E A G -> J l τ h -> listed.size = ops.size -> (∀ i, i < ops.size -> (listed.getD i false = true ↔ i ∈ l)) -> countF listed.toList <= fuel -> wpAnyIn (FW r) nn P md ops Q fuel listed a w := by
 have hesl : es.length = ops.size := by simp [hes, hlen]
 have done : ∀ (listed : Array Bool) (l : List Nat) (τ : List (Nat × AV)) (h : List AObj) (a : Act) (w : World) (E : Env) (A : Nat -> Nat -> Prop) (G : Gd), Rel GL B τ h a w E A G -> J l τ h -> listed.size = ops.size -> (∀ i, i < ops.size -> (listed.getD i false = true ↔ i ∈ l)) -> Region.ready md ops listed = [] -> Q .normal a w := by
  intro listed l τ h a w E A G hR hJ hsz hl hr
  have hall := pY hm hsz hr
  exact hQ .normal τ h a w E A G hR (hend l τ h hJ fun i hi => (hl i (by omega)).1 (hall i (by omega)))
 intro fuel
 induction fuel with
 | zero =>
  intro listed l τ h a w E A G hR hJ hsz hl hc
  have hr : Region.ready md ops listed = [] := by
   rw [List.eq_nil_iff_forall_not_mem]
   intro i hi
   rw [mem_ready] at hi
   obtain ⟨hl, o, ho, _⟩ := hi
   have hlt : i < listed.size := by rw [hsz]; exact (Array.getElem?_eq_some_iff.1 ho).1
   have : listed.toList[i]? = some false := by
    rw [Array.getD_eq_getD_getElem?, Array.getElem?_eq_getElem hlt] at hl
    simp only [Option.getD_some] at hl
    rw [Array.getElem?_toList, Array.getElem?_eq_getElem hlt, hl]
   have := jA this
   omega
  exact ⟨hr, done listed l τ h a w E A G hR hJ hsz hl hr⟩
 | succ fuel ih =>
  intro listed l τ h a w E A G hR hJ hsz hl hc
  refine ⟨done listed l τ h a w E A G hR hJ hsz hl, fun i hi => ?_⟩
  rw [mem_ready] at hi
  obtain ⟨hli, o, ho, hall⟩ := hi
  have hlt : i < ops.size := (Array.getElem?_eq_some_iff.1 ho).1
  have hlt' : i < listed.size := by rw [hsz]; exact hlt
  have hlf : listed.getD i false = false := by
   rw [Array.getD_eq_getD_getElem?, Array.getElem?_eq_getElem hlt'] at hli ⊢
   exact hli
  have hcount : countF (listed.setIfInBounds i true).toList <= fuel := by
   have : listed.toList[i]? = some false := by
    rw [Array.getD_eq_getD_getElem?, Array.getElem?_eq_getElem hlt'] at hli
    simp only [Option.getD_some] at hli
    rw [Array.getElem?_toList, Array.getElem?_eq_getElem hlt', hli]
   have := jC this
   rw [Array.toList_setIfInBounds]
   omega
  obtain ⟨hd, gd, hg, he⟩ := hE i o ho
  have hei : es[i]? = some ((o.dst, gd, compOpB P o), afterIn .any o) := by
   rw [hes, List.getElem?_zip_eq_some]
   refine ⟨he, ?_⟩
   simp [ho]
  have hnl : i ∉ l := fun hm => by rw [(hl i hlt).2 hm] at hlf; cases hlf
  have hdep : ∀ j ∈ afterIn .any o, j ∈ l := fun j hj => by
   simp only [afterIn, List.mem_map, List.mem_filter] at hj
   obtain ⟨x, ⟨hx, hb⟩, rfl⟩ := hj
   have h1 := hall x (Array.mem_toList_iff.1 hx) (pM hb)
   have hxs : x.on < ops.size := by
    rcases Nat.lt_or_ge x.on listed.size with h | h
    ·omega
    ·simp [Array.getD_eq_getD_getElem?, Array.getElem?_eq_none h] at h1
   exact (hl x.on hxs).1 (by simpa [Array.getD_eq_getD_getElem?] using h1)
  unfold wpOpIn
  simp only [ho]
  refine uG (K := J (i :: l)) hd hg (eK o) hR ?_ hP fun τ' h' a' w' E' A' G' hR' hk => ih _ (i :: l) _ _ _ _ _ _ _ hR' hk (by simp [hsz]) (fun j hj => ?_) hcount
  ·have := hstep l τ h i _ hJ hei hnl hdep
   cases gd with
   | none => exact this
   | some p => exact this
  ·rw [iA hlt']
   split
   ·rename_i hij; subst hij; simp
   ·rename_i hij
    rw [hl j hj, List.mem_cons]
    exact ⟨.inr, fun h => h.resolve_left fun e => hij e.symm⟩
theorem drawn_in {E : Env} {A : Nat -> Nat -> Prop} {G : Gd} {h : List AObj} {w : World} {τ : List (Nat × AV)} {a : Act} {id : Nat} {E0 : List AEnt} (hc : compOps P B.N ops ops.toList = some E0) (hmo : modesOk (P.follows .mixedOrders) ops.toList ops.size = true) (hP : POk GL B Pn Q) (hQ : QOk GL B Qa Q)
  (hR : Rel GL B τ h a w E A G) {m : Nat} (hs : wpA GL (AC P GL) m (.drawn (E0.zip (ops.toList.map (afterIn .any)))) Qa Pn τ h) : (Code.region id ops true).wpIn (FW r) nn P Q a w := by
 obtain ⟨J, h0, h1, h2⟩ := hs
 obtain ⟨g1, g2⟩ := gT hc
 have g1 : E0.length = ops.size := by simpa using g1
 refine wpIn_region_draw fun t => ?_
 have hR' : Rel GL B τ h a { w with drawn := w.drawn + 1 } E A G := ⟨hR.toRelM.step E.le_refl Ext.drawn hR.wf.drawn, hR.size, hR.stab, fun i => Rep.mono E.le_refl Ext.drawn _ _ (hR.tmps i), hR.dfs.mono (Ext.drawn (A := A))⟩
 have go : ∀ md, modeOk ops.toList ops.size md = true -> ∀ t, wpOpsIn (FW r) nn P ops Q (Region.linearise md ops t) a { w with drawn := w.drawn + 1 } := fun md hm t => by
  refine wpAnyIn_sound ops.size t _ a _ (drawn_any g1 (fun i o ho => g2 i o (by simpa using ho)) rfl hP hQ hm h1 h2 ops.size (Array.replicate ops.size false) [] τ h _ _ _ _ _ hR' h0 (by simp) (fun i hi => by simp [Array.getD_eq_getD_getElem?, hi]) ?_)
  have : ∀ n, countF (List.replicate n false) = n := fun n => by
   induction n with
   | zero => rfl
   | succ n ih => simp only [List.replicate_succ, countF, ih]
  simp [this]
 exact mS hmo go t
end
section
variable {P : Program} {GL : Glob} {E : Env} {A : Nat -> Nat -> Prop} {G : Gd} {h : List AObj} {w : World} {τ : List (Nat × AV)} {a : Act} {B : Base}
theorem mZ {b o : Nat} {L : Loop} (hb : w.heap[b]? = some (.loop L)) : w.cell? ⟨b, o, none⟩ = none := by simp [World.cell?, hb]
theorem pA {b o : Nat} {x : Option (List Deferred)} (hb : w.heap[b]? = some (.deferred x)) : w.cell? ⟨b, o, none⟩ = none := by simp [World.cell?, hb]
theorem iD {b : Nat} {O : Obj} : w.grownBy (w.putObj b O) (some b) :=
 ⟨rfl, rfl, rfl, by simp, fun k _ hk => World.putObj_heap_other (fun e => hk (by rw [e]))⟩
theorem Wf.putLoop (hW : Wf GL E A G h w) {k : Nat} {o o' : AObj} {L : Loop} {O : Obj} (hk : h[k]? = some o) (hb : obk E k o = some (E.blk k)) (hb' : obk E k o' = some (E.blk k) ∨ o' = .dead) (hL : w.heap[E.blk k]? = some (.loop L)) (hG : ¬ G.i (E.blk k))
  (hr : Ext A G w A G (w.putObj (E.blk k) O) -> ORel E A G (w.putObj (E.blk k) O) k o') : Wf GL E A G (h.set k o') (w.putObj (E.blk k) O) /\ Ext A G w A G (w.putObj (E.blk k) O) := by
 have hA : ∀ i, ¬ A (E.blk k) i := fun i hi => by
  obtain ⟨v, hv⟩ := hW.a _ _ hi
  rw [mZ hL] at hv; cases hv
 have hX : Ext A G w A G (w.putObj (E.blk k) O) := aV hW iD (fun _ _ h => h) (fun b hb' => by
  cases hb'
  exact ⟨hG, fun hh => hW.ho _ _ _ hk hb hh, fun o ho => absurd ho (hA o)⟩) (fun _ _ => .inl)
 refine ⟨?_, hX⟩
 rcases hb' with hb' | rfl
 ·exact hW.put hk hb hb' iD hA hG hX (hr hX)
 ·refine hW.step E.le_refl hX (by simp [hW.n]) (fun b i ha => ?_) (fun b hb => Nat.lt_of_lt_of_le (hW.g b hb) hX.size) (fun j => j = k) ?_ ?_ ?_ ?_
  ·obtain ⟨v, hv⟩ := hW.a b i ha
   exact ⟨v, (hX.cell b i ha).trans hv⟩
  ·intro j x hx hj
   rw [List.getElem?_set_ne (Ne.symm hj)] at hx
   exact ⟨hx, fun b hbx => ⟨World.putObj_heap_other (fun e => hj (hW.d _ _ _ _ b hx hk hbx (by rw [e]; exact hb))), fun _ h => h, id⟩⟩
  ·rintro j x hx rfl
   rw [List.getElem?_set_self (List.getElem?_eq_some_iff.1 hk).1] at hx
   cases hx
   trivial
  ·rintro j k' x y b hx hy rfl hj
   rw [List.getElem?_set_self (List.getElem?_eq_some_iff.1 hk).1] at hx
   cases hx
   simp [obk] at hj
  ·rintro j x b hx rfl hj
   rw [List.getElem?_set_self (List.getElem?_eq_some_iff.1 hk).1] at hx
   cases hx
   simp [obk] at hj
theorem Rel.move {h' : List AObj} {w' : World} (hR : Rel GL B τ h a w E A G) (hW : Wf GL E A G h' w') (hX : Ext A G w A G w') : Rel GL B τ h' a w' E A G :=
 ⟨hR.toRelM.step E.le_refl hX hW, hR.size, hR.stab, fun i => (hR.tmps i).mono E.le_refl hX, hR.dfs.mono hX⟩
theorem Wf.reloop (hW : Wf GL E A G h w) {k n : Nat} {τ' : List (Nat × AV)} {ps : List Nat} {ac bd : Code} {st st' : LoopState} {pd pd' : Option Code} (hk : h[k]? = some (.loop τ' n ps ac bd st pd)) :
  ∃ L : Loop, w.heap[E.blk k]? = some (.loop L) /\ L.state = st /\ L.pending = pd /\ L.assign = ac /\ L.body = bd /\
   Wf GL E A G (h.set k (.loop τ' n ps ac bd st' pd')) (w.putObj (E.blk k) (.loop { L with state := st', pending := pd' })) /\ Ext A G w A G (w.putObj (E.blk k) (.loop { L with state := st', pending := pd' })) := by
 obtain ⟨⟨L, h1, h2, h3, h4, h6, h7, h8, h9⟩, h5⟩ := hW.o k _ hk
 obtain ⟨w1, w2⟩ := hW.putLoop (o' := .loop τ' n ps ac bd st' pd') (O := .loop { L with state := st', pending := pd' }) hk rfl (.inl rfl) h1 h5 fun hX =>
  ⟨⟨{ L with state := st', pending := pd' }, World.putObj_heap_same (Array.getElem?_eq_some_iff.1 h1).1, rfl, rfl, h4, h6, h7, h8, fun i => (h9 i).mono E.le_refl hX⟩, h5⟩
 exact ⟨L, h1, h2, h3, h6, h7, w1, w2⟩
theorem shut_mark (hW : Wf GL E A G h w) {b : Nat} (hg : G.i b) (hb : w.heap[b]? = some (.deferred (some []))) :
  Wf GL E A ⟨fun x => G.i x /\ x ≠ b, G.h⟩ h (w.putObj b (.deferred none)) /\ Turn A G w ⟨fun x => G.i x /\ x ≠ b, G.h⟩ (w.putObj b (.deferred none)) := by
 have hne : ∀ b' o, A b' o -> b' ≠ b := fun b' o ha e => by
  obtain ⟨v, hv⟩ := hW.a _ _ ha
  rw [e, pA hb] at hv; cases hv
 have T : Turn A G w ⟨fun x => G.i x /\ x ≠ b, G.h⟩ (w.putObj b (.deferred none)) := by
  refine ⟨fun b' o ha => World.cell?_of_block (a := ⟨b', o, none⟩) (World.putObj_heap_other (hne b' o ha)), fun b' es cl hg' hm => ?_, fun b' cs T fz hg' hm => ?_⟩
  ·have : b' ≠ b := fun e => by rw [e, hb] at hm; cases hm
   exact ⟨⟨hg', this⟩, (World.putObj_heap_other this).trans hm⟩
  ·have : b' ≠ b := fun e => by rw [e, hb] at hm; cases hm
   exact ⟨⟨hg', this⟩, (World.putObj_heap_other this).trans hm⟩
 have hob : ∀ k x, h[k]? = some x -> ∀ b', obk E k x = some b' -> b' ≠ b := fun k x hx b' hb' e => by
  subst e
  have := hW.o k x hx
  cases x with
  | cells T l => obtain ⟨cs, _, _, _, _, h4⟩ := this; simp only [obk, Option.some.injEq] at hb'; exact h4 (hb' ▸ hg)
  | buf T sz l => obtain ⟨cs, _, _, _, _, _, _, _, _, h4⟩ := this; simp only [obk, Option.some.injEq] at hb'; exact h4 (hb' ▸ hg)
  | map ks vs => obtain ⟨_, _, _, _, _, _, h4⟩ := this; simp only [obk, Option.some.injEq] at hb'; exact h4 (hb' ▸ hg)
  | siter s p => simp only [obk, Option.some.injEq] at hb'; exact this.2 (hb' ▸ hg)
  | miter ks vs last => simp only [obk, Option.some.injEq] at hb'; exact this.2 (hb' ▸ hg)
  | loop => simp only [obk, Option.some.injEq] at hb'; exact this.2 (hb' ▸ hg)
  | spare T sz => obtain ⟨_, _, _, _, h4⟩ := this; exact (h4 b' hb').2 hg
  | dead => simp [obk] at hb'
 refine ⟨⟨fun n l hl => (hW.gl n l hl).turn T, hW.n, fun b' o ha => ?_, fun b' hb' => ?_, fun k x hx => (hW.o k x hx).turn T (fun _ h => h.1) fun b' hb' => World.putObj_heap_other (hob k x hx b' hb'), hW.d, fun b' hb' => ?_, hW.ho⟩, T⟩
 ·obtain ⟨v, hv⟩ := hW.a b' o ha
  exact ⟨v, (T.cell b' o ha).trans hv⟩
 ·simpa using hW.g b' hb'.1
 ·simpa using hW.hf b' hb'
theorem Turn.trans {G' G'' : Gd} {w' w'' : World} (t : Turn A G w G' w') (u : Turn A G' w' G'' w'') : Turn A G w G'' w'' :=
 ⟨fun b o ha => (u.cell b o ha).trans (t.cell b o ha), fun b es cl hg hb => let h1 := t.mp b es cl hg hb; u.mp b es cl h1.1 h1.2, fun b cs T fz hg hb => let h1 := t.ce b cs T fz hg hb; u.ce b cs T fz h1.1 h1.2⟩
theorem Turn.refl : Turn A G w G w := ⟨fun _ _ _ => rfl, fun _ _ _ hg hb => ⟨hg, hb⟩, fun _ _ _ _ hg hb => ⟨hg, hb⟩⟩
theorem lN {F : Fence} {n : Nat} {fn : Func} {tmps : Array Value} {R : Ending -> World -> Prop} {u : FrameMode} (hu : u ≠ .run) (hBi : ∀ b, B.G.i b -> b < B.w.heap.size) (hBh : ∀ b, B.G.h b -> b < B.w.heap.size) :
  ∀ (ms : List Deferred) (w : World) (G : Gd), RelM GL B h w E A G -> ms.Pairwise (· ≠ ·) -> (∀ d ∈ ms, MarkOk B.w.heap.size G w d) ->
   (∀ w' G', RelM GL B h w' E A G' -> Turn A G w G' w' -> LeavesIn F n P fn tmps R [] u w') -> LeavesInM F n P fn tmps R ms u w
 | [], w, G, hM, _, _, fin => fin w G hM .refl
 | d :: ms, w, G, hM, hp, hm, fin => by
  obtain ⟨b, rfl, hb1, hb2, hb3⟩ := hm d (by simp)
  rw [List.pairwise_cons] at hp
  obtain ⟨hW', T⟩ := shut_mark hM.wf hb2 hb3
  refine ⟨hu, .inl ⟨b, w.putObj b (.deferred none), rfl, run_takeDeferred hb3, lN hu hBi hBh ms _ _ ⟨hW', hM.le, ?_⟩ hp.2 (fun d' hd' => ?_) fun w' G' hM' T' => fin w' G' hM' (T.trans T')⟩⟩
  ·have hX := hM.ext
   have ne : ∀ b', B.G.i b' -> b' ≠ b := fun b' hb' e => by have := hBi b' hb'; omega
   refine ⟨hX.a, fun b' hb' => ⟨hX.g b' hb', ne b' hb'⟩, fun b' o ha => (T.cell b' o (hX.a b' o ha)).trans (hX.cell b' o ha), fun b' hb' => (World.putObj_heap_other (ne b' hb')).trans (hX.block b' hb'), by simpa using hX.size, hX.os, hX.output, hX.tape, hX.hh, fun b' hb' => ?_⟩
   obtain ⟨o1, o2, o3⟩ := hX.off b' hb'
   exact ⟨(World.putObj_heap_other (fun e => by have := hBh b' hb'; omega)).trans o1, o2, fun hi => o3 hi.1⟩
  ·obtain ⟨b2, rfl, g1, g2, g3⟩ := hm d' (by simp [hd'])
   have : b2 ≠ b := fun e => hp.1 _ hd' (by rw [e])
   exact ⟨b2, rfl, g1, ⟨g2, this⟩, (World.putObj_heap_other this).trans g3⟩
end
theorem least {p : Nat -> Prop} (h : ∃ n, p n) : ∃ n, p n /\ ∀ k, k < n -> ¬ p k := by
 obtain ⟨n, hn⟩ := h
 induction n using Nat.strongRecOn with
 | _ n ih =>
  by_cases hk : ∃ k, k < n /\ p k
  ·obtain ⟨k, h1, h2⟩ := hk
   exact ih k h1 h2
  ·exact ⟨n, hn, fun k h1 h2 => hk ⟨k, h1, h2⟩⟩
open Classical in
noncomputable def leastOf (p : Nat -> Prop) : Nat := if h : ∃ n, p n then Classical.choose (least h) else 0
theorem kK {p : Nat -> Prop} (h : ∃ n, p n) : p (leastOf p) /\ ∀ k, p k -> leastOf p <= k := by
 have hc := Classical.choose_spec (least h)
 unfold leastOf
 rw [dif_pos h]
 refine ⟨hc.1, fun k hk => ?_⟩
 rcases Nat.lt_or_ge k (Classical.choose (least h)) with hlt | hge
 ·exact absurd hk (hc.2 k hlt)
 ·exact hge
theorem rW {F : Fence} {n : Nat} {P : Program} {Q : Exit -> Act -> World -> Prop} {a : Act} {w : World} {c : Code} (I : Nat -> Act -> World -> Prop) (h₀ : ∃ n, I n a w)
  (round : ∀ j a w, I j a w -> c.wpIn F n P (Exit.then (fun a' w' => ∃ k, k < j /\ I k a' w') Q) a w) : (Code.loop c).wpIn F n P Q a w := by
 refine wpIn_loop (fun a w => ∃ n, I n a w) (fun a w => leastOf fun n => I n a w) h₀ fun a w hI => ?_
 have hl := kK hI
 refine wpIn_mono (round _ a w hl.1) fun e a' w' he => ?_
 cases e <;> try exact he
 obtain ⟨k, h1, h2⟩ := he
 exact ⟨⟨k, h2⟩, Nat.lt_of_le_of_lt ((kK ⟨k, h2⟩).2 k h2) h1⟩
section
variable {P : Program} {GL : Glob} {B : Base} {r : Option Nat} {nn : Nat}
theorem Rel.wk {τ τ' : List (Nat × AV)} {h h' : List AObj} {a : Act} {w : World} {E : Env} {A : Nat -> Nat -> Prop} {G : Gd} (hR : Rel GL B τ h a w E A G) (hk : Wk GL B.m τ h τ' h') : ∃ E' A' G', Rel GL B τ' h' a w E' A' G' := by
 obtain ⟨E', A', G', h1, h2, h3, h4, h5⟩ := hk E A G w (fun i => a.tmps.getD i undef) hR.wf hR.tmps
 exact ⟨E', A', G', ⟨h1, hR.le.trans ⟨h4, h5⟩, hR.ext.trans h3⟩, hR.size, hR.stab, h2, hR.dfs.mono h3⟩
theorem POk.then {Pn : AV -> List AObj -> Prop} {Q : Exit -> Act -> World -> Prop} {next : Act -> World -> Prop} (hP : POk GL B Pn Q) : POk GL B Pn (Exit.then next Q) := ⟨fun x h p a w E A G => hP.pan x h p a w E A G⟩
theorem POk.inBlock {Pn : AV -> List AObj -> Prop} {Q : Exit -> Act -> World -> Prop} {id : Nat} (hP : POk GL B Pn Q) : POk GL B Pn (Exit.inBlock id Q) := ⟨fun x h p a w E A G => hP.pan x h p a w E A G⟩
theorem range_in {nn : Nat} {f : Operand} {ps : Array Tmp} {ac bd : Code} {Qa : Post} {Pn : AV -> List AObj -> Prop} {Q : Exit -> Act -> World -> Prop} {τ : List (Nat × AV)} {h : List AObj} {a : Act} {w : World} {E : Env} {A : Nat -> Nat -> Prop} {G : Gd}
  (hrf : B.rf = true) (hP : POk GL B Pn Q) (hQ : QOk GL B Qa Q) (hR : Rel GL B τ h a w E A G) (hs : wpA GL (AC P GL) B.m (.rangeFunc B.N.1 (compOpd f) ps.toList ac bd) Qa Pn τ h) : (Code.rangeFunc f ps ac bd).wpIn (FW none) nn P Q a w := by
 simp only [wpA] at hs
 split at hs
 ·rename_i g first cap hx
  have hv := hR.opds f
  rw [hx] at hv
  simp only [Rep] at hv
  obtain ⟨fa, fb, hv, hr1, hr2⟩ := hv
  refine wpIn_rangeFunc fun fn _ => ?_
  -- the block for deferred calls
  let G1 : Gd := ⟨fun x => G.i x ∨ x = w.heap.size, G.h⟩
  have hX0 : Ext A G w A G (w.alloc (.deferred (some []))) := aV hR.wf (World.grownBy_alloc w _ none) (fun _ _ h => h) (fun _ e => by cases e) (fun _ _ => .inl)
  have hX1 : Ext A G w A G1 (w.alloc (.deferred (some []))) := ⟨hX0.a, fun b hb => .inl hb, hX0.cell, hX0.block, hX0.size, hX0.os, hX0.output, hX0.tape, fun _ => Iff.rfl, fun b hb => ⟨(hX0.off b hb).1, (hX0.off b hb).2.1, fun hi => hi.resolve_right fun e => by have := hR.wf.hf b hb; omega⟩⟩
  have hW1 : Wf GL E A G1 h (w.alloc (.deferred (some []))) := by
   refine hR.wf.step E.le_refl hX1 hR.wf.n (fun b o ha => ?_) (fun b hb => ?_) (fun _ => False) (fun k x hx _ => ⟨hx, fun b hb => ?_⟩) (fun _ _ _ hf => hf.elim) (fun _ _ _ _ _ _ _ hf => hf.elim) (fun _ _ _ _ hf => hf.elim)
   ·obtain ⟨v, hv⟩ := hR.wf.a b o ha
    exact ⟨v, (hX1.cell b o ha).trans hv⟩
   ·rcases hb with hb | rfl
    ·exact Nat.lt_of_lt_of_le (hR.wf.g b hb) hX1.size
    ·simp
   ·have := cJ (hR.wf.o k x hx) hb
    exact ⟨heap_alloc_old w _ b this, fun _ h => h, fun hi => hi.resolve_right (by omega)⟩
  -- the record
  have hn := hR.wf.n
  let L : Loop := { state := .ready, pending := none, fn := fn, tmps := a.tmps, params := ps, assign := ac, body := bd, defers := w.heap.size }
  let E2 : Env := E.push (w.heap.size + 1) 0 undef 0
  have hle2 : E.le E2 := E.le_push _ _ _ _
  have hsz : (w.alloc (.deferred (some []))).heap.size = w.heap.size + 1 := by simp
  obtain ⟨hW2, hX2⟩ : Wf GL E2 A G1 (h ++ [.loop τ B.N.1 ps.toList ac bd .ready none]) ((w.alloc (.deferred (some []))).alloc (.loop L)) /\ Ext A G1 (w.alloc (.deferred (some []))) A G1 ((w.alloc (.deferred (some []))).alloc (.loop L)) := by
   have hX2 : Ext A G1 (w.alloc (.deferred (some []))) A G1 ((w.alloc (.deferred (some []))).alloc (.loop L)) := aV hW1 (World.grownBy_alloc _ _ none) (fun _ _ h => h) (fun _ e => by cases e) (fun _ _ => .inl)
   have := hW1.push (.loop L) (.loop τ B.N.1 ps.toList ac bd .ready none) 0 undef 0 (fun _ => False) (fun _ hf => hf.elim) ?_ ?_
   ·rw [bK, hsz] at this
    exact this
   ·rw [bK, hsz]
    refine ⟨⟨L, by rw [Env.push_blk, <- hsz]; exact heap_alloc_new _ _, rfl, rfl, rfl, rfl, rfl, hR.size, fun i => ((hR.tmps i).mono E.le_refl hX1).mono (E.le_push _ _ _ _) hX2⟩, fun hg => ?_⟩
    rw [Env.push_blk] at hg
    have := hW1.g _ hg
    omega
   ·intro b hb
    simp only [obk, Option.some.injEq, Env.push_blk] at hb
    exact hb.symm
  have hX12 := hX1.trans hX2
  have hyl : Rep E2 A G1 ((w.alloc (.deferred (some []))).alloc (.loop L)) (.yld h.length) (.func (.yield (w.heap.size + 1)) #[] #[]) := by
   simp only [Rep]
   rw [<- hn]
   exact ⟨Nat.lt_succ_self _, by rw [Env.push_blk]⟩
  have hargs : Reps E2 A G1 ((w.alloc (.deferred (some []))).alloc (.loop L)) (first ++ [.yld h.length] ++ cap) (fa.toList ++ [.func (.yield (w.heap.size + 1)) #[] #[]] ++ fb.toList) :=
   ((hr1.mono hle2 hX12).append (Reps.one hyl)).append (hr2.mono hle2 hX12)
  obtain ⟨hent, hcall⟩ := hs E2 A G1 _ _ hW2 hargs
  have e : (fa.toList ++ [Value.func (.yield (w.heap.size + 1)) #[] #[]] ++ fb.toList).toArray = fa ++ #[Value.func (.yield (w.heap.size + 1)) #[] #[]] ++ fb := by
   simp
  rw [e] at hent hcall
  refine ⟨w.heap.size + 1, [{ target := .collected w.heap.size, args := #[] }], _, { target := .fn (.func g) fb, args := fa ++ #[.func (.yield (w.heap.size + 1)) #[] #[]] }, (w.alloc (.deferred (some []))).alloc (.loop L), g, fa ++ #[Value.func (.yield (w.heap.size + 1)) #[] #[]] ++ fb, (w.alloc (.deferred (some []))).alloc (.loop L), run_enterLoop_outer fn a.tmps ps ac bd, ?_, fun _ _ => trivial, ?_, fun hd => by simp [FW, Fence.wide] at hd, ?_⟩
  ·have hc : ∀ v, a.eval (.const v) = v := fun _ => rfl
   simp [resolve, hv, Deferred.ofValue, hc, L]
  ·exact hent
  refine (nD hcall).mono ?_
  -- the activation behind it
  have hdfs : ∀ {E' : Env} {A' : Nat -> Nat -> Prop} {G' : Gd} {w' : World}, Ext A G1 ((w.alloc (.deferred (some []))).alloc (.loop L)) A' G' w' -> DfsOk B G' w' ([{ target := .collected w.heap.size, args := #[] }] ++ a.defers) := by
   intro E' A' G' w' hX
   obtain ⟨ms, g1, g2, g3, g4⟩ := hR.dfs
   refine ⟨{ target := .collected w.heap.size, args := #[] } :: ms, by rw [g1]; rfl, (fun h => by rw [hrf] at h; cases h), List.pairwise_cons.2 ⟨fun d hd e => ?_, g3⟩, fun d hd => ?_⟩
   ·obtain ⟨b, rfl, _, _, h4⟩ := g4 d hd
    have := (Array.getElem?_eq_some_iff.1 h4).1
    simp only [Deferred.mk.injEq, Target.collected.injEq, and_true] at e
    omega
   ·rcases List.mem_cons.1 hd with rfl | hd
    ·refine ⟨_, rfl, hR.ext.size, hX.g _ (.inr rfl), ?_⟩
     rw [hX.block _ (.inr rfl), hX2.block _ (.inr rfl)]
     exact heap_alloc_new w _
    ·obtain ⟨b, h1, h2, h3, h4⟩ := g4 d hd
     have := hX12.trans hX
     exact ⟨b, h1, h2, this.g b h3, (this.block b h3).trans h4⟩
  rintro e w3 ⟨E3, A3, G3, r3, h3, hW3, hX3, hle3, her, hk⟩
  have hXall := hX12.trans hX3
  have hleall : E.le E3 := Env.le_trans hle2 hle3
  have hRM : RelM GL B h3 w3 E3 A3 G3 := hR.toRelM.step hleall hXall hW3
  cases e with
  | outgrown => cases r3 <;> exact her.elim
  | panicked ch =>
   cases r3 with
   | val x => exact her.elim
   | panic x =>
    match ch, her with
    | [p], her => exact hP.pan x h3 p _ w3 E3 A3 G3 hRM (hdfs (E' := E3) hX3) hR.stab her.1 her.2.1 her.2.2 hk
  | returned v =>
   cases r3 with
   | panic x => exact her.elim
   | val x =>
    have hblk : E3.blk h.length = w.heap.size + 1 := by
     have := (hle3.2 h.length (by show h.length < E.n + 1; omega)).1
     rw [this, <- hn]
     exact Env.push_blk ..
    have fin : ∀ {τ2 n2 ps2 as2 bd2 st pd}, h3[h.length]? = some (.loop τ2 n2 ps2 as2 bd2 st pd) -> st ≠ .busy -> (∀ w4, Rel GL B τ (h3.set h.length .dead) { a with defers := [{ target := .collected w.heap.size, args := #[] }] ++ a.defers } w4 E3 A3 G3 ->
      (match pd with | none => Q .normal { a with defers := [{ target := .collected w.heap.size, args := #[] }] ++ a.defers } w4 | some c => c.wpIn (FW none) nn P Q { a with defers := [{ target := .collected w.heap.size, args := #[] }] ++ a.defers } w4)) ->
      rangePost (FW none) nn P (w.heap.size + 1) Q { a with defers := [{ target := .collected w.heap.size, args := #[] }] ++ a.defers } (.returned v) w3 := by
     intro τ2 n2 ps2 as2 bd2 st pd hob hst hnext
     obtain ⟨⟨L3, g1, g2, g3, g4, g6, g7, g8, g9⟩, g5⟩ := hW3.o _ _ hob
     have g1' := g1
     rw [hblk] at g1'
     obtain ⟨hW4, hX4⟩ := hW3.putLoop (o' := .dead) (O := .loop { L3 with state := .exhausted }) hob rfl (.inr rfl) g1 g5 fun _ => trivial
     rw [hblk] at hW4 hX4
     refine ⟨pd, _, by rw [<- g3]; exact run_endLoop g1' (by rw [g2]; exact hst), hnext _ ?_⟩
     refine ⟨hRM.step E3.le_refl hX4 hW4, hR.size, hR.stab, fun i => ((hR.tmps i).mono hleall hXall).mono E3.le_refl hX4, (hdfs (E' := E3) hX3).mono hX4⟩
    simp only [krange] at hk
    split at hk
    ·rename_i hob
     exact fin hob (by simp) fun w4 hR4 => hQ .normal _ _ _ _ _ _ _ hR4 hk
    ·rename_i hob
     exact fin hob (by simp) fun w4 hR4 => wpIn_exit (hQ (.exit _) _ _ _ _ _ _ _ hR4 hk)
    ·rename_i hob
     exact fin hob (by simp) fun w4 hR4 => wpIn_ret (hQ .ret _ _ _ _ _ _ _ hR4 hk)
    ·exact hk.elim
 ·exact hs.elim
def noGo (Q : Exit -> Act -> World -> Prop) : Exit -> Act -> World -> Prop
 | .goto _, _, _ => False
 | e, a, w => Q e a w
theorem cX {P : Program} {b : Frame} {a : Act} {k : List Item} {cs : List Frame} {w : World} {c : Code} : step P (lone (b.atR a (.code (.scope c) :: k)) cs w) = .next (lone (b.atR a (.code c :: .inScope c :: k)) cs w) :=
 step_lone_go (by simp [stepG, stepG.exec, Frame.atR])
theorem pD {P : Program} {b : Frame} {a : Act} {k : List Item} {cs : List Frame} {w : World} {c : Code} : step P (lone (b.atR a (.inScope c :: k)) cs w) = .next (lone (b.atR a k) cs w) :=
 step_lone_go (by simp [stepG, stepG.exec, Frame.atR])
theorem uW {F : Fence} {n : Nat} {P : Program} {c : Code} {Q : Exit -> Act -> World -> Prop} {a : Act} {w : World} (h : c.wpIn F n P (noGo Q) a w) : (Code.scope c).wpIn F n P Q a w := by
 intro b k cs hro hb hr
 have h0 : (lone (b.atR a (.code (.scope c) :: k)) cs w).fenced P F := fenced_calm hb hr rfl
 obtain ⟨e, a₁, w₁, hq, harr⟩ := h b (.inScope c :: k) cs hro hb hr
 cases e with
 | normal => exact ⟨.normal, a₁, w₁, hq, .head h0 cX (StepsIn.trans harr (.one (fenced_calm hb hr rfl) pD))⟩
 | exit id =>
  have hx : exitTo id (.inScope c :: k) = exitTo id k := by simp [exitTo]
  exact ⟨.exit id, a₁, w₁, hq, fun k' hk => .head h0 cX (harr.1 k' (by rw [hx]; exact hk)),
   fun hr' hk => let ⟨k₁, h1, h2⟩ := harr.2 hr' (by rw [hx]; exact hk); ⟨k₁, h1, .head h0 cX h2⟩⟩
 | goto l => exact hq.elim
 | ret => exact ⟨_, a₁, w₁, hq, .of_steps (.one h0 cX) harr⟩
 | panic ch => exact ⟨_, a₁, w₁, hq, .of_steps (.one h0 cX) harr⟩
 | outgrown => exact ⟨_, a₁, w₁, hq, .of_steps (.one h0 cX) harr⟩
theorem cA : ∀ (c : Code) {ac : ACode} {Qa : Post} {Pn : AV -> List AObj -> Prop} {Q : Exit -> Act -> World -> Prop} {τ : List (Nat × AV)} {h : List AObj} {a : Act} {w : World} {E : Env} {A : Nat -> Nat -> Prop} {G : Gd},
  comp P B.N c = some ac -> ((r = none /\ B.rf = true) ∨ noRF ac = true) -> POk GL B Pn Q -> QOk GL B Qa Q -> Rel GL B τ h a w E A G -> wpA GL (AC P GL) B.m ac Qa Pn τ h -> c.wpIn (FW r) nn P Q a w
 | .skip, ac, Qa, Pn, Q, τ, h, a, w, E, A, G, hc, hf, hP, hQ, hR, hs => by
  simp only [comp, Option.some.injEq] at hc
  subst hc
  exact wpIn_skip (hQ .normal _ _ _ _ _ _ _ hR hs)
 | .region id ops false, ac, Qa, Pn, Q, τ, h, a, w, E, A, G, hc, hf, hP, hQ, hR, hs => by
  simp only [comp] at hc
  split at hc
  ·rename_i l hl
   cases hc
   refine wpIn_region ?_
   have := ops_in (r := r) (n := nn) hP hQ ops.toList 0 l τ h a w E A G (by simp) hl hR hs
   rw [Array.length_toList] at this
   rw [List.range_eq_range']
   exact this
  ·cases hc
 | .region id ops true, ac, Qa, Pn, Q, τ, h, a, w, E, A, G, hc, hf, hP, hQ, hR, hs => by
  simp only [comp] at hc
  split at hc
  ·rename_i l hl
   cases hc
   exact draw_in hl hP hQ hR hs
  ·split at hc
   ·rename_i E0 h1 h2
    cases hc
    exact drawn_in h1 h2 hP hQ hR hs
   ·cases hc
 | .seq x y, ac, Qa, Pn, Q, τ, h, a, w, E, A, G, hc, hf, hP, hQ, hR, hs => by
  simp only [comp] at hc
  split at hc
  ·rename_i ax ay hx hy
   cases hc
   refine wpIn_seq (cA x hx (hf.imp id fun h => (Bool.and_eq_true _ _ ▸ h).1) hP.then ?_ hR hs)
   intro e τ' h' a' w' E' A' G' hR' hk
   cases e with
   | normal => exact cA y hy (hf.imp id fun h => (Bool.and_eq_true _ _ ▸ h).2) hP hQ hR' hk
   | exit id => exact hQ (.exit id) _ _ _ _ _ _ _ hR' hk
   | ret => exact hQ .ret _ _ _ _ _ _ _ hR' hk
  ·cases hc
 | .cond c x y, ac, Qa, Pn, Q, τ, h, a, w, E, A, G, hc, hf, hP, hQ, hR, hs => by
  simp only [comp] at hc
  split at hc
  ·rename_i ax ay hx hy
   cases hc
   simp only [wpA] at hs
   split at hs
   ·rename_i t ht
    have hv := hR.opds c
    rw [ht] at hv
    simp only [Rep] at hv
    exact wpIn_cond_split hv (fun h => cA x hx (hf.imp id fun h => (Bool.and_eq_true _ _ ▸ h).1) hP hQ hR (hs.1 h)) (fun h => cA y hy (hf.imp id fun h => (Bool.and_eq_true _ _ ▸ h).2) hP hQ hR (hs.2 h))
   ·exact hs.elim
  ·cases hc
 | .block id x, ac, Qa, Pn, Q, τ, h, a, w, E, A, G, hc, hf, hP, hQ, hR, hs => by
  simp only [comp] at hc
  split at hc
  ·rename_i ax hx
   cases hc
   refine wpIn_block (cA x hx hf hP.inBlock ?_ hR hs)
   intro e τ' h' a' w' E' A' G' hR' hk
   cases e with
   | normal => exact hQ .normal _ _ _ _ _ _ _ hR' hk
   | exit id' =>
    simp only [kblock] at hk
    show Exit.inBlock id Q (.exit id') a' w'
    simp only [Exit.inBlock]
    split at hk
    ·rename_i hb
     rw [if_pos (Nat.eq_of_beq_eq_true hb)]
     exact hQ .normal _ _ _ _ _ _ _ hR' hk
    ·rename_i hb
     rw [if_neg (fun he => by rw [he, Nat.beq_refl] at hb; cases hb)]
     exact hQ (.exit id') _ _ _ _ _ _ _ hR' hk
   | ret => exact hQ .ret _ _ _ _ _ _ _ hR' hk
  ·cases hc
 | .loop x, ac, Qa, Pn, Q, τ, h, a, w, E, A, G, hc, hf, hP, hQ, hR, hs => by
  simp only [comp] at hc
  split at hc
  ·rename_i ax hx
   cases hc
   obtain ⟨I, ⟨τ0, h0, n0, hk0, hI0⟩, hround⟩ := hs
   obtain ⟨E0, A0, G0, hR0⟩ := hR.wk hk0
   refine rW (fun n a w => ∃ τ h E A G, Rel GL B τ h a w E A G /\ I τ h n) ⟨n0, τ0, h0, E0, A0, G0, hR0, hI0⟩ ?_
   rintro n a w ⟨τ, h, E, A, G, hR, hI⟩
   refine cA x hx hf hP.then ?_ hR (hround τ h n hI)
   intro e τ' h' a' w' E' A' G' hR' hk
   cases e with
   | normal =>
    obtain ⟨τ'', h'', n', h1, h2, h3⟩ := hk
    obtain ⟨E'', A'', G'', hR''⟩ := hR'.wk h2
    exact ⟨n', h1, τ'', h'', E'', A'', G'', hR'', h3⟩
   | exit id => exact hQ (.exit id) _ _ _ _ _ _ _ hR' hk
   | ret => exact hQ .ret _ _ _ _ _ _ _ hR' hk
  ·cases hc
 | .exit id, ac, Qa, Pn, Q, τ, h, a, w, E, A, G, hc, hf, hP, hQ, hR, hs => by
  simp only [comp, Option.some.injEq] at hc
  subst hc
  exact wpIn_exit (hQ (.exit id) _ _ _ _ _ _ _ hR hs)
 | .ret, ac, Qa, Pn, Q, τ, h, a, w, E, A, G, hc, hf, hP, hQ, hR, hs => by
  simp only [comp, Option.some.injEq] at hc
  subst hc
  exact wpIn_ret (hQ .ret _ _ _ _ _ _ _ hR hs)
 | .rangeFunc f ps as bd, ac, Qa, Pn, Q, τ, h, a, w, E, A, G, hc, hf, hP, hQ, hR, hs => by
  simp only [comp, Option.some.injEq] at hc
  subst hc
  obtain ⟨rfl, hrf⟩ := hf.resolve_right (by simp [noRF])
  exact range_in hrf hP hQ hR hs
 | .scope x, ac, Qa, Pn, Q, τ, h, a, w, E, A, G, hc, hf, hP, hQ, hR, hs => by
  simp only [comp] at hc
  refine uW (cA x (Q := noGo Q) hc hf ⟨fun x h p a w E A G q1 q2 q3 q4 q5 q6 q7 => hP.pan x h p a w E A G q1 q2 q3 q4 q5 q6 q7⟩ ?_ hR hs)
  intro e τ' h' a' w' E' A' G' hR' hk
  cases e with
  | normal => exact hQ .normal _ _ _ _ _ _ _ hR' hk
  | exit id => exact hQ (.exit id) _ _ _ _ _ _ _ hR' hk
  | ret => exact hQ .ret _ _ _ _ _ _ _ hR' hk
 | .label l, ac, Qa, Pn, Q, τ, h, a, w, E, A, G, hc, hf, hP, hQ, hR, hs => by
  simp only [comp, Option.some.injEq] at hc
  subst hc
  exact wpIn_label (hQ .normal _ _ _ _ _ _ _ hR hs)
 | .goto .., ac, _, _, _, _, _, _, _, _, _, _, hc, _, _, _, _, hs => by
  simp only [comp, Option.some.injEq] at hc
  subst hc
  exact hs.elim
 | .refuse .., ac, _, _, _, _, _, _, _, _, _, _, hc, _, _, _, _, hs => by
  simp only [comp, Option.some.injEq] at hc
  subst hc
  exact hs.elim
def resOne (tmps : Array Value) : ResultVar -> Sem Value
 | .tmp t => pure (tmps.getD t undef)
 | .cell p t => do loadVar t (<- asAddr (tmps.getD p undef))
theorem eU (fn : Func) (tmps : Array Value) : results fn tmps = (do
  let vs <- fn.results.mapM (resOne tmps)
  pure (if h : vs.size = 1 then vs[0] else .tuple vs)) := by
 unfold results
 congr 1
theorem jM {τ : List (Nat × AV)} {h : List AObj} {a : Act} {w : World} {E : Env} {A : Nat -> Nat -> Prop} {G : Gd} (hR : Rel GL B τ h a w E A G) : ∀ {l : List ResultVar} {rs : List ARet} {xs : List AV}, compRets P l = some rs -> retAll τ h rs = some xs ->
  ∃ vs : List Value, (l.mapM (m := Sem) (resOne a.tmps)).run P w = .ok vs w /\ Reps E A G w xs vs
 | [], rs, xs, hc, hr => by
  simp only [compRets, Option.some.injEq] at hc
  subst hc
  simp only [retAll, Option.some.injEq] at hr
  subst hr
  exact ⟨[], by simp, by simp [Reps]⟩
 | .tmp t :: l, rs, xs, hc, hr => by
  simp only [compRets] at hc
  split at hc
  ·rename_i rl hl
   cases hc
   simp only [retAll, retOne] at hr
   split at hr
   ·rename_i x xl hx hxl
    cases hr
    cases hx
    obtain ⟨vs, h1, h2⟩ := jM hR hl hxl
    refine ⟨a.tmps.getD t undef :: vs, ?_, by simp only [Reps]; exact ⟨_, _, rfl, hR.tmps t, h2⟩⟩
    simp only [List.mapM_cons, resOne, Sem.run_bind, Sem.run_pure, Result.andThen_ok, h1]
   ·cases hr
  ·cases hc
 | .cell t T :: l, rs, xs, hc, hr => by
  simp only [compRets] at hc
  split at hc
  ·rename_i g n rl hg hn hl
   cases hc
   simp only [retAll, retOne] at hr
   split at hr
   ·rename_i x xl hx hxl
    cases hr
    split at hx
    ·rename_i cl hcl
     obtain ⟨vs, h1, h2⟩ := jM hR hl hxl
     obtain ⟨b, o, hv, hrd⟩ := sH hR.wf (hR.tmps t) hcl
     obtain ⟨v, h3, h4, _⟩ := sY (P := P) hrd hg hn hx
     refine ⟨v :: vs, ?_, by simp only [Reps]; exact ⟨_, _, rfl, h4, h2⟩⟩
     simp [List.mapM_cons, resOne, hv, asAddr, h3, h1]
    ·cases hx
   ·cases hr
  ·cases hc
theorem rO {fn : Func} {rs : List ARet} {τ : List (Nat × AV)} {h : List AObj} {a : Act} {w : World} {E : Env} {A : Nat -> Nat -> Prop} {G : Gd} (hR : Rel GL B τ h a w E A G) (hc : compRets P fn.results.toList = some rs) {x : AV} (hx : retA τ h rs = some x) :
  ∃ v, (results fn a.tmps).run P w = .ok v w /\ Rep E A G w x v := by
 unfold retA at hx
 have go : ∀ xs, retAll τ h rs = some xs -> ∃ vs : List Value, (fn.results.mapM (m := Sem) (resOne a.tmps)).run P w = .ok vs.toArray w /\ Reps E A G w xs vs := fun xs hxs => by
  obtain ⟨vs, h1, h2⟩ := jM hR hc hxs
  refine ⟨vs, ?_, h2⟩
  rw [Array.mapM_eq_mapM_toList, map_eq_pure_bind, Sem.run_bind, h1]
  rfl
 split at hx
 ·rename_i y hy
  cases hx
  obtain ⟨vs, h1, h2⟩ := go _ hy
  simp only [Reps] at h2
  obtain ⟨u, us, rfl, h3, rfl⟩ := h2
  refine ⟨u, ?_, h3⟩
  rw [eU, Sem.run_bind, h1]
  rfl
 ·rename_i l hne hl
  cases hx
  obtain ⟨vs, h1, h2⟩ := go _ hl
  have hlen : vs.length ≠ 1 := fun h1 => by
   rw [h2.length] at h1
   match l, h1 with
   | [z], _ => exact hne z rfl
  refine ⟨.tuple vs.toArray, ?_, by simp only [Rep]; exact ⟨_, rfl, h2⟩⟩
  rw [eU, Sem.run_bind, h1, Result.andThen_ok, dif_neg (by simpa using hlen), Sem.run_pure]
 ·cases hx
theorem fK : ∀ (l : List AV) (k i : Nat), tget (args0 k l) i = if i < k then .any else (l[i - k]?).getD .any
 | [], k, i => by simp [args0, tget]
 | x :: xs, k, i => by
  simp only [args0, tget]
  split
  ·rename_i hb
   have := Nat.eq_of_beq_eq_true hb
   subst this
   simp
  ·rename_i hb
   have hne : i ≠ k := fun e => by rw [e, Nat.beq_refl] at hb; cases hb
   rw [fK xs (k + 1) i]
   by_cases h : i < k
   ·rw [if_pos (by omega), if_pos h]
   ·rw [if_neg (by omega), if_neg h]
    rw [show i - k = (i - (k + 1)) + 1 by omega]
    simp
theorem cZ {f : FuncId} {fn : Func} {args : Array Value} {w : World} (hf : P.funcs[f]? = some fn) (hn : (fn.name == "runtime.NumGoroutine") = false) {c : Code} (hb : fn.body = some c) : (callFunc f args).run P w = .ok (.enter f args) w := by
 simp only [beq_eq_false_iff_ne] at hn
 simp [callFunc, hf, hn, hb]
theorem gI {f : FuncId} {fn : Func} {c : ACode} {rs : List ARet} {args : List AV} {h : List AObj} {R : ARes -> List AObj -> Prop} (hf : P.funcs[f]? = some fn) (hn : (fn.name == "runtime.NumGoroutine") = false) (hc : compFn P fn = some (c, rs))
  (ha : args.length <= fn.ntmps) (hs : bodyA GL (AC P GL) c rs args h R) : AGen P GL f args h R := by
 intro E A G w vs hW hargs
 unfold compFn at hc
 split at hc
 ·rename_i body hb
  split at hc
  ·rename_i a r h1 h2
   cases hc
   refine ⟨cZ hf hn hb, ?_⟩
   rw [<- callsIn_wide (n := 0)]
   refine callsIn_of_wp_marks (F := FW none) hf hb trivial ?_
   have hlen := hargs.length
   let B : Base := ⟨(fn.ntmps, []), fun _ => undef, h.length, [], E, A, G, w, true⟩
   have hR : Rel GL B (args0 0 args) h { tmps := vs.toArray ++ Array.replicate (fn.ntmps - vs.toArray.size) undef, defers := [] } w E A G := by
    refine ⟨⟨hW, ⟨by show h.length <= E.n; rw [hW.n]; exact Nat.le_refl _, fun k _ => ⟨rfl, rfl, rfl, rfl⟩⟩, Ext.refl _ _ _⟩, ?_, fun t ht => (by cases ht), fun i => ?_, DfsOk.refl⟩
    ·show fn.ntmps <= _
     simp; omega
    ·rw [fK, if_neg (Nat.not_lt_zero i), Nat.sub_zero]
     cases hx : args[i]? with
     | none => simp [Rep]
     | some x =>
      obtain ⟨u, hu, hr⟩ := hargs.get hx
      have hlt : i < vs.length := (List.getElem?_eq_some_iff.1 hu).1
      simp only [Option.getD_some, Array.getD_eq_getD_getElem?]
      rw [Array.getElem?_append_left (by simpa using hlt)]
      simp [hu, hr]
   have wk : ∀ {x : AV} {h' : List AObj} {w' : World} {E' : Env} {A' : Nat -> Nat -> Prop} {G' : Gd} {v : Value}, RelM GL B h' w' E' A' G' -> Rep E' A' G' w' x v -> ∀ {y h''}, Wk GL h.length [(0, x)] h' [(0, y)] h'' ->
     ∃ E'' A'' G'', Wf GL E'' A'' G'' h'' w' /\ Ext A G w A'' G'' w' /\ E.le E'' /\ Rep E'' A'' G'' w' y v := by
    intro x h' w' E' A' G' v hM hx y h'' hk
    obtain ⟨E'', A'', G'', g1, g2, g3, g4, g5⟩ := hk E' A' G' w' (fun i => if i = 0 then v else undef) hM.wf (fun i => by
     simp only [tget]
     split
     ·rename_i hb; rw [if_pos (Nat.eq_of_beq_eq_true hb)]; exact hx
     ·simp [Rep])
    have hl := hM.le.trans (E'' := E'') (m := h.length) ⟨g4, g5⟩
    have hy := g2 0
    exact ⟨E'', A'', G'', g1, hM.ext.trans g3, ⟨by rw [hW.n]; exact hl.1, fun k hk => hl.2 k (by rw [<- hW.n]; exact hk)⟩, by simpa [tget] using hy⟩
   have leave : ∀ {a' : Act} {w' : World} {E' : Env} {A' : Nat -> Nat -> Prop} {G' : Gd} {h' : List AObj} {u : FrameMode}, u ≠ .run -> RelM GL B h' w' E' A' G' -> DfsOk B G' w' a'.defers ->
     (∀ w'' G'', RelM GL B h' w'' E' A' G'' -> Turn A' G' w' G'' w'' -> LeavesIn (FW none) 0 P fn a'.tmps (fun e w' => ∃ E' A' G' r h', Wf GL E' A' G' h' w' /\ Ext A G w A' G' w' /\ E.le E' /\ EndRep E' A' G' w' r e /\ R r h') [] u w'') ->
     LeavesInM (FW none) 0 P fn a'.tmps (fun e w' => ∃ E' A' G' r h', Wf GL E' A' G' h' w' /\ Ext A G w A' G' w' /\ E.le E' /\ EndRep E' A' G' w' r e /\ R r h') a'.defers u w' := by
    intro a' w' E' A' G' h' u hu hM ⟨ms, e1, _, e3, e4⟩ fin
    have e1 : a'.defers = ms := by rw [e1]; simp [B]
    rw [e1]
    exact lN hu hW.g hW.hf ms w' G' hM e3 e4 fin
   refine cA (B := B) (r := none) (nn := 0) (P := P) (GL := GL) body h1 (.inl ⟨rfl, rfl⟩) (Qa := kret GL h.length rs R) (Pn := kpanic GL h.length R) ⟨?_⟩ ?_ hR hs
   ·rintro x h' p a' w' E' A' G' hM hd _ hx hp1 hp2 ⟨y, h'', hk, hRy⟩
    refine leave (by simp) hM hd fun w'' G'' hM'' T => ?_
    obtain ⟨E'', A'', G3, g1, g2, g3, g4⟩ := wk hM'' (Rep.turn T _ _ hx) hk
    exact ⟨E'', A'', G3, .panic y, h'', g1, g2, g3, ⟨g4, hp1, hp2⟩, hRy⟩
   ·intro e τ' h' a' w' E' A' G' hR' hk
    have fin : (match retA τ' h' rs with
      | some x => ∃ y h'', Wk GL h.length [(0, x)] h' [(0, y)] h'' /\ R (.val y) h''
      | none => False) -> LeavesInM (FW none) 0 P fn a'.tmps (fun e w' => ∃ E' A' G' r h', Wf GL E' A' G' h' w' /\ Ext A G w A' G' w' /\ E.le E' /\ EndRep E' A' G' w' r e /\ R r h') a'.defers .returning w' := by
     intro hk
     split at hk
     ·rename_i x hx
      obtain ⟨y, h'', hwk, hRy⟩ := hk
      refine leave (by simp) hR'.toRelM hR'.dfs fun w'' G'' hM'' T => ?_
      let B0 : Base := ⟨(fn.ntmps, []), fun _ => undef, h.length, a'.defers, E, A, G, w, true⟩
      have hR'' : Rel GL B0 τ' h' a' w'' E' A' G'' := ⟨⟨hM''.wf, hM''.le, hM''.ext⟩, hR'.size, fun t ht => (by cases ht), fun i => Rep.turn T _ _ (hR'.tmps i), ⟨[], rfl, fun _ => rfl, List.Pairwise.nil, fun _ h => by cases h⟩⟩
      obtain ⟨v, hv, hxv⟩ := rO (P := P) hR'' h2 hx
      obtain ⟨E'', A'', G3, g1, g2, g3, g4⟩ := wk hM'' hxv hwk
      exact ⟨v, hv, E'', A'', G3, .val y, h'', g1, g2, g3, g4, hRy⟩
     ·exact hk.elim
    cases e with
    | normal => exact fin hk
    | ret => exact fin hk
    | exit id => exact hk.elim
  ·cases hc
 ·cases hc
theorem iO {f : FuncId} {fn : Func} {c : ACode} {rs : List ARet} {args : List AV} {h : List AObj} {R : ARes -> List AObj -> Prop} (hf : P.funcs[f]? = some fn) (hn : (fn.name == "runtime.NumGoroutine") = false) (hc : compFn P fn = some (c, rs))
  (ha : args.length <= fn.ntmps) (hs : bodyA GL (AC P GL) c rs args h R) : ACall P GL f args h R := (gI hf hn hc ha hs).call
def bindsA : List Nat -> List AV -> List (Nat × AV) -> List (Nat × AV)
 | p :: ps, x :: xs, τ => bindsA ps xs ((p, x) :: τ)
 | _, _, τ => τ
def kround (GL : Glob) (k m : Nat) (R : ARes -> List AObj -> Prop) : Post := fun e _ h => match h[k]? with
 | some (.loop τ n ps ac bd _ _) => (match e with
  | .normal => ∃ h', Wk GL m [] (h.set k (.loop τ n ps ac bd .ready none)) [] h' /\ R (.val (.v (.bool true))) h'
  | .exit id => ∃ h', Wk GL m [] (h.set k (.loop τ n ps ac bd .done (some (.exit id)))) [] h' /\ R (.val (.v (.bool false))) h'
  | .ret => ∃ h', Wk GL m [] (h.set k (.loop τ n ps ac bd .done (some .ret))) [] h' /\ R (.val (.v (.bool false))) h')
 | _ => False
def kbegin (GL : Glob) (C : Calling) (k m : Nat) (aB : ACode) (R : ARes -> List AObj -> Prop) : Post := fun e τ1 h1 => match e with
 | .normal => match h1[k]? with
  | some (.loop τ n ps ac bd .ready pd) => wpA GL C m aB (kround GL k m R) (fun _ _ => False) τ1 (h1.set k (.loop τ n ps ac bd .busy pd))
  | _ => False
 | _ => False
theorem lT {E : Env} {A : Nat -> Nat -> Prop} {G : Gd} {w : World} : ∀ (ps : List Nat) (xs : List AV) (vs : List Value) (τ : List (Nat × AV)) (tmps : Array Value), xs.length = ps.length -> Reps E A G w xs vs -> (∀ p ∈ ps, p < tmps.size) ->
  (∀ i, Rep E A G w (tget τ i) (tmps.getD i undef)) -> (∀ i, Rep E A G w (tget (bindsA ps xs τ) i) (((ps.zip vs).foldl (fun tmps (x : Nat × Value) => tmps.setIfInBounds x.1 x.2) tmps).getD i undef)) /\
   ((ps.zip vs).foldl (fun tmps (x : Nat × Value) => tmps.setIfInBounds x.1 x.2) tmps).size = tmps.size
 | [], xs, vs, τ, tmps, hl, _, _, hT => by
  cases xs with
  | nil => exact ⟨hT, rfl⟩
  | cons => simp at hl
 | p :: ps, x :: xs, vs, τ, tmps, hl, hr, hp, hT => by
  simp only [Reps] at hr
  obtain ⟨u, us, rfl, h1, h2⟩ := hr
  have hps : p < tmps.size := hp p (by simp)
  have := lT ps xs us ((p, x) :: τ) (tmps.setIfInBounds p u) (by simpa using hl) h2 (fun q hq => by simpa using hp q (by simp [hq])) fun i => by
   simp only [tget, Array.getD_eq_getD_getElem?, Array.getElem?_setIfInBounds]
   split
   ·rename_i hb
    have := Nat.eq_of_beq_eq_true hb
    subst this
    simp [hps, h1]
   ·rename_i hb
    have : p ≠ i := fun e => by rw [e, Nat.beq_refl] at hb; cases hb
    simp only [this, if_false]
    have := hT i
    rwa [Array.getD_eq_getD_getElem?] at this
  simp only [bindsA, List.zip_cons_cons, List.foldl_cons]
  exact ⟨this.1, by rw [this.2]; simp⟩
 | _ :: _, [], _, _, _, hl, _, _, _ => by simp at hl
theorem ayield {k n : Nat} {τ : List (Nat × AV)} {ps : List Nat} {ac bd : Code} {aA aB : ACode} {args : List AV} {h : List AObj} {R : ARes -> List AObj -> Prop} {pd : Option Code} (hk : h[k]? = some (.loop τ n ps ac bd .ready pd))
  (hlen : args.length = ps.length) (hps : ps.all (Nat.blt · n) = true) (hA : comp P (n, []) ac = some aA) (hB : comp P (n, []) bd = some aB) (nA : noRF aA = true) (nB : noRF aB = true)
  (hs : wpA GL (AC P GL) h.length aA (kbegin GL (AC P GL) k h.length aB R) (fun _ _ => False) (bindsA ps args τ) h) : AYield P GL k args h R := by
 intro E A G w vs hW ha
 obtain ⟨⟨L, g1, g2, g3, g4, g6, g7, g8, g9⟩, g5⟩ := hW.o k _ hk
 have hvl := ha.length
 have hkn : k < h.length := (List.getElem?_eq_some_iff.1 hk).1
 refine ⟨L.fn, _, L.assign, L.body, run_yield g1 (by rw [<- Array.length_toList (xs := L.params), g4]; simp [hvl, hlen]), fun r nn => roundIn_of_wpIn trivial ?_⟩
 let B : Base := ⟨(n, []), fun _ => undef, h.length, [], E, A, G, w, false⟩
 have hz : ((L.params.zip vs.toArray).foldl (fun tmps (x : Tmp × Value) => tmps.setIfInBounds x.1 x.2) L.tmps) = ((ps.zip vs).foldl (fun tmps (x : Nat × Value) => tmps.setIfInBounds x.1 x.2) L.tmps) := by
  rw [<- Array.foldl_toList, Array.toList_zip, g4]
 obtain ⟨b1, b2⟩ := lT ps args vs τ L.tmps hlen ha (fun p hp => Nat.lt_of_lt_of_le (Nat.le_of_ble_eq_true (List.all_eq_true.1 hps p hp)) g8) g9
 have hR : Rel GL B (bindsA ps args τ) h { tmps := (L.params.zip vs.toArray).foldl (fun tmps (x : Tmp × Value) => tmps.setIfInBounds x.1 x.2) L.tmps, defers := [] } w E A G := by
  rw [hz]
  exact ⟨⟨hW, ⟨by show h.length <= E.n; rw [hW.n]; exact Nat.le_refl _, fun k _ => ⟨rfl, rfl, rfl, rfl⟩⟩, Ext.refl _ _ _⟩, by show n <= _; rw [b2]; exact g8, fun t ht => (by cases ht), b1, DfsOk.refl⟩
 have hbk : ∀ {h' : List AObj} {w' : World} {E' : Env} {A' : Nat -> Nat -> Prop} {G' : Gd}, RelM GL B h' w' E' A' G' -> E'.blk k = E.blk k := fun hM => (hM.le.2 k hkn).1
 have hW0 := hW.n
 have hP : ∀ {Q}, POk GL B (fun _ _ => False) Q := ⟨fun x h p a w E A G _ _ _ _ _ _ hf => hf.elim⟩
 rw [g6, g7]
 refine cA (B := B) (r := some (E.blk k)) (nn := nn) (P := P) (GL := GL) ac hA (.inr nA) hP ?_ hR hs
 intro e τ1 h1 a1 w1 E1 A1 G1 hR1 hk1
 cases e with
 | exit id => exact hk1.elim
 | ret => exact hk1.elim
 | normal =>
  simp only [kbegin] at hk1
  split at hk1
  ·rename_i τ2 n2 ps2 as2 bd2 pd2 hob
   obtain ⟨L1, f1, f2, f3, f4, f5, f6, f7⟩ := hR1.wf.reloop (st' := .busy) (pd' := pd2) hob
   have hb1 := hbk hR1.toRelM
   rw [hb1] at f1 f6 f7
   refine ⟨_, run_beginRound f1 f2, ?_⟩
   have hL : ({ L1 with state := .busy, pending := pd2 } : Loop) = { L1 with state := .busy } := by rw [<- f3]
   rw [hL] at f6 f7
   refine cA (B := B) (r := some (E.blk k)) (nn := nn) (P := P) (GL := GL) bd hB (.inr nB) hP ?_ (hR1.move f6 f7) hk1
   intro e τ3 h3 a3 w3 E3 A3 G3 hR3 hk3
   simp only [kround] at hk3
   split at hk3
   ·rename_i τ4 n4 ps4 as4 bd4 st4 pd4 hob3
    have hb3 := hbk hR3.toRelM
    have fin : ∀ {jump : Option Code} {st : LoopState} {h' : List AObj} {t : Bool}, (st = if jump.isNone then .ready else .done) -> t = jump.isNone -> Wk GL h.length [] (h3.set k (.loop τ4 n4 ps4 as4 bd4 st jump)) [] h' -> R (.val (.v (.bool t))) h' ->
      ∃ v w', (Instr.endRound (E.blk k) jump).run P w3 = .ok v w' /\ ∃ E' A' G' r h', Wf GL E' A' G' h' w' /\ Ext A G w A' G' w' /\ E.le E' /\ EndRep E' A' G' w' r (.returned v) /\ R r h' := by
     rintro jump st h' t rfl rfl hwk hRx
     obtain ⟨L3, q1, q2, q3, q4, q5, q6, q7⟩ := hR3.wf.reloop (st' := if jump.isNone then .ready else .done) (pd' := jump) hob3
     rw [hb3] at q1 q6 q7
     obtain ⟨E5, A5, G5, k1, _, k3, k4, k5⟩ := hwk E3 A3 G3 _ (fun _ => undef) q6 (fun i => by simp [tget, Rep])
     have hl := hR3.le.trans (E'' := E5) (m := h.length) ⟨k4, k5⟩
     exact ⟨_, _, run_endRound jump q1, E5, A5, G5, _, h', k1, (hR3.ext.trans q7).trans k3, ⟨by rw [hW0]; exact hl.1, fun j hj => hl.2 j (by rw [<- hW0]; exact hj)⟩, by simp [EndRep, Rep], hRx⟩
    cases e with
    | normal => obtain ⟨h', hwk, hRx⟩ := hk3; exact fin (jump := none) rfl rfl hwk hRx
    | exit id => obtain ⟨h', hwk, hRx⟩ := hk3; exact fin (jump := some (.exit id)) rfl rfl hwk hRx
    | ret => obtain ⟨h', hwk, hRx⟩ := hk3; exact fin (jump := some .ret) rfl rfl hwk hRx
   ·exact hk3.elim
  ·exact hk1.elim
end
section
variable {E E' : Env} {A : Nat -> Nat -> Prop} {G G' : Gd} {w : World} {κ : Nat -> Nat}
def Fwd (E E' : Env) (κ : Nat -> Nat) : Prop := ∀ k, k < E.n -> κ k < E'.n /\ E'.blk (κ k) = E.blk k /\ E'.cap (κ k) = E.cap k /\ E'.tok (κ k) = E.tok k /\ E'.wid (κ k) = E.wid k
mutual
theorem Rep.fwd (hE : Fwd E E' κ) (hG : ∀ b, G.i b -> G'.i b) : ∀ (x : AV) (v : Value), Rep E A G w x v -> Rep E' A G' w (ren κ x) v
 | .any, _, _ => by simp [Rip.ren, Rep]
 | .v x, _, h => by simpa [Rip.ren, Rep] using h
 | .str l, _, h => by simpa [Rip.ren, Rep] using h
 | .agg l, _, h => by
  simp only [Rip.ren, Rep] at h ⊢
  obtain ⟨cs, rfl, ho, h⟩ := h
  exact ⟨cs, rfl, ho, Reps.fwd hE hG l _ h⟩
 | .tup l, _, h => by
  simp only [Rip.ren, Rep] at h ⊢
  obtain ⟨cs, rfl, h⟩ := h
  exact ⟨cs, rfl, Reps.fwd hE hG l _ h⟩
 | .sl sz l, _, h => by
  simp only [Rip.ren, Rep] at h ⊢
  obtain ⟨p, n, c, rfl, h1, h2, h3, h⟩ := h
  refine ⟨p, n, c, rfl, by rw [h1, bH], h2, h3, ?_⟩
  rcases h with h | ⟨b, o, hp, h⟩
  ·subst h; exact .inl rfl
  ·exact .inr ⟨b, o, hp, RepL.fwd hE hG sz l b o h⟩
 | .own k sz l, _, h => by
  simp only [Rip.ren, Rep] at h ⊢
  obtain ⟨hk, hv, p, n, c, rfl, h1, h2, h3, h⟩ := h
  refine ⟨(hE k hk).1, by rw [(hE k hk).2.2.2.1]; exact hv, p, n, c, rfl, by rw [h1, bH], h2, h3, ?_⟩
  rcases h with h | ⟨b, o, hp, h⟩
  ·subst h; exact .inl rfl
  ·exact .inr ⟨b, o, hp, RepL.fwd hE hG sz l b o h⟩
 | .pel l, _, h => by
  simp only [Rip.ren, Rep] at h ⊢
  obtain ⟨b, o, rfl, h⟩ := h
  exact ⟨b, o, rfl, RepC.fwd hE hG l b o h⟩
 | .ref k off, _, h => by
  simp only [Rip.ren, Rep] at h ⊢
  obtain ⟨hk, rfl⟩ := h
  exact ⟨(hE k hk).1, by rw [(hE k hk).2.1]⟩
 | .eref k i off, _, h => by
  simp only [Rip.ren, Rep] at h ⊢
  obtain ⟨hk, rfl⟩ := h
  exact ⟨(hE k hk).1, by rw [(hE k hk).2.1, (hE k hk).2.2.2.2]⟩
 | .view k sz a m, _, h => by
  simp only [Rip.ren, Rep] at h ⊢
  obtain ⟨hk, h1, rfl, h2, h3⟩ := h
  exact ⟨(hE k hk).1, by rw [(hE k hk).2.2.2.2, h1], by rw [(hE k hk).2.1, (hE k hk).2.2.1], by rw [(hE k hk).2.2.1]; exact h2, h3.1, by rw [(hE k hk).2.2.1]; exact h3.2⟩
 | .vec k sz m, _, h => by
  simp only [Rip.ren, Rep] at h ⊢
  obtain ⟨hk, h1, rfl, h2, h3⟩ := h
  exact ⟨(hE k hk).1, by rw [(hE k hk).2.2.2.2, h1], by rw [(hE k hk).2.1, (hE k hk).2.2.1], by rw [(hE k hk).2.2.1]; exact h2, h3.1, by rw [(hE k hk).2.2.1]; exact h3.2⟩
 | .mp k, _, h => by
  simp only [Rip.ren, Rep] at h ⊢
  obtain ⟨hk, rfl⟩ := h
  exact ⟨(hE k hk).1, by rw [(hE k hk).2.1]⟩
 | .imp ks vs, _, h => by
  simp only [Rip.ren, Rep] at h ⊢
  obtain ⟨b, es, cl, rfl, hg, hb, h1, h2⟩ := h
  exact ⟨b, es, cl, rfl, hG b hg, hb, Reps.fwd hE hG ks _ h1, Reps.fwd hE hG vs _ h2⟩
 | .fn f first cap, _, h => by
  simp only [Rip.ren, Rep] at h ⊢
  obtain ⟨a, b, rfl, h1, h2⟩ := h
  exact ⟨a, b, rfl, Reps.fwd hE hG first _ h1, Reps.fwd hE hG cap _ h2⟩
 | .yld k, _, h => by
  simp only [Rip.ren, Rep] at h ⊢
  obtain ⟨hk, rfl⟩ := h
  exact ⟨(hE k hk).1, by rw [(hE k hk).2.1]⟩
 | .iface t x, _, h => by
  simp only [Rip.ren, Rep] at h ⊢
  obtain ⟨u, rfl, h⟩ := h
  exact ⟨u, rfl, Rep.fwd hE hG x u h⟩
theorem Reps.fwd (hE : Fwd E E' κ) (hG : ∀ b, G.i b -> G'.i b) : ∀ (l : List AV) (vs : List Value), Reps E A G w l vs -> Reps E' A G' w (rens κ l) vs
 | [], _, h => by simpa [rens, Reps] using h
 | x :: xs, _, h => by
  simp only [rens, Reps] at h ⊢
  obtain ⟨u, us, rfl, h1, h2⟩ := h
  exact ⟨u, us, rfl, Rep.fwd hE hG x u h1, Reps.fwd hE hG xs us h2⟩
theorem RepC.fwd (hE : Fwd E E' κ) (hG : ∀ b, G.i b -> G'.i b) : ∀ (l : List AV) (b o : Nat), RepC E A G w b o l -> RepC E' A G' w b o (rens κ l)
 | [], _, _, _ => by simp [rens, RepC]
 | x :: xs, b, o, h => by
  simp only [rens, RepC] at h ⊢
  obtain ⟨⟨u, hc, ha, ho, h1⟩, h2⟩ := h
  exact ⟨⟨u, hc, ha, ho, Rep.fwd hE hG x u h1⟩, RepC.fwd hE hG xs b (o + 1) h2⟩
theorem RepL.fwd (hE : Fwd E E' κ) (hG : ∀ b, G.i b -> G'.i b) (sz : Nat) : ∀ (l : List AV) (b o : Nat), RepL E A G w sz b o l -> RepL E' A G' w sz b o (rens κ l)
 | [], _, _, _ => by simp [rens, RepL]
 | .agg cs :: xs, b, o, h => by
  simp only [rens, Rip.ren, RepL, bH] at h ⊢
  exact ⟨h.1, RepC.fwd hE hG cs b o h.2.1, RepL.fwd hE hG sz xs b (o + sz) h.2.2⟩
 | .any :: xs, b, o, h | .v _ :: xs, b, o, h | .str _ :: xs, b, o, h | .tup _ :: xs, b, o, h | .sl _ _ :: xs, b, o, h | .own _ _ _ :: xs, b, o, h | .pel _ :: xs, b, o, h
 | .ref _ _ :: xs, b, o, h | .eref _ _ _ :: xs, b, o, h | .vec _ _ _ :: xs, b, o, h | .view _ _ _ _ :: xs, b, o, h | .mp _ :: xs, b, o, h | .imp _ _ :: xs, b, o, h | .fn _ _ _ :: xs, b, o, h
 | .yld _ :: xs, b, o, h | .iface _ _ :: xs, b, o, h => by
  have hx := h
  rw [rens, cG, fM]
  rw [cG] at hx
  obtain ⟨h0, h1, h2⟩ := hx
  refine ⟨by rw [bH]; exact h0, ?_, RepL.fwd hE hG sz xs b (o + sz) h2⟩
  simp only [AV.cells, rens, RepC] at h1 ⊢
  obtain ⟨⟨u, hc, ha, ho, hr⟩, _⟩ := h1
  exact ⟨⟨u, hc, ha, ho, Rep.fwd hE hG _ u hr⟩, trivial⟩
end
theorem ORel.fwd (hE : Fwd E E' κ) (hG : ∀ b, G.i b ↔ G'.i b) {k : Nat} (hk : k < E.n) {x : AObj} (h : ORel E A G w k x) : ORel E' A G' w (κ k) (renO κ x) := by
 obtain ⟨_, e1, e2, e3, e4⟩ := hE k hk
 have hG1 : ∀ b, G.i b -> G'.i b := fun b => (hG b).1
 cases x with
 | cells T l =>
  obtain ⟨cs, h1, h9, h2, h3, h4⟩ := h
  exact ⟨cs, by rw [e1]; exact h1, h9, h2.fwd hE hG1, by rw [e1]; exact h3, by rw [e1]; exact fun h => h4 ((hG _).2 h)⟩
 | buf T sz l =>
  obtain ⟨cs, h1, h9, h5, h6, h7, h8, h2, h3, h4⟩ := h
  refine ⟨cs, by rw [e1]; exact h1, h9, by rw [e4]; exact h5, by rw [e2, bH]; exact h6, by rw [e2]; exact h7, fun y hy => ?_, ?_, by rw [e1]; exact h3, by rw [e1]; exact fun h => h4 ((hG _).2 h)⟩
  ·have : ∀ (l : List AV), (∀ x ∈ l, x.cells.length = sz) -> ∀ y ∈ rens κ l, y.cells.length = sz := by
    intro l
    induction l with
    | nil => intro _ y hy; simp [rens] at hy
    | cons z zs ih =>
     intro hl y hy
     simp only [rens, List.mem_cons] at hy
     rcases hy with rfl | hy
     ·rw [fM, bH]; exact hl z (by simp)
     ·exact ih (fun x hx => hl x (by simp [hx])) y hy
   exact this l h8 y hy
  ·rw [gF, bH]
   exact h2.fwd hE hG1
 | map ks vs =>
  obtain ⟨es, cl, h1, h2, h3, h4, h5⟩ := h
  exact ⟨es, cl, by rw [e1]; exact h1, h2.fwd hE hG1, h3.fwd hE hG1, h4, by rw [e1]; exact fun h => h5 ((hG _).2 h)⟩
 | siter s p => exact ⟨by rw [e1]; exact h.1, by rw [e1]; exact fun h' => h.2 ((hG _).2 h')⟩
 | miter ks vs last => exact ⟨by rw [e1]; exact MitOk.imp h.1 rfl (fun _ _ _ a b => ⟨(hG _).1 a, b⟩) (fun _ h => Reps.fwd hE hG1 _ _ h) (fun _ h => Reps.fwd hE hG1 _ _ h) (fun e => by subst e; rfl) (fun _ h => Reps.fwd hE hG1 _ _ h), by rw [e1]; exact fun h' => h.2 ((hG _).2 h')⟩
 | loop τ n ps ac bd st pd =>
  obtain ⟨⟨L, h1, h2, h3, h4, h6, h7, h8, h9⟩, h5⟩ := h
  exact ⟨⟨L, by rw [e1]; exact h1, h2, h3, h4, h6, h7, h8, fun i => by rw [lA]; exact Rep.fwd hE hG1 _ _ (h9 i)⟩, by rw [e1]; exact fun h' => h5 ((hG _).2 h')⟩
 | spare T sz =>
  obtain ⟨n, xs, h1, ho, h2⟩ := h
  exact ⟨n, xs, by rw [e3]; exact h1, ho, by rw [e3]; exact fun b hb => ⟨(h2 b hb).1, fun h => (h2 b hb).2 ((hG _).2 h)⟩⟩
 | dead => trivial
theorem dT (hE : Fwd E E' κ) {k : Nat} (hk : k < E.n) (x : AObj) : obk E' (κ k) (renO κ x) = obk E k x := by
 obtain ⟨_, e1, e2, e3, e4⟩ := hE k hk
 cases x <;> simp [obk, renO, e1, e3]
end
mutual
theorem eO {κ : Nat -> Nat} : ∀ (x : AV), bd 0 x -> ren κ x = x
 | .any, _ | .v _, _ | .str _, _ => by simp [ren]
 | .agg l, h | .tup l, h | .sl _ l, h | .pel l, h => by simp only [bd] at h; simp only [ren, dL l h]
 | .own k _ _, h => by simp only [bd] at h; omega
 | .ref k _, h | .eref k _ _, h | .vec k _ _, h | .view k _ _ _, h | .mp k, h | .yld k, h => by simp only [bd] at h; omega
 | .imp ks vs, h => by simp only [bd] at h; simp only [ren, dL ks h.1, dL vs h.2]
 | .fn _ a b, h => by simp only [bd] at h; simp only [ren, dL a h.1, dL b h.2]
 | .iface _ x, h => by simp only [bd] at h; simp only [ren, eO x h]
theorem dL {κ : Nat -> Nat} : ∀ (l : List AV), bds 0 l -> rens κ l = l
 | [], _ => rfl
 | x :: xs, h => by simp only [bds] at h; simp only [rens, eO x h.1, dL xs h.2]
end
mutual
theorem lD : ∀ (x : AV), ren (fun k => k) x = x
 | .any | .v _ | .str _ => by simp [ren]
 | .agg l | .tup l | .sl _ l | .pel l => by simp only [ren, cM l]
 | .own _ _ l => by simp only [ren, cM l]
 | .ref .. | .eref .. | .vec .. | .view .. | .mp _ | .yld _ => by simp [ren]
 | .imp ks vs => by simp only [ren, cM ks, cM vs]
 | .fn _ a b => by simp only [ren, cM a, cM b]
 | .iface _ x => by simp only [ren, lD x]
theorem cM : ∀ (l : List AV), rens (fun k => k) l = l
 | [] => rfl
 | x :: xs => by simp only [rens, lD x, cM xs]
end
def renR (κ : Nat -> Nat) : ARes -> ARes
 | .val x => .val (ren κ x)
 | .panic x => .panic (ren κ x)
theorem Reps.hands {E : Env} {A : Nat -> Nat -> Prop} {G G' : Gd} {w : World} (hG : ∀ b, G.i b -> G'.i b) {l : List AV} {vs : List Value} (h : Reps E A G w l vs) : Reps E A G' w l vs := by
 have := Reps.fwd (E' := E) (κ := fun k => k) (fun k hk => ⟨hk, rfl, rfl, rfl, rfl⟩) hG l vs h
 rwa [cM] at this
theorem RepC.hands {E : Env} {A : Nat -> Nat -> Prop} {G G' : Gd} {w : World} (hG : ∀ b, G.i b -> G'.i b) {l : List AV} {b o : Nat} (h : RepC E A G w b o l) : RepC E A G' w b o l := by
 have := RepC.fwd (E' := E) (κ := fun k => k) (fun k hk => ⟨hk, rfl, rfl, rfl, rfl⟩) hG l b o h
 rwa [cM] at this
theorem renT_id : ∀ (τ : List (Nat × AV)), renT (fun k => k) τ = τ
 | [] => rfl
 | (i, x) :: r => by simp only [renT, lD, renT_id r]
theorem rD (x : AObj) : renO (fun k => k) x = x := by cases x <;> simp [renO, cM, renT_id]
theorem ORel.hands {E : Env} {A : Nat -> Nat -> Prop} {G G' : Gd} {w : World} (hG : ∀ b, G.i b ↔ G'.i b) {k : Nat} (hk : k < E.n) {x : AObj} (h : ORel E A G w k x) : ORel E A G' w k x := by
 have := ORel.fwd (E' := E) (κ := fun k => k) (fun k hk => ⟨hk, rfl, rfl, rfl, rfl⟩) hG hk h
 rwa [rD] at this
theorem kJ {P : Program} {GL : Glob} {f : FuncId} {args : List AV} {R : ARes -> List AObj -> Prop} (hb : bds 0 args) (hc : ACall P GL f args [] R) (h : List AObj) :
  ACall P GL f args h fun r h' => ∃ r0 h0, R r0 h0 /\ r = renR (· + h.length) r0 /\ h' = h ++ h0.map (renO (· + h.length)) := by
 intro E A G w vs hW ha
 let E0 : Env := ⟨0, E.blk, E.cap, E.tok, E.wid⟩
 let G0 : Gd := ⟨G.i, fun b => G.h b ∨ ∃ k x, h[k]? = some x /\ obk E k x = some b⟩
 have hW0 : Wf GL E0 A G0 [] w := by
  refine ⟨fun n l hl => GlR.hands (G := G) (G' := G0) (fun _ h => h) (hW.gl n l hl), rfl, hW.a, hW.g, fun k x hx => by simp at hx, fun j k x y b hx => by simp at hx, fun b hb => ?_, fun k x b hx => by simp at hx⟩
  rcases hb with hb | ⟨k, x, hx, hb⟩
  ·exact hW.hf b hb
  ·exact cJ (hW.o k x hx) hb
 have ha0 : Reps E0 A G0 w args vs := by
  have h1 := Reps.hands (G := G) (G' := G0) (fun _ h => h) ha
  exact Reps.ren (κ := fun k => k) (E := E) (E' := E0) (fun k hk => absurd hk (Nat.not_lt_zero k)) args vs hb (by rw [cM]; exact h1)
 refine (hc E0 A G0 w vs hW0 ha0).mono fun e w' => ?_
 rintro ⟨E1, A1, G1, r0, h0, g1, g2, g3, g4, g5⟩
 have hn := hW.n
 let E2 : Env := ⟨h.length + E1.n, fun k => if k < h.length then E.blk k else E1.blk (k - h.length), fun k => if k < h.length then E.cap k else E1.cap (k - h.length),
  fun k => if k < h.length then E.tok k else E1.tok (k - h.length), fun k => if k < h.length then E.wid k else E1.wid (k - h.length)⟩
 let G2 : Gd := ⟨G1.i, G.h⟩
 have hle : E.le E2 := ⟨by show E.n <= h.length + E1.n; omega, fun k hk => by
  have : k < h.length := by omega
  simp [E2, this]⟩
 have hfw : Fwd E1 E2 (· + h.length) := fun k hk => by
  have h1 : ¬ (k + h.length < h.length) := by omega
  refine ⟨by show k + h.length < h.length + E1.n; omega, ?_, ?_, ?_, ?_⟩ <;> simp [E2, h1]
 have hX : Ext A G w A1 G2 w' := ⟨g2.a, g2.g, g2.cell, g2.block, g2.size, g2.os, g2.output, g2.tape, fun _ => Iff.rfl, fun b hb => g2.off b (.inl hb)⟩
 have hh1 : ∀ b, G1.h b ↔ G0.h b := g2.hh
 have hWf : Wf GL E2 A1 G2 (h ++ h0.map (renO (· + h.length))) w' := by
  have hget : ∀ k x, (h ++ h0.map (renO (· + h.length)))[k]? = some x -> (k < h.length /\ h[k]? = some x) ∨ ∃ j y, k = j + h.length /\ h0[j]? = some y /\ x = renO (· + h.length) y := by
   intro k x hx
   rw [List.getElem?_append] at hx
   split at hx
   ·exact .inl ⟨by assumption, hx⟩
   ·rw [List.getElem?_map, Option.map_eq_some_iff] at hx
    obtain ⟨y, hy, rfl⟩ := hx
    exact .inr ⟨k - h.length, y, by omega, hy, rfl⟩
  have hlt : ∀ j y, h0[j]? = some y -> j < E1.n := fun j y hy => by rw [g1.n]; exact (List.getElem?_eq_some_iff.1 hy).1
  have hold : ∀ k x b, h[k]? = some x -> k < h.length -> obk E2 k x = some b -> obk E k x = some b := fun k x b hx hk hb => by
   rw [hle.obk (by omega)] at hb; exact hb
  refine ⟨fun n l hl => GlR.hands (G := G1) (G' := G2) (fun _ h => h) (g1.gl n l hl), ?_, g1.a, g1.g, fun k x hx => ?_, fun j k x y b hx hy hbx hby => ?_, fun b hb => g1.hf b ((hh1 b).2 (.inl hb)), fun k x b hx hbx => ?_⟩
  ·show h.length + E1.n = _
   simp [g1.n]
  ·rcases hget k x hx with ⟨hk, hx⟩ | ⟨j, y, rfl, hy, rfl⟩
   ·exact (hW.o k x hx).mono hle (by omega) hX fun b hb => by
     have := g2.off b (.inr ⟨k, x, hx, hb⟩)
     exact ⟨this.1, this.2.1, this.2.2⟩
   ·exact ORel.fwd (G := G1) (G' := G2) hfw (fun _ => Iff.rfl) (hlt j y hy) (g1.o j y hy)
  ·rcases hget j x hx with ⟨hj, hx2⟩ | ⟨j', x', rfl, hx2, rfl⟩ <;> rcases hget k y hy with ⟨hk, hy2⟩ | ⟨k', y', rfl, hy2, rfl⟩
   ·exact hW.d j k x y b hx2 hy2 (hold _ _ _ hx2 hj hbx) (hold _ _ _ hy2 hk hby)
   ·rw [dT hfw (hlt _ _ hy2)] at hby
    exact absurd ((hh1 b).2 (.inr ⟨j, x, hx2, hold _ _ _ hx2 hj hbx⟩)) (g1.ho _ _ _ hy2 hby)
   ·rw [dT hfw (hlt _ _ hx2)] at hbx
    exact absurd ((hh1 b).2 (.inr ⟨k, y, hy2, hold _ _ _ hy2 hk hby⟩)) (g1.ho _ _ _ hx2 hbx)
   ·rw [dT hfw (hlt _ _ hx2)] at hbx
    rw [dT hfw (hlt _ _ hy2)] at hby
    rw [g1.d _ _ _ _ _ hx2 hy2 hbx hby]
  ·rcases hget k x hx with ⟨hk, hx2⟩ | ⟨j, y, rfl, hy2, rfl⟩
   ·exact hW.ho k x b hx2 (hold _ _ _ hx2 hk hbx)
   ·rw [dT hfw (hlt _ _ hy2)] at hbx
    exact fun hh => g1.ho _ _ _ hy2 hbx ((hh1 b).2 (.inl hh))
 refine ⟨E2, A1, G2, renR (· + h.length) r0, _, hWf, hX, hle, ?_, r0, h0, g5, rfl, rfl⟩
 cases r0 <;> cases e <;> try exact g4.elim
 ·exact Rep.fwd (G := G1) (G' := G2) hfw (fun _ h => h) _ _ g4
 ·rename_i x ch
  match ch, g4 with
  | [p], g4 => exact ⟨Rep.fwd (G := G1) (G' := G2) hfw (fun _ h => h) _ _ g4.1, g4.2⟩
theorem aN {P : Program} {GL : Glob} {f : FuncId} {args : List AV} {v : AV} (hb : bds 0 args) (hv : bd 0 v) (hc : ACall P GL f args [] fun r h' => h' = [] /\ r = .val v) : Pure (AC P GL) f args v := by
 intro h
 refine ACall.mono f args h _ _ ?_ (kJ hb hc h)
 rintro r h' ⟨r0, h0, ⟨rfl, rfl⟩, rfl, rfl⟩
 exact ⟨by simp, by simp [renR, eO v hv]⟩
end Go.Rip
