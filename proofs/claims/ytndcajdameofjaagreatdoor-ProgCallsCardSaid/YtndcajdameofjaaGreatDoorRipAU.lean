/- Programs and queries: the reference's way. -/
import Derived.Test.YtndcajdameofjaaGreatDoorRipAT
import Derived.Test.YtndcajdameofjaaGreatDoorRipAO
namespace Go.Rip
open Go Go.Proofs
variable {GL : Glob}
attribute [local irreducible] Pure
theorem idxS_hit {s : Sym} {l : List Sym} {j : Nat} (hj : j < l.length) (h1 : s ∉ l.take j) (h2 : s = l[j]) : idxS s l = some j := by
 induction l generalizing j with
 | nil => simp at hj
 | cons k r ih =>
  cases j with
  | zero => simp at h2; simp [idxS, h2]
  | succ j =>
   simp only [List.take_succ_cons, List.mem_cons, not_or] at h1
   simp only [List.getElem_cons_succ] at h2
   simp only [List.length_cons, Nat.add_lt_add_iff_right] at hj
   simp [idxS, h1.1, ih hj h1.2 h2]
theorem sym_eq (q : Pr) (a : List UInt8) (n : Int) : (q.name == a && q.arity == n) = decide (q.sym = ⟨a, n⟩) := by
 rw [Bool.eq_iff_iff]; simp [Pr.sym]
theorem h123 (p : Pg) (hl : p.procs.length < 2 ^ 40) (s : Sym) : Pure (PC GL) 123 [encPg p, encSym s] (.i (findS s p.syms)) := by
 obtain ⟨a, n⟩ := s
 refine k123.pure (by simp) (by simp [go_sem]) (by simp [go_sem]) ?_
 simp -implicitDefEqProofs only [go_sem, c123, r123, encPg, encSym]
 refine bQ hC (fun j => Sym.mk a n ∉ p.syms.take j) (fun j => [(5, .i j)]) [2, 3] p.procs.length (by simp) ?_ ?_
 ·exact Wk.pick (by simp) (by simp [go_sem])
 ·intro j hj hI
  simp -implicitDefEqProofs only [go_sem]
  refine aG (fun hlt => ?_) (fun hlt => ?_)
  ·have hlt := aH hlt
   have hlt' : j < p.syms.length := by simpa [Pg.syms] using hlt
   have w5 : IntKind.i64.wrap ((j : Int) + 1) = (j : Int) + 1 := aF _ (by omega)
   have e := sym_eq p.procs[j] a n
   simp -implicitDefEqProofs only [go_sem, hlt, aQ, encPr]
   have cont : decide (p.procs[j].sym = ⟨a, n⟩) = false -> Sym.mk a n ∉ p.syms.take (j + 1) := fun hx => by
    rw [bE hlt', List.mem_append, List.mem_singleton]
    rintro (h | h)
    ·exact hI h
    ·refine of_decide_eq_false hx ?_
     simp only [Pg.syms, List.getElem_map] at h
     exact h.symm
   have hit : decide (p.procs[j].sym = ⟨a, n⟩) = true -> findS ⟨a, n⟩ p.syms = j := fun hx => by
    rw [findS, idxS_hit hlt' hI (by simp only [Pg.syms, List.getElem_map]; exact (of_decide_eq_true hx).symm)]
   rw [<- e] at cont hit
   rcases h1 : p.procs[j].name == a with _ | _
   ·rw [h1] at cont
    simp -implicitDefEqProofs only [go_sem]
    exact ⟨cont rfl, Wk.slots (by simp) (by simp [go_sem, w5]) (by simp [go_sem])⟩
   ·simp -implicitDefEqProofs only [go_sem, hlt, aQ, encPr]
    rcases h2 : p.procs[j].arity == n with _ | _
    ·rw [h1, h2] at cont
     simp -implicitDefEqProofs only [go_sem]
     exact ⟨cont rfl, Wk.slots (by simp) (by simp [go_sem, w5]) (by simp [go_sem])⟩
    ·rw [h1, h2] at hit
     simp -implicitDefEqProofs only [go_sem]
     refine aD ?_ ?_ <;> simp [go_sem, hit rfl]
  ·have hge := aI hlt
   rw [aS (by simpa [Pg.syms] using hge)] at hI
   simp -implicitDefEqProofs only [go_sem, hlt]
   refine aD ?_ ?_ <;> simp [go_sem, findS, idxS_none hI]
theorem gkind_sym {t : Tm} (h : t.gkind ≠ 0) : t.isSym = true := by
 unfold Tm.gkind at h
 rcases hs : t.isSym with _ | _
 ·simp [hs] at h
 ·rfl
theorem goal_sym {t : Tm} (h : (t.goal.1 == 1) = true) : t.goal.2.2.isSym = true := by
 have h : t.goal.1 = 1 := by simpa using h
 unfold Tm.goal at h ⊢
 split at h
 ·rename_i g p h1 h2
  split at h
  ·simp at h
  ·rename_i hn
   rw [if_neg hn]
   exact gkind_sym fun e => hn (.inr (.inr (.inr e)))
 ·simp at h
 ·split at h
  ·simp at h
  ·rename_i hn
   rw [if_neg hn]
   exact gkind_sym hn
theorem h221 (t : Tm) : Pure (PC GL) 221 [enc t] (.tup [encSym (match t.callee with | some s => s | none => .zero), .b t.callee.isSome]) := by
 have q98 := h98 (GL := GL) t
 simp only [encG] at q98
 have q202 := h202 (GL := GL) t.goal.2.2
 rcases hx : t.goal.1 == 1 with _ | _
 ·have e : t.callee = none := by simp only [Tm.callee, hx]; rfl
  have e1 : (t.goal.1 != 1) = true := by simp [bne, hx]
  rw [e]
  refine k221.pure (by simp) (by simp [go_sem]) (by simp [go_sem]) ?_
  simp -implicitDefEqProofs only [c221, r221, go_sem]
  refine aC hC q98 ?_
  simp -implicitDefEqProofs only [go_sem, e1]
  refine aD ?_ ?_ <;> simp [go_sem, Sym.zero, encSym]
 ·have e : t.callee = some t.goal.2.2.sym := by simp only [Tm.callee, hx, if_true]
  have e1 : (t.goal.1 != 1) = false := by simp [bne, hx]
  rw [goal_sym hx, if_pos rfl] at q202
  rw [e]
  refine k221.pure (by simp) (by simp [go_sem]) (by simp [go_sem]) ?_
  simp -implicitDefEqProofs only [c221, r221, go_sem]
  refine aC hC q98 ?_
  simp -implicitDefEqProofs only [go_sem, e1]
  refine aC hC q202 ?_
  simp -implicitDefEqProofs only [go_sem, encSym]
  refine aD ?_ ?_ <;> simp [go_sem]
theorem h146 (p : Pg) (hl : p.procs.length < 2 ^ 40) (goals : List Tm) (hg : goals.length < 2 ^ 40) (more : List Sym) (hm : more.length < 2 ^ 30) : Pure (PC GL) 146 [encPg p, .sl 4 (goals.map enc), .sl 2 (more.map encSym)] (.b (okCalls p.syms more goals)) := by
 refine k146.pure (by simp) (by simp [go_sem]) (by simp [go_sem]) ?_
 simp -implicitDefEqProofs only [go_sem, c146, r146, encPg]
 refine bQ hC (fun j => okCalls p.syms more (goals.take j) = true) (fun j => [(7, .i j)]) [1, 2, 3] goals.length rfl ?_ ?_
 ·exact Wk.pick (by simp) (by simp [go_sem])
 ·intro j hj hI
  simp -implicitDefEqProofs only [go_sem]
  refine aG (fun hlt => ?_) (fun hlt => ?_)
  ·have hlt := aH hlt
   have w5 : IntKind.i64.wrap ((j : Int) + 1) = (j : Int) + 1 := aF _ (by omega)
   have hs := cS hlt fun t => okOpt (fun s => decide (s ∈ p.syms) || decide (s ∈ more)) t.callee
   have q221 := h221 (GL := GL) goals[j]
   simp -implicitDefEqProofs only [go_sem, hlt, aQ]
   refine aC hC q221 ?_
   rcases hc : goals[j].callee with _ | s
   ·rw [hc] at hs
    simp -implicitDefEqProofs only [go_sem, encSym, Option.isSome_none]
    exact ⟨by unfold okCalls at hI ⊢; rw [hs, hI]; rfl, Wk.slots (by simp) (by simp [go_sem, w5]) (by simp [go_sem])⟩
   ·rw [hc] at hs
    have q123 := h123 (GL := GL) p hl s
    have q105 := h105 (GL := GL) more s hm
    have hn := findS_neg s p.syms
    simp only [encPg, encSym] at q123 q105
    simp -implicitDefEqProofs only [go_sem, encSym, Option.isSome_some]
    refine aC hC q123 ?_
    simp -implicitDefEqProofs only [go_sem, hn]
    rcases h1 : decide (s ∈ p.syms) with _ | _
    ·simp -implicitDefEqProofs only [go_sem, Bool.not_false]
     refine aC hC q105 ?_
     rcases h2 : decide (s ∈ more) with _ | _
     ·have : okCalls p.syms more goals = false := List.all_eq_false.2 ⟨_, List.getElem_mem hlt, by simp [hc, okOpt, h1, h2]⟩
      simp -implicitDefEqProofs only [go_sem, Bool.not_false]
      refine aD ?_ ?_ <;> simp [go_sem, this]
     ·simp -implicitDefEqProofs only [go_sem, Bool.not_true]
      exact ⟨by unfold okCalls at hI ⊢; rw [hs, hI]; simp [okOpt, h2], Wk.slots (by simp) (by simp [go_sem, w5]) (by simp [go_sem])⟩
    ·simp -implicitDefEqProofs only [go_sem, Bool.not_true]
     exact ⟨by unfold okCalls at hI ⊢; rw [hs, hI]; simp [okOpt, h1], Wk.slots (by simp) (by simp [go_sem, w5]) (by simp [go_sem])⟩
  ·have hge := aI hlt
   rw [aS hge] at hI
   simp -implicitDefEqProofs only [go_sem, hlt]
   refine aD ?_ ?_ <;> simp [go_sem, hI]
end Go.Rip
namespace Go.Rip
open Go Go.Proofs
variable {GL : Glob}
theorem rep_nil_sl {E : Env} {A : Nat -> Nat -> Prop} {G : Gd} {w : World} {u : Value} (sz : Nat) (h : Rep E A G w (.v (.slice none 0 0)) u) : Rep E A G w (.sl sz []) u := by
 simp only [Rep] at h ⊢
 exact ⟨none, 0, 0, h, rfl, Nat.le_refl _, by decide, .inl trivial⟩
theorem Pure.wkArgs {f : FuncId} {args args' : List AV} {v : AV} (hp : Pure (PC GL) f args v) (ha : ∀ E A G w vs, Reps E A G w args' vs -> Reps E A G w args vs) : Pure (PC GL) f args' v :=
 fun h E A G w vs hW hr => hp h E A G w vs hW (ha E A G w vs hr)
attribute [local irreducible] Pure
theorem idxS_take {s : Sym} : ∀ {l : List Sym} {j : Nat}, s ∈ l.take j -> ∃ i, idxS s l = some i /\ i < j
 | [], j, h => by simp at h
 | k :: r, 0, h => by simp at h
 | k :: r, j + 1, h => by
  by_cases e : s = k
  ·exact ⟨0, by simp [idxS, e], by omega⟩
  ·simp only [List.take_succ_cons, List.mem_cons, e, false_or] at h
   obtain ⟨i, h1, h2⟩ := idxS_take h
   exact ⟨i + 1, by simp [idxS, e, h1], by omega⟩
theorem find_self {l : List Sym} {j : Nat} (hj : j < l.length) : (findS l[j] l != (j : Int)) = decide (l[j] ∈ l.take j) := by
 by_cases h : l[j] ∈ l.take j
 ·obtain ⟨i, h1, h2⟩ := idxS_take h
  rw [findS, h1]
  simp only [h, decide_true]
  simp [bne]; omega
 ·rw [findS, idxS_hit hj h rfl]
  simp [h]
def Pg.okM (p : Pg) (more : List Sym) : Bool := p.tabled && p.procs.all (okClauses p.syms more)
theorem okM_nil (p : Pg) : p.okM [] = p.ok := rfl
theorem h199 (p : Pg) (hp : p.fits) (more : List Sym) (hm : more.length < 2 ^ 30) : Pure (PC GL) 199 [encPg p, .sl 2 (more.map encSym)] (.b (p.okM more)) := by
 have h4 := hp.l
 have hall : p.okM more = ((!decide ((p.procs.length : Int) > 64) && headsOk [] p.procs) && p.procs.all (okClauses p.syms more)) := rfl
 have q123 := fun s => h123 (GL := GL) p hp.l s
 simp only [encPg] at q123
 refine k199.pure (by simp) (by simp [go_sem]) (by simp [go_sem]) ?_
 simp -implicitDefEqProofs only [go_sem, c199, r199, encPg]
 refine aG (fun h1 => ?_) (fun h1 => ?_)
 ·rw [h1] at hall
  simp -implicitDefEqProofs only [go_sem, h1]
  refine aD ?_ ?_ <;> simp [go_sem, hall]
 rw [h1, Bool.not_false, Bool.true_and] at hall
 simp -implicitDefEqProofs only [go_sem, h1]
 refine bQ hC (fun i => headsOk [] (p.procs.take i) = true /\ (p.procs.take i).all (okClauses p.syms more) = true) (fun i => [(5, .i i)]) [1, 2] p.procs.length ⟨rfl, rfl⟩ ?_ ?_
 ·exact Wk.pick (by simp) (by simp [go_sem])
 rintro i hi ⟨hI, hI2⟩
 simp -implicitDefEqProofs only [go_sem]
 refine aG (fun hlt => ?_) (fun hlt => ?_)
 ·have hlt := aH hlt
  have hlt' : i < p.syms.length := by simpa [Pg.syms] using hlt
  have w5 : IntKind.i64.wrap ((i : Int) + 1) = (i : Int) + 1 := aF _ (by omega)
  have hmm := List.getElem_mem hlt
  have hs := headsOk_snoc hlt
  have hcl := hp.c _ hmm
  have hct := hp.t _ hmm
  have q247 := h247 (GL := GL) p.procs[i].name (hp.n _ hmm)
  have q26 := h26 (GL := GL) p.procs[i].sym
  have q123 := q123 p.procs[i].sym
  have ef := find_self hlt'
  have ei : p.syms[i] = p.procs[i].sym := by simp [Pg.syms]
  have et : p.syms.take i = (p.procs.take i).map Pr.sym := by simp [Pg.syms]
  rw [ei, et] at ef
  have bad : p.procs[i].head ((p.procs.take i).map Pr.sym) = false -> p.okM more = false := fun e => by
   rw [hall, headsOk_stop (j := i + 1) (by rw [hs, hI, e]; rfl)]; rfl
  have ok : p.procs[i].head ((p.procs.take i).map Pr.sym) = true -> headsOk [] (p.procs.take (i + 1)) = true := fun e => by rw [hs, hI, e]; rfl
  have snoc := cS hlt (okClauses p.syms more)
  have cl : okClauses p.syms more p.procs[i] = false -> p.okM more = false := fun e => by
   rw [hall, show p.procs.all (okClauses p.syms more) = false from List.all_eq_false.2 ⟨_, hmm, by simp [e]⟩, Bool.and_false]
  clear hs hall
  generalize hq : p.procs[i] = q at *
  have hsym : q.sym = ⟨q.name, q.arity⟩ := rfl
  rw [hsym] at q26 q123 ef
  simp only [encSym] at q26 q123
  simp -implicitDefEqProofs only [go_sem, hlt, aQ, hq, encPr, Nat.reduceAdd]
  refine aC hC q247 ?_
  repeat' (first | simp -implicitDefEqProofs only [go_sem, *] | with_reducible refine aT (fun _ => ?_) (fun _ => ?_) | with_reducible refine aX (fun _ => ?_) (fun _ => ?_) | with_reducible refine aG (fun _ => ?_) (fun _ => ?_) | with_reducible refine aD ?_ ?_ | ((with_reducible apply aC hC); (exact q123)) | ((with_reducible apply aC hC); (exact q26)) | ((with_reducible refine And.intro ?bnd ?_); (case bnd => decide)) | fail)
  all_goals first
   | with_reducible refine is_loop ?_
   | (rw [bad (by simp_all [Pr.head, Pr.sym])]; done)
   | (exfalso; simp_all; done)
  have hI3 : headsOk [] (p.procs.take (i + 1)) = true := ok (by simp_all [Pr.head, Pr.sym])
  have hsub : ∀ j, j <= q.clauses.length -> (q.clauses.take j).all (fun c => c.ok q.arity && okCalls p.syms more c.body) = false -> p.okM more = false := fun j _ e => cl (by
   rw [okClauses, <- List.take_append_drop j q.clauses, List.all_append, e]; rfl)
  refine bQ hC (fun j => (q.clauses.take j).all (fun c => c.ok q.arity && okCalls p.syms more c.body) = true) (fun j => [(9, .i j)]) [1, 2, 5, 6] q.clauses.length rfl ?_ ?_
  ·exact Wk.pick (by simp) (by simp [go_sem])
  intro j hj hJ
  simp -implicitDefEqProofs only [go_sem]
  refine aG (fun hlt2 => ?_) (fun hlt2 => ?_)
  ·have hlt2 := aH hlt2
   have w6 : IntKind.i64.wrap ((j : Int) + 1) = (j : Int) + 1 := aF _ (by omega)
   have hm2 := List.getElem_mem hlt2
   have hsz := hct _ hm2
   have hbl := body_len q.clauses[j]
   have q144 := h144 (GL := GL) q.clauses[j] q.arity hsz.1 hsz.2
   have q146 := h146 (GL := GL) p hp.l q.clauses[j].body (by omega) more hm
   have hs2 := cS hlt2 fun c => c.ok q.arity && okCalls p.syms more c.body
   rw [hJ, Bool.true_and] at hs2
   simp only [encCl, encPg] at q144 q146
   simp -implicitDefEqProofs only [go_sem, hlt2, aQ, encCl]
   refine aC hC q144 ?_
   rcases hok : q.clauses[j].ok q.arity with _ | _
   ·have e := hsub (j + 1) hlt2 (by rw [hs2, hok]; rfl)
    simp -implicitDefEqProofs only [go_sem, Bool.not_false]
    refine aD ?_ ?_ <;> simp [go_sem, e]
   ·simp -implicitDefEqProofs only [go_sem, Bool.not_true]
    refine aC hC q146 ?_
    rcases hoc : okCalls p.syms more q.clauses[j].body with _ | _
    ·have e := hsub (j + 1) hlt2 (by rw [hs2, hok, hoc]; rfl)
     simp -implicitDefEqProofs only [go_sem, Bool.not_false]
     refine aD ?_ ?_ <;> simp [go_sem, e]
    ·simp -implicitDefEqProofs only [go_sem, Bool.not_true]
     exact ⟨by rw [hs2, hok, hoc]; rfl, Wk.slots (by simp) (by simp [go_sem, w6]) (by simp [go_sem, free_encCl.rens, free_encCl.bds, free_encPr.rens, free_encPr.bds])⟩
  ·have hge2 := aI hlt2
   rw [aS hge2] at hJ
   simp -implicitDefEqProofs only [go_sem, hlt2]
   exact ⟨⟨hI3, by rw [okClauses]; exact hJ⟩, Wk.slots (by simp) (by simp [go_sem, w5]) (by simp [go_sem, free_encPr.rens, free_encPr.bds])⟩
 ·have hge := aI hlt
  rw [aS hge] at hI hI2
  rw [hI, hI2] at hall
  simp -implicitDefEqProofs only [go_sem, hlt]
  refine aD ?_ ?_ <;> simp [go_sem, hall]
theorem h199n (p : Pg) (hp : p.fits) : Pure (PC GL) 199 [encPg p, .v (.slice none 0 0)] (.b p.ok) := by
 have := h199 (GL := GL) p hp [] (by simp)
 rw [okM_nil] at this
 refine this.wkArgs fun E A G w vs hr => ?_
 simp only [Reps] at hr ⊢
 obtain ⟨u, us, rfl, h1, u2, us2, rfl, h2, rfl⟩ := hr
 exact ⟨u, _, rfl, h1, u2, _, rfl, rep_nil_sl 2 h2, rfl⟩
theorem h146n (p : Pg) (hl : p.procs.length < 2 ^ 40) (goals : List Tm) (hg : goals.length < 2 ^ 40) : Pure (PC GL) 146 [encPg p, .sl 4 (goals.map enc), .v (.slice none 0 0)] (.b (okCalls p.syms [] goals)) := by
 refine (h146 (GL := GL) p hl goals hg [] (by simp)).wkArgs fun E A G w vs hr => ?_
 simp only [Reps] at hr ⊢
 obtain ⟨u, us, rfl, h1, u2, us2, rfl, h2, u3, us3, rfl, h3, rfl⟩ := hr
 exact ⟨u, _, rfl, h1, u2, _, rfl, h2, u3, _, rfl, rep_nil_sl 2 h3, rfl⟩
theorem h117 (p : Pg) (hp : p.fits) : Pure (PC GL) 117 [encPg p] (.b p.ok) := by
 have q := h199n (GL := GL) p hp
 simp only [encPg] at q
 refine k117.pure (by simp) (by simp [go_sem]) (by simp [go_sem]) ?_
 simp -implicitDefEqProofs only [go_sem, c117, r117, encPg]
 repeat' (first | simp -implicitDefEqProofs only [go_sem, *] | with_reducible refine aT (fun _ => ?_) (fun _ => ?_) | with_reducible refine aX (fun _ => ?_) (fun _ => ?_) | with_reducible refine aG (fun _ => ?_) (fun _ => ?_) | with_reducible refine aD ?_ ?_ | ((with_reducible apply aC hC); (exact q)) | ((with_reducible refine And.intro ?bnd ?_); (case bnd => decide)) | fail)
 all_goals simp_all [go_sem]
theorem h127 (q : Qy) (hq : q.fits) : Pure (PC GL) 127 [encQy q] (.b q.ok) := by
 have h4 := aV q.goals
 have hsz := hq.s
 have q170 := h170 (GL := GL) q.goals hq.s hq.t
 have q209 := h209 (GL := GL) q.goals hq.s
 have q210 := h210 (GL := GL) q.goals q.vars hq.s
 have e2 : (!q.goals.any fun t => t.goal.1 == 0) = q.goals.all fun t => !(t.goal.1 == 0) := by rw [List.not_any_eq_all_not]
 unfold Qy.ok
 rw [e2]
 obtain ⟨B2, e3⟩ : ∃ b, (q.goals.all fun t => !(t.goal.1 == 0)) = b := ⟨_, rfl⟩
 rw [e3]
 clear e2
 generalize normT q.goals q.vars = bn at q210 ⊢
 refine k127.pure (by simp) (by simp [go_sem]) (by simp [go_sem]) ?_
 simp -implicitDefEqProofs only [go_sem, c127, r127, encQy]
 repeat' (first | simp -implicitDefEqProofs only [go_sem, *] | with_reducible refine aT (fun _ => ?_) (fun _ => ?_) | with_reducible refine aX (fun _ => ?_) (fun _ => ?_) | with_reducible refine aG (fun _ => ?_) (fun _ => ?_) | with_reducible refine aD ?_ ?_ | ((with_reducible apply aC hC); (exact q170)) | ((with_reducible apply aC hC); (exact q209)) | ((with_reducible apply aC hC); (exact q210)) | ((with_reducible refine And.intro ?bnd ?_); (case bnd => decide)) | fail)
 all_goals first
  | with_reducible refine is_loop ?_
  | (clear e3; simp_all [go_sem]; done)
  | (clear e3; simp_all [go_sem]; intros; omega)
  | (clear e3; simp_all [go_sem]; rename_i hd; intro i1 i2; rcases hd with hd | hd; exact absurd i2 (by simp [hd]); omega)
 refine bQ hC (fun j => (q.goals.take j).all (fun t => !(t.goal.1 == 0)) = true) (fun j => [(4, .i j)]) [1] q.goals.length rfl ?_ ?_
 ·exact Wk.pick (by simp) (by simp [go_sem])
 intro j hj hI2
 simp -implicitDefEqProofs only [go_sem]
 refine aG (fun hlt2 => ?_) (fun hlt2 => ?_)
 ·have hlt2 := aH hlt2
  have w5 : IntKind.i64.wrap ((j : Int) + 1) = (j : Int) + 1 := aF _ (by omega)
  simp -implicitDefEqProofs only [go_sem, hlt2, aQ]
  have q98 := h98 (GL := GL) q.goals[j]
  simp only [encG] at q98
  refine aC hC q98 ?_
  simp -implicitDefEqProofs only [go_sem]
  refine aG (fun hx => ?_) (fun hx => ?_)
  ·have : (q.goals.all fun t => !(t.goal.1 == 0)) = false := List.all_eq_false.2 ⟨_, List.getElem_mem hlt2, by simp [hx]⟩
   rw [e3] at this
   simp -implicitDefEqProofs only [go_sem, hx]
   refine aD ?_ ?_ <;> simp [go_sem, this]
  ·simp -implicitDefEqProofs only [go_sem, hx]
   exact ⟨by rw [cS hlt2, hI2, hx]; rfl, Wk.slots (by simp) (by simp [go_sem, w5]) (by simp [go_sem])⟩
 have hge2 := aI hlt2
 rw [aS hge2, e3] at hI2
 simp -implicitDefEqProofs only [go_sem, hlt2]
 clear e3
 refine aD ?_ ?_ <;> simp_all [go_sem]
theorem h55 (p : Pg) (hp : p.fits) (q : Qy) (hq : q.fits) : Pure (PC GL) 55 [encPg p, encQy q] (.i (okE (okQuery p q))) := by
 have h4 := aV q.goals
 have hsz := hq.s
 have q117 := h117 (GL := GL) p hp
 have q127 := h127 (GL := GL) q hq
 have q146 := h146n (GL := GL) p hp.l q.goals (by omega)
 simp only [encPg] at q117 q146
 simp only [encQy] at q127
 unfold okQuery
 refine k55.pure (by simp) (by simp [go_sem]) (by simp [go_sem]) ?_
 simp -implicitDefEqProofs only [go_sem, c55, r55, encPg, encQy]
 repeat' (first | simp -implicitDefEqProofs only [go_sem, *] | with_reducible refine aT (fun _ => ?_) (fun _ => ?_) | with_reducible refine aX (fun _ => ?_) (fun _ => ?_) | with_reducible refine aG (fun _ => ?_) (fun _ => ?_) | with_reducible refine aD ?_ ?_ | ((with_reducible apply aC hC); (exact q117)) | ((with_reducible apply aC hC); (exact q127)) | ((with_reducible apply aC hC); (exact q146)) | ((with_reducible refine And.intro ?bnd ?_); (case bnd => decide)) | fail)
 all_goals simp_all [go_sem, okE]
end Go.Rip
namespace Go.Rip
open Go Go.Proofs
variable {GL : Glob}
attribute [local irreducible] Pure
theorem h94at (t : Tm) (ht : t.wid) (left deep : Int) (hl : 0 <= left /\ left < 2 ^ 40) (hd : 0 <= deep /\ deep < 2 ^ 40) (k : Nat) (h : List AObj) (hk : h[k]? = some (.cells 3 [.i left])) :
  PC GL (.fn 94) [enc t, .ref k 0, .i deep] h fun r h' => h' = h.set k (.cells 3 [.i (t.cnt left deep).2]) /\ r = .val (.b (t.cnt left deep).1) := by
 have := lift2 (h1 := cel left) (h2 := cel (t.cnt left deep).2) (by simp [bd]) (by simp [bds, bd, cel, go_sem]) cel_bd cel_bd rfl (h94 (GL := GL) t ht left deep hl hd) (fun _ => k) (H := h) (H2 := h.set k (.cells 3 [.i (t.cnt left deep).2])) ?_ ?_ (by simp) ?_ ?_
 ·simpa [rens, ren, ren_enc] using this
 ·intro i x hx
  cases i with
  | zero => simp [cel] at hx; subst hx; simpa [renO, rens, ren] using hk
  | succ i => simp [cel] at hx
 ·intro i x hx
  cases i with
  | zero => simp [cel] at hx; subst hx; simp [renO, rens, ren, aJ hk]
  | succ i => simp [cel] at hx
 ·intro j hj
  rw [aK (hj 0 (by simp [cel]))]
 ·intro i j hi hj _
  simp [cel] at hi hj
  omega
structure Pr.small (q : Pr) : Prop where
 n : q.name.length <= 500
 c : q.clauses.length <= 120
 t : ∀ c ∈ q.clauses, sizes c.parts <= 5000 /\ strss c.parts
structure Pg.small (p : Pg) : Prop where
 l : p.procs.length <= 80
 q : ∀ q ∈ p.procs, q.small
theorem Pg.small.fits {p : Pg} (h : p.small) : p.fits :=
 ⟨by have := h.l; omega, fun q hq => by have := (h.q q hq).n; omega, fun q hq => by have := (h.q q hq).c; omega, fun q hq c hc => ⟨by have := ((h.q q hq).t c hc).1; omega, ((h.q q hq).t c hc).2⟩⟩
theorem h27 (p : Pg) (hw : p.wid) (h : List AObj) : Gives (PC GL) 27 [encPg p] h fun x h' => ∃ b, x = .b b /\ Keep All h h' /\ (b = true -> p.small) := by
 have hpl := hw.2
 refine k27.gives (by simp) ?_
 simp -implicitDefEqProofs only [go_sem, c27, r27, encPg, aP, bA, List.append_assoc]
 refine aG (fun h1 => ?_) (fun h1 => ?_)
 ·simp -implicitDefEqProofs only [go_sem, h1]
  exact aN (by simp) ⟨false, rfl, Keep.app _ _ _, fun e => by cases e⟩
 have hl80 : p.procs.length <= 80 := by have := of_decide_eq_false h1; omega
 simp -implicitDefEqProofs only [go_sem, h1]
 refine aZ hC (fun i (a : Int × Int) => [(20, .i i), (18, .sl 3 (p.procs.map encPr)), (19, .i p.procs.length), (3, .ref (h.length + 1) 0), (4, .i a.2)])
  (fun i (a : Int × Int) h' => (0 <= a.1 /\ a.1 <= 5000) /\ (0 <= a.2 /\ a.2 <= 120) /\ (∀ q ∈ p.procs.take i, q.small) /\ Keep All h h' /\ h'[h.length + 1]? = some (.cells 3 [.i a.1])) p.procs.length ?_ ?_
 ·exact ⟨(5000, 0), _, Wk.pick (by simp) (by simp [go_sem]), by simp, by simp, fun q hq => by simp at hq, Keep.app _ _ _, aP h _ 1⟩
 rintro i ⟨z, m⟩ h2 hi ⟨hz, hmm, hI, hk2, o1⟩
 simp -implicitDefEqProofs only [go_sem]
 refine aG (fun hlt => ?_) (fun hlt => ?_)
 ·have hlt := aH hlt
  have w5 : IntKind.i64.wrap ((i : Int) + 1) = (i : Int) + 1 := aF _ (by omega)
  have hqw := hw.1 _ (List.getElem_mem hlt)
  have hti : p.procs.take (i + 1) = p.procs.take i ++ [p.procs[i]] := bE hlt
  generalize hq : p.procs[i] = q at *
  obtain ⟨n1, n2, n3⟩ := hqw
  have w6 : IntKind.i64.wrap (m + (q.clauses.length : Int)) = m + q.clauses.length := aF _ (by simp only at hmm; omega)
  have fin : ∀ h', Keep All h h' -> ∃ y h'', Wk GL h.length [(0, .v (.bool false))] h' [(0, y)] h'' /\ ∃ x, ARes.val y = ARes.val x /\ ∃ b, x = .b b /\ Keep All h h'' /\ (b = true -> p.small) := fun h' hk => aN hk.1 ⟨false, rfl, hk, fun e => by cases e⟩
  have ha := hk2.trans (Keep.app All h2 [.cells 60 [.str q.name, .i q.arity, .sl 5 (q.clauses.map encCl)]])
  simp -implicitDefEqProofs only [go_sem, hlt, aQ, hq, encPr, w6]
  rcases hb1 : decide (m + (q.clauses.length : Int) > 120) with _ | _
  ·simp -implicitDefEqProofs only [go_sem]
   rcases hb2 : decide ((q.name.length : Int) > 500) with _ | _
   ·have hb1 := of_decide_eq_false hb1
    have hb2 := of_decide_eq_false hb2
    simp -implicitDefEqProofs only [go_sem]
    have hc120 : q.clauses.length <= 120 := by simp only at hmm; omega
    refine aZ hC (fun j (z : Int) => [(40, .i j), (38, .sl 5 (q.clauses.map encCl)), (39, .i q.clauses.length), (3, .ref (h.length + 1) 0), (4, .i (m + q.clauses.length)), (20, .i i), (18, .sl 3 (p.procs.map encPr)), (19, .i p.procs.length)])
     (fun j (z : Int) h' => (0 <= z /\ z <= 5000) /\ (∀ c ∈ q.clauses.take j, sizes c.parts <= 5000 /\ strss c.parts) /\ Keep All h h' /\ h'[h.length + 1]? = some (.cells 3 [.i z])) q.clauses.length ?_ ?_
    ·exact ⟨z, _, Wk.pick ha.1 (by simp [go_sem]), hz, fun q hq => by simp at hq, ha, aE o1⟩
    rintro j z1 h3 hj ⟨hz1, hJ, hk3, o3⟩
    simp -implicitDefEqProofs only [go_sem]
    refine aG (fun hlt2 => ?_) (fun hlt2 => ?_)
    ·have hlt2 := aH hlt2
     have w7 : IntKind.i64.wrap ((j : Int) + 1) = (j : Int) + 1 := aF _ (by omega)
     have hcw := n2 _ (List.getElem_mem hlt2)
     have htj : q.clauses.take (j + 1) = q.clauses.take j ++ [q.clauses[j]] := bE hlt2
     generalize hc : q.clauses[j] = c at *
     obtain ⟨⟨w1, w1'⟩, ⟨w2, w2'⟩, w3, w3'⟩ := hcw
     obtain ⟨ls, hls⟩ : ∃ ls, ls = [c.head, c.guard, c.body] := ⟨_, rfl⟩
     have lsw : ∀ l ∈ ls, wids l /\ l.length <= 2 ^ 47 := by
      intro l hl
      rw [hls] at hl
      simp only [List.mem_cons, List.not_mem_nil, or_false] at hl
      rcases hl with rfl | rfl | rfl
      ·exact ⟨w1, w1'⟩
      ·exact ⟨w2, w2'⟩
      ·exact ⟨w3, w3'⟩
     have lsl : ls.length = 3 := by rw [hls]; rfl
     have hk4 : ∀ l, Keep All h (h3 ++ l) := fun l => hk3.trans (Keep.app _ _ _)
     simp -implicitDefEqProofs only [go_sem, hlt2, aQ, hc, encCl, List.append_assoc, show Nat.blt 1 3 = true from rfl, show Nat.blt 2 3 = true from rfl, show Nat.blt 0 3 = true from rfl]
     refine aZ hC (fun a (y : Int × Nat) => [(52, .i a), (50, .own y.2 1 (ls.map encL)), (51, .i (3 : Nat)), (40, .i j), (38, .sl 5 (q.clauses.map encCl)), (39, .i q.clauses.length), (3, .ref (h.length + 1) 0), (4, .i (m + q.clauses.length)), (20, .i i), (18, .sl 3 (p.procs.map encPr)), (19, .i p.procs.length)])
      (fun a (y : Int × Nat) h' => (0 <= y.1 /\ y.1 <= 5000) /\ cnts (ls.take a).flatten z1 1 = (true, y.1) /\ Keep All h h' /\ h'[h.length + 1]? = some (.cells 3 [.i y.1])) 3 ?_ ?_
     ·refine ⟨(z1, h3.length + 1), _, Wk.pick (hk4 _).1 ?_, hz1, rfl, hk4 _, aE o3⟩
      simp [go_sem, hls, encL]
     rintro a ⟨z2, k2⟩ h4 ha3 ⟨hz2, hA, hk5, o4⟩
     simp -implicitDefEqProofs only [go_sem]
     refine aG (fun hlt3 => ?_) (fun hlt3 => ?_)
     ·have hlt3 := aH hlt3
      have hlt3' : a < ls.length := by omega
      have w8 : IntKind.i64.wrap ((a : Int) + 1) = (a : Int) + 1 := aF _ (by omega)
      obtain ⟨lw, ll⟩ := lsw _ (List.getElem_mem hlt3')
      have hta : (ls.take (a + 1)).flatten = (ls.take a).flatten ++ ls[a] := flat_snoc hlt3'
      generalize hl : ls[a] = l at *
      have bb : bounds (a : Int) (ls.map encL).length := by simp [bounds]; omega
      simp -implicitDefEqProofs only [go_sem, hlt3, hlt3', aQ, hl, encL]
      refine aZ hC (fun b (z : Int) => [(58, .i b), (56, .sl 4 (l.map enc)), (57, .i l.length), (52, .i a), (50, .own k2 1 (ls.map encL)), (51, .i (3 : Nat)), (40, .i j), (38, .sl 5 (q.clauses.map encCl)), (39, .i q.clauses.length), (3, .ref (h.length + 1) 0), (4, .i (m + q.clauses.length)), (20, .i i), (18, .sl 3 (p.procs.map encPr)), (19, .i p.procs.length)])
       (fun b (z : Int) h' => (0 <= z /\ z <= 5000) /\ cnts ((ls.take a).flatten ++ l.take b) z1 1 = (true, z) /\ Keep All h h' /\ h'[h.length + 1]? = some (.cells 3 [.i z])) l.length ?_ ?_
      ·refine ⟨z2, h4, Wk.pick hk5.1 ?_, hz2, by rw [List.take_zero, List.append_nil]; exact hA, hk5, o4⟩
       simp [go_sem]
      rintro b z3 h5 hb ⟨hz3, hB, hk6, o5⟩
      simp -implicitDefEqProofs only [go_sem]
      refine aG (fun hlt4 => ?_) (fun hlt4 => ?_)
      ·have hlt4 := aH hlt4
       have w9 : IntKind.i64.wrap ((b : Int) + 1) = (b : Int) + 1 := aF _ (by omega)
       have q94 := h94at (GL := GL) l[b] (wids_mem lw _ (List.getElem_mem hlt4)) z3 1 (by omega) (by omega) (h.length + 1) (h5 ++ [.cells 24 [.v (.int .i64 l[b].kind), .v (.int .i64 l[b].n), .str l[b].s, .sl 4 (l[b].l.map enc)]]) (aE o5)
       have hk7 := hk6.trans (Keep.app All h5 [.cells 24 [.v (.int .i64 l[b].kind), .v (.int .i64 l[b].n), .str l[b].s, .sl 4 (l[b].l.map enc)]])
       simp -implicitDefEqProofs only [go_sem, hlt4, aQ]
       refine call_any hC q94 fun r h6 ⟨e6, er⟩ => ?_
       subst er
       have hk8 : Keep All h h6 := by rw [e6]; exact hk7.turn _ (aE o5) (Nat.le_add_right _ _)
       rcases hy : l[b].cnt z3 1 with ⟨_ | _, z4⟩
       ·simp -implicitDefEqProofs only [go_sem, Bool.not_false]
        exact fin _ hk8
       ·have hcn : cnts ((ls.take a).flatten ++ l.take (b + 1)) z1 1 = (true, z4) := by
         rw [bE hlt4, <- List.append_assoc, cnts_app, hB]
         simp only [cnts, hy]
        have hz4 := cnts_le hz1.1 hcn
        simp -implicitDefEqProofs only [go_sem, Bool.not_true]
        refine ⟨z4, h6, Wk.pick hk8.1 (by simp [go_sem, w9]), by omega, hcn, hk8, ?_⟩
        rw [e6, hy]
        exact aJ (aE o5)
      ·have hge4 := aI hlt4
       rw [aS hge4] at hB
       simp -implicitDefEqProofs only [go_sem, hlt4]
       exact ⟨(z3, k2), h5, Wk.pick hk6.1 (by simp [go_sem, w8]), hz3, by rw [hta]; exact hB, hk6, o5⟩
     ·have hge3 := aI hlt3
      rw [aS (by omega)] at hA
      have hfl : ls.flatten = c.parts := by rw [hls]; simp [Cl.parts]
      rw [hfl] at hA
      have hx := cnts_true _ _ _ _ hz1.1 hA
      simp -implicitDefEqProofs only [go_sem, hlt3]
      refine ⟨z2, h4, Wk.pick hk5.1 (by simp [go_sem, w7]), hz2, ?_, hk5, o4⟩
      intro c' hc'
      rw [htj, List.mem_append, List.mem_singleton] at hc'
      rcases hc' with hc' | rfl
      ·exact hJ c' hc'
      ·exact ⟨by simp only at hx; omega, hx.2.2⟩
    ·have hge2 := aI hlt2
     rw [aS hge2] at hJ
     simp -implicitDefEqProofs only [go_sem, hlt2]
     refine ⟨(z1, m + q.clauses.length), h3, Wk.pick hk3.1 (by simp [go_sem, w5]), hz1, by simp only at hmm ⊢; omega, ?_, hk3, o3⟩
     intro q' hq'
     rw [hti, List.mem_append, List.mem_singleton] at hq'
     rcases hq' with hq' | rfl
     ·exact hI q' hq'
     ·exact ⟨by omega, hc120, hJ⟩
   ·simp -implicitDefEqProofs only [go_sem]
    exact fin _ ha
  ·simp -implicitDefEqProofs only [go_sem]
   exact fin _ ha
 ·have hge := aI hlt
  rw [aS hge] at hI
  simp -implicitDefEqProofs only [go_sem, hlt]
  exact aN hk2.1 ⟨true, rfl, hk2, fun _ => ⟨hl80, hI⟩⟩
end Go.Rip
