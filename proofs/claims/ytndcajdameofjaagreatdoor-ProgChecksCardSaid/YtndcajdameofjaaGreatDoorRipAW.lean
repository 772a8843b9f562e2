/- Check, CheckQuery, Find: the program's way. -/
import Derived.Test.YtndcajdameofjaaGreatDoorRipAV
import Derived.Test.YtndcajdameofjaaGreatDoorRipAQ

namespace Go.Rip
open Go Go.Proofs
variable {GL : Glob}
attribute [local irreducible] Pure
theorem h32 (p : Pg) (hp : p.fits) : Pure (PC GLs) 32 [encPg p] (.i (okE p.ok)) := by
  have q := fun h => h116 p hp h
  simp only [encPg] at q
  refine k32.pure (by simp) (by simp [go_sem]) (by simp [go_sem]) ?_
  simp -implicitDefEqProofs only [go_sem, c32, r32, encPg]
  refine call_gives hC (q _) fun x h1 ⟨y, hx, hk1, hy⟩ => ?_
  subst hx
  rcases hy with ⟨hy, k, rfl, hk⟩ | ⟨hy, rfl⟩
  · simp -implicitDefEqProofs only [go_sem]
    refine fin_pure ?_ ?_ <;> simp [go_sem]
  · simp -implicitDefEqProofs only [go_sem]
    refine fin_pure ?_ ?_ <;> simp [go_sem]
def Qy.ok (q : Qy) : Bool := decide ((q.goals.length : Int) ≤ 16) && (termsOk q.goals && (decide ((sizes q.goals : Int) ≤ 400) && (decide (q.vars ≤ 64) && (normT q.goals q.vars && !(q.goals.any fun t => t.goal.1 == 0)))))
structure Qy.fits (q : Qy) : Prop where
  s : sizes q.goals < 2 ^ 30
  t : strss q.goals
theorem h125 (q : Qy) (hq : q.fits) : Pure (PC GL) 125 [encQy q] (.b q.ok) := by
  have h4 := length_sizes q.goals
  have hsz := hq.s
  have q181 := h181 (GL := GL) q.goals hq.s hq.t
  have q203 := h203 (GL := GL) q.goals hq.s
  have q188 := h188 (GL := GL) q.goals 205 (fun t => t.goal.1 == 0) (by omega) (fun x _ => h205 x)
  unfold Qy.ok
  generalize (q.goals.any fun t => t.goal.1 == 0) = b3 at q188 ⊢
  rcases hok : termsOk q.goals with _ | _
  · simp only [hok, Bool.false_eq_true, if_false] at q181
    refine k125.pure (by simp) (by simp [go_sem]) (by simp [go_sem]) ?_
    simp -implicitDefEqProofs only [go_sem, c125, r125, encQy]
    repeat' (first | simp -implicitDefEqProofs only [go_sem, *] | with_reducible refine gdO_and (fun _ => ?_) (fun _ => ?_) | with_reducible refine pkO_and (fun _ => ?_) (fun _ => ?_) | with_reducible refine cdO_and (fun _ => ?_) (fun _ => ?_) | with_reducible refine fin_pure ?_ ?_ | ((with_reducible apply call_pure hC); (exact q181)) | ((with_reducible refine And.intro ?bnd ?_); (case bnd => decide)) | fail)
    all_goals simp_all [go_sem]
  · simp only [hok, if_true] at q181
    have q204 := h204 (GL := GL) q.goals q.vars hq.s hq.t hok
    refine k125.pure (by simp) (by simp [go_sem]) (by simp [go_sem]) ?_
    simp -implicitDefEqProofs only [go_sem, c125, r125, encQy]
    repeat' (first | simp -implicitDefEqProofs only [go_sem, *] | with_reducible refine gdO_and (fun _ => ?_) (fun _ => ?_) | with_reducible refine pkO_and (fun _ => ?_) (fun _ => ?_) | with_reducible refine cdO_and (fun _ => ?_) (fun _ => ?_) | with_reducible refine fin_pure ?_ ?_ | ((with_reducible apply call_pure hC); (exact q181)) | ((with_reducible apply call_pure hC); (exact q203)) | ((with_reducible apply call_pure hC); (exact q204)) | ((with_reducible apply call_pure hC); (exact q188)) | ((with_reducible refine And.intro ?bnd ?_); (case bnd => decide)) | fail)
    all_goals first
      | (simp_all [go_sem]; done)
      | (simp_all [go_sem]; intros; omega)
def okQuery (p : Pg) (q : Qy) : Bool := p.ok && (q.ok && okCalls p.syms [] q.goals)
theorem h145 (p : Pg) (hp : p.fits) (q : Qy) (hq : q.fits) (h : List AObj) : Gives (PC GLs) 145 [encPg p, encQy q] h fun x h' => ∃ a b c, x = .tup [.agg [a, b, c], .i (okE (okQuery p q))] ∧ Keep All h h' ∧
    (okQuery p q = true → ∃ k, (a = .sl 3 (p.procs.map encPr) ∧ b = .mp k ∧ c = .v (.map none)) ∧ h'[k]? = some (tabO p.syms)) := by
  have h4 := length_sizes q.goals
  have hsz := hq.s
  have q116 := fun h => h116 p hp h
  have q125 := h125 (GL := GLs) q hq
  have q220 := fun k h' (hk' : h'[k]? = some (tabO p.syms)) => h220 (GL := GLs) p.syms q.goals k h' (by omega) hk'
  simp only [encPg] at q116
  simp only [encQy] at q125
  simp only [tabV] at q220
  refine k145.gives (by simp) ?_
  simp -implicitDefEqProofs only [go_sem, c145, r145, encPg, encQy, List.append_assoc]
  refine call_gives hC (q116 _) fun x h1 ⟨y, hx, hk1, hy⟩ => ?_
  subst hx
  have o1 := hk1.got (i := h.length + 1) (get_at_add h _ 1)
  have o2 := hk1.got (i := h.length + 2) (get_at_add h _ 2)
  have o1_g := fun l => get_before (l := l) o1
  have o1_s := fun o l => set_before (l := l) o1 o
  have o1_e := fun o l => get_set_app (o := o) (l := l) o1
  have o1_h := fun o => get_set (o := o) o1
  have o2_g := fun l => get_before (l := l) o2
  have o2_s := fun o l => set_before (l := l) o2 o
  have o2_e := fun o l => get_set_app (o := o) (l := l) o2
  have o2_h := fun o => get_set (o := o) o2
  have hk0 : Keep All h h1 := hk1.left
  rcases hy with ⟨hy, k, rfl, hk⟩ | ⟨hy, rfl⟩
  · have e0 : okE p.ok = 0 := by rw [hy]; rfl
    have q2 := q220 k (h1 ++ [.cells 153 [.sl 3 (p.procs.map encPr), .mp k, .v (.map none)]]) (get_before hk)
    have hne : h.length + 2 ≠ k := by rintro rfl; rw [o2] at hk; cases hk
    rcases hqo : q.ok with _ | _
    · have e1 : okQuery p q = false := by simp only [okQuery, hqo, Bool.false_and, Bool.and_false]
      simp -implicitDefEqProofs only [go_sem, o1_g, e0, bne_self_eq_false]
      refine call_pure hC q125 ?_
      simp -implicitDefEqProofs only [go_sem, o2_g, o2_s, o2_e, hqo, Bool.not_false]
      have kf := (hk0.turn (.cells 153 [.sl 3 (p.procs.map encPr), .mp k, .v (.map none)]) o2 (Nat.le_add_right _ _)).trans (Keep.app All _ [.cells 153 [.sl 3 (p.procs.map encPr), .mp k, .v (.map none)]])
      exact fin_gives kf.1 ⟨_, _, _, by rw [e1]; rfl, kf, fun e => by rw [e1] at e; cases e⟩
    · simp -implicitDefEqProofs only [go_sem, o1_g, e0, bne_self_eq_false]
      refine call_pure hC q125 ?_
      simp -implicitDefEqProofs only [go_sem, o1_g, hqo, Bool.not_true]
      refine call_adds hC q2 fun h2 hk2 => ?_
      have o3 := hk2.got (o2_g _)
      have o4 := hk2.got (i := h1.length) (by rw [get_at]; rfl)
      have hk3 := hk0.trans hk2.left
      have o3_g := fun l => get_before (l := l) o3
      have o3_s := fun o l => set_before (l := l) o3 o
      have o3_e := fun o l => get_set_app (o := o) (l := l) o3
      have o3_h := fun o => get_set (o := o) o3
      have o4_g := fun l => get_before (l := l) o4
      have o4_s := fun o l => set_before (l := l) o4 o
      have o4_e := fun o l => get_set_app (o := o) (l := l) o4
      have o4_h := fun o => get_set (o := o) o4
      have kf := hk3.turn (.cells 153 [.sl 3 (p.procs.map encPr), .mp k, .v (.map none)]) o3 (Nat.le_add_right _ _)
      have fin : ∀ b, okCalls p.syms [] q.goals = b → ∃ y h', Wk GLs h.length [(0, .tup [.agg [.sl 3 (p.procs.map encPr), .mp k, .v (.map none)], .v (.int .i64 (okE b))])] (h2.set (h.length + 2) (.cells 153 [.sl 3 (p.procs.map encPr), .mp k, .v (.map none)])) [(0, y)] h' ∧ ∃ x, ARes.val y = ARes.val x ∧ ∃ a b c, x = .tup [.agg [a, b, c], .i (okE (okQuery p q))] ∧ Keep All h h' ∧
          (okQuery p q = true → ∃ k, (a = .sl 3 (p.procs.map encPr) ∧ b = .mp k ∧ c = .v (.map none)) ∧ h'[k]? = some (tabO p.syms)) := fun b e =>
        fin_gives kf.1 ⟨_, _, _, by rw [show okQuery p q = b by rw [okQuery, hy, hqo, e]; rfl], kf, fun _ => ⟨k, ⟨rfl, rfl, rfl⟩, by rw [get_set_ne hne]; exact hk2.got (get_before hk)⟩⟩
      rcases hoc : okCalls p.syms [] q.goals with _ | _
      · simp -implicitDefEqProofs only [go_sem, o3, o3_h, o4, Bool.not_false]
        exact fin false hoc
      · simp -implicitDefEqProofs only [go_sem, o3, o3_h, o4, Bool.not_true]
        exact fin true hoc
  · have e0 : okE p.ok = 5 := by rw [hy]; rfl
    have e1 : okQuery p q = false := by rw [okQuery, hy]; rfl
    have e50 : ((5 : Int) != 0) = true := rfl
    simp -implicitDefEqProofs only [go_sem, o2_g, o2_s, o2_e, e0, e50]
    have kf := (hk0.turn (.cells 153 [.v (.slice none 0 0), .v (.map none), .v (.map none)]) o2 (Nat.le_add_right _ _)).trans (Keep.app All _ [.cells 153 [.v (.slice none 0 0), .v (.map none), .v (.map none)]])
    exact fin_gives kf.1 ⟨_, _, _, by rw [e1]; rfl, kf, fun e => by rw [e1] at e; cases e⟩
theorem h54 (p : Pg) (hp : p.fits) (q : Qy) (hq : q.fits) : Pure (PC GLs) 54 [encPg p, encQy q] (.i (okE (okQuery p q))) := by
  have f := fun h => h145 p hp q hq h
  simp only [encPg, encQy] at f
  refine k54.pure (by simp) (by simp [go_sem]) (by simp [go_sem]) ?_
  simp -implicitDefEqProofs only [go_sem, c54, r54, encPg, encQy]
  refine call_gives hC (f _) fun x h1 ⟨a, b, c, hx, hk1, hy⟩ => ?_
  subst hx
  simp -implicitDefEqProofs only [go_sem]
  refine fin_pure ?_ ?_ <;> simp [go_sem]
theorem h49 (p : Pg) (hp : p.fits) (s : Sym) : Pure (PC GLs) 49 [encPg p, encSym s] (.tup [.i (if p.ok then findS s p.syms else 0), .i (okE p.ok)]) := by
  have q116 := fun h => h116 p hp h
  have q142 := fun k h' (hk' : h'[k]? = some (tabO p.syms)) => h142 (GL := GLs) p.syms s k h' hk'
  obtain ⟨a, n⟩ := s
  simp only [encPg] at q116
  simp only [encSym, tabV] at q142
  refine k49.pure (by simp) (by simp [go_sem]) (by simp [go_sem]) ?_
  simp -implicitDefEqProofs only [go_sem, c49, r49, encPg, encSym]
  refine call_gives hC (q116 _) fun x h1 ⟨y, hx, hk1, hy⟩ => ?_
  subst hx
  have o1 := hk1.got (i := 1) rfl
  have o1_g := fun l => get_before (l := l) o1
  have o1_s := fun o l => set_before (l := l) o1 o
  have o1_e := fun o l => get_set_app (o := o) (l := l) o1
  have o1_h := fun o => get_set (o := o) o1
  rcases hy with ⟨hy, k, rfl, hk⟩ | ⟨hy, rfl⟩
  · have e0 : okE true = 0 := rfl
    simp -implicitDefEqProofs only [go_sem, o1_g, hy, e0, bne_self_eq_false]
    refine call_adds hC (q142 k _ (get_before hk)) fun h2 hk2 => ?_
    simp -implicitDefEqProofs only [go_sem]
    refine fin_pure ?_ ?_ <;> simp [go_sem]
  · have e0 : okE false = 5 := rfl
    have e50 : ((5 : Int) != 0) = true := rfl
    simp -implicitDefEqProofs only [go_sem, hy, e0, e50]
    refine fin_pure ?_ ?_ <;> simp [go_sem]
end Go.Rip

/- Programs and queries: the reference's way. -/
namespace Go.Rip
open Go Go.Proofs
variable {GL : Glob}
attribute [local irreducible] Pure
theorem idxS_hit {s : Sym} {l : List Sym} {j : Nat} (hj : j < l.length) (h1 : s ∉ l.take j) (h2 : s = l[j]) : idxS s l = some j := by
  induction l generalizing j with
  | nil => simp at hj
  | cons k r ih =>
    cases j with
    | zero => simp at h2; simp [idxS, h2]
    | succ j =>
      simp only [List.take_succ_cons, List.mem_cons, not_or] at h1
      simp only [List.getElem_cons_succ] at h2
      simp only [List.length_cons, Nat.add_lt_add_iff_right] at hj
      simp [idxS, h1.1, ih hj h1.2 h2]
theorem sym_eq (q : Pr) (a : List UInt8) (n : Int) : (q.name == a && q.arity == n) = decide (q.sym = ⟨a, n⟩) := by
  rw [Bool.eq_iff_iff]; simp [Pr.sym]
theorem h123 (p : Pg) (hl : p.procs.length < 2 ^ 40) (s : Sym) : Pure (PC GL) 123 [encPg p, encSym s] (.i (findS s p.syms)) := by
  obtain ⟨a, n⟩ := s
  refine k123.pure (by simp) (by simp [go_sem]) (by simp [go_sem]) ?_
  simp -implicitDefEqProofs only [go_sem, c123, r123, encPg, encSym]
  refine s_forT hC (fun j => Sym.mk a n ∉ p.syms.take j) (fun j => [(5, .i j)]) [2, 3] p.procs.length (by simp) ?_ ?_
  · exact Wk.pick (by simp) (by simp [go_sem])
  · intro j hj hI
    simp -implicitDefEqProofs only [go_sem]
    refine cdO_and (fun hlt => ?_) (fun hlt => ?_)
    · have hlt := lt_of_decide hlt
      have hlt' : j < p.syms.length := by simpa [Pg.syms] using hlt
      have w5 : IntKind.i64.wrap ((j : Int) + 1) = (j : Int) + 1 := wrap_ok _ (by omega)
      have e := sym_eq p.procs[j] a n
      simp -implicitDefEqProofs only [go_sem, hlt, getD_map, encPr]
      have cont : decide (p.procs[j].sym = ⟨a, n⟩) = false → Sym.mk a n ∉ p.syms.take (j + 1) := fun hx => by
        rw [take_snoc hlt', List.mem_append, List.mem_singleton]
        rintro (h | h)
        · exact hI h
        · refine of_decide_eq_false hx ?_
          simp only [Pg.syms, List.getElem_map] at h
          exact h.symm
      have hit : decide (p.procs[j].sym = ⟨a, n⟩) = true → findS ⟨a, n⟩ p.syms = j := fun hx => by
        rw [findS, idxS_hit hlt' hI (by simp only [Pg.syms, List.getElem_map]; exact (of_decide_eq_true hx).symm)]
      rw [← e] at cont hit
      rcases h1 : p.procs[j].name == a with _ | _
      · rw [h1] at cont
        simp -implicitDefEqProofs only [go_sem]
        exact ⟨cont rfl, Wk.slots (by simp) (by simp [go_sem, w5]) (by simp [go_sem])⟩
      · simp -implicitDefEqProofs only [go_sem, hlt, getD_map, encPr]
        rcases h2 : p.procs[j].arity == n with _ | _
        · rw [h1, h2] at cont
          simp -implicitDefEqProofs only [go_sem]
          exact ⟨cont rfl, Wk.slots (by simp) (by simp [go_sem, w5]) (by simp [go_sem])⟩
        · rw [h1, h2] at hit
          simp -implicitDefEqProofs only [go_sem]
          refine fin_pure ?_ ?_ <;> simp [go_sem, hit rfl]
    · have hge := ge_of_decide hlt
      rw [take_all (by simpa [Pg.syms] using hge)] at hI
      simp -implicitDefEqProofs only [go_sem, hlt]
      refine fin_pure ?_ ?_ <;> simp [go_sem, findS, idxS_none hI]
theorem gkind_sym {t : Tm} (h : t.gkind ≠ 0) : t.isSym = true := by
  unfold Tm.gkind at h
  rcases hs : t.isSym with _ | _
  · simp [hs] at h
  · rfl
theorem goal_sym {t : Tm} (h : (t.goal.1 == 1) = true) : t.goal.2.2.isSym = true := by
  have h : t.goal.1 = 1 := by simpa using h
  unfold Tm.goal at h ⊢
  split at h
  · rename_i g p h1 h2
    split at h
    · simp at h
    · rename_i hn
      rw [if_neg hn]
      exact gkind_sym fun e => hn (.inr (.inr (.inr e)))
  · simp at h
  · split at h
    · simp at h
    · rename_i hn
      rw [if_neg hn]
      exact gkind_sym hn
theorem h221 (t : Tm) : Pure (PC GL) 221 [enc t] (.tup [encSym (match t.callee with | some s => s | none => .zero), .b t.callee.isSome]) := by
  have q98 := h98 (GL := GL) t
  simp only [encG] at q98
  have q202 := h202 (GL := GL) t.goal.2.2
  rcases hx : t.goal.1 == 1 with _ | _
  · have e : t.callee = none := by simp only [Tm.callee, hx]; rfl
    have e1 : (t.goal.1 != 1) = true := by simp [bne, hx]
    rw [e]
    refine k221.pure (by simp) (by simp [go_sem]) (by simp [go_sem]) ?_
    simp -implicitDefEqProofs only [c221, r221, go_sem]
    refine call_pure hC q98 ?_
    simp -implicitDefEqProofs only [go_sem, e1]
    refine fin_pure ?_ ?_ <;> simp [go_sem, Sym.zero, encSym]
  · have e : t.callee = some t.goal.2.2.sym := by simp only [Tm.callee, hx, if_true]
    have e1 : (t.goal.1 != 1) = false := by simp [bne, hx]
    rw [goal_sym hx, if_pos rfl] at q202
    rw [e]
    refine k221.pure (by simp) (by simp [go_sem]) (by simp [go_sem]) ?_
    simp -implicitDefEqProofs only [c221, r221, go_sem]
    refine call_pure hC q98 ?_
    simp -implicitDefEqProofs only [go_sem, e1]
    refine call_pure hC q202 ?_
    simp -implicitDefEqProofs only [go_sem, encSym]
    refine fin_pure ?_ ?_ <;> simp [go_sem]
theorem h146 (p : Pg) (hl : p.procs.length < 2 ^ 40) (goals : List Tm) (hg : goals.length < 2 ^ 40) (more : List Sym) (hm : more.length < 2 ^ 30) : Pure (PC GL) 146 [encPg p, .sl 4 (goals.map enc), .sl 2 (more.map encSym)] (.b (okCalls p.syms more goals)) := by
  refine k146.pure (by simp) (by simp [go_sem]) (by simp [go_sem]) ?_
  simp -implicitDefEqProofs only [go_sem, c146, r146, encPg]
  refine s_forT hC (fun j => okCalls p.syms more (goals.take j) = true) (fun j => [(7, .i j)]) [1, 2, 3] goals.length rfl ?_ ?_
  · exact Wk.pick (by simp) (by simp [go_sem])
  · intro j hj hI
    simp -implicitDefEqProofs only [go_sem]
    refine cdO_and (fun hlt => ?_) (fun hlt => ?_)
    · have hlt := lt_of_decide hlt
      have w5 : IntKind.i64.wrap ((j : Int) + 1) = (j : Int) + 1 := wrap_ok _ (by omega)
      have hs := all_snoc hlt fun t => okOpt (fun s => decide (s ∈ p.syms) || decide (s ∈ more)) t.callee
      have q221 := h221 (GL := GL) goals[j]
      simp -implicitDefEqProofs only [go_sem, hlt, getD_map]
      refine call_pure hC q221 ?_
      rcases hc : goals[j].callee with _ | s
      · rw [hc] at hs
        simp -implicitDefEqProofs only [go_sem, encSym, Option.isSome_none]
        exact ⟨by unfold okCalls at hI ⊢; rw [hs, hI]; rfl, Wk.slots (by simp) (by simp [go_sem, w5]) (by simp [go_sem])⟩
      · rw [hc] at hs
        have q123 := h123 (GL := GL) p hl s
        have q105 := h105 (GL := GL) more s hm
        have hn := findS_neg s p.syms
        simp only [encPg, encSym] at q123 q105
        simp -implicitDefEqProofs only [go_sem, encSym, Option.isSome_some]
        refine call_pure hC q123 ?_
        simp -implicitDefEqProofs only [go_sem, hn]
        rcases h1 : decide (s ∈ p.syms) with _ | _
        · simp -implicitDefEqProofs only [go_sem, Bool.not_false]
          refine call_pure hC q105 ?_
          rcases h2 : decide (s ∈ more) with _ | _
          · have : okCalls p.syms more goals = false := List.all_eq_false.2 ⟨_, List.getElem_mem hlt, by simp [hc, okOpt, h1, h2]⟩
            simp -implicitDefEqProofs only [go_sem, Bool.not_false]
            refine fin_pure ?_ ?_ <;> simp [go_sem, this]
          · simp -implicitDefEqProofs only [go_sem, Bool.not_true]
            exact ⟨by unfold okCalls at hI ⊢; rw [hs, hI]; simp [okOpt, h2], Wk.slots (by simp) (by simp [go_sem, w5]) (by simp [go_sem])⟩
        · simp -implicitDefEqProofs only [go_sem, Bool.not_true]
          exact ⟨by unfold okCalls at hI ⊢; rw [hs, hI]; simp [okOpt, h1], Wk.slots (by simp) (by simp [go_sem, w5]) (by simp [go_sem])⟩
    · have hge := ge_of_decide hlt
      rw [take_all hge] at hI
      simp -implicitDefEqProofs only [go_sem, hlt]
      refine fin_pure ?_ ?_ <;> simp [go_sem, hI]
end Go.Rip

/- Programs: the reference's way. -/
namespace Go.Rip
open Go Go.Proofs
variable {GL : Glob}
theorem rep_nil_sl {E : Env} {A : Nat → Nat → Prop} {G : Gd} {w : World} {u : Value} (sz : Nat) (h : Rep E A G w (.v (.slice none 0 0)) u) : Rep E A G w (.sl sz []) u := by
  simp only [Rep] at h ⊢
  exact ⟨none, 0, 0, h, rfl, Nat.le_refl _, by decide, .inl trivial⟩
/-- Arguments that say more. -/
theorem Pure.wkArgs {f : FuncId} {args args' : List AV} {v : AV} (hp : Pure (PC GL) f args v) (ha : ∀ E A G w vs, Reps E A G w args' vs → Reps E A G w args vs) : Pure (PC GL) f args' v :=
  fun h E A G w vs hW hr => hp h E A G w vs hW (ha E A G w vs hr)
attribute [local irreducible] Pure
theorem idxS_take {s : Sym} : ∀ {l : List Sym} {j : Nat}, s ∈ l.take j → ∃ i, idxS s l = some i ∧ i < j
  | [], j, h => by simp at h
  | k :: r, 0, h => by simp at h
  | k :: r, j + 1, h => by
    by_cases e : s = k
    · exact ⟨0, by simp [idxS, e], by omega⟩
    · simp only [List.take_succ_cons, List.mem_cons, e, false_or] at h
      obtain ⟨i, h1, h2⟩ := idxS_take h
      exact ⟨i + 1, by simp [idxS, e, h1], by omega⟩
theorem find_self {l : List Sym} {j : Nat} (hj : j < l.length) : (findS l[j] l != (j : Int)) = decide (l[j] ∈ l.take j) := by
  by_cases h : l[j] ∈ l.take j
  · obtain ⟨i, h1, h2⟩ := idxS_take h
    rw [findS, h1]
    simp only [h, decide_true]
    simp [bne]; omega
  · rw [findS, idxS_hit hj h rfl]
    simp [h]
def Pg.okM (p : Pg) (more : List Sym) : Bool := p.tabled && p.procs.all (okClauses p.syms more)
theorem okM_nil (p : Pg) : p.okM [] = p.ok := rfl
theorem h199 (p : Pg) (hp : p.fits) (more : List Sym) (hm : more.length < 2 ^ 30) : Pure (PC GL) 199 [encPg p, .sl 2 (more.map encSym)] (.b (p.okM more)) := by
  have h4 := hp.l
  have hall : p.okM more = ((!decide ((p.procs.length : Int) > 64) && headsOk [] p.procs) && p.procs.all (okClauses p.syms more)) := rfl
  have q123 := fun s => h123 (GL := GL) p hp.l s
  simp only [encPg] at q123
  refine k199.pure (by simp) (by simp [go_sem]) (by simp [go_sem]) ?_
  simp -implicitDefEqProofs only [go_sem, c199, r199, encPg]
  refine cdO_and (fun h1 => ?_) (fun h1 => ?_)
  · rw [h1] at hall
    simp -implicitDefEqProofs only [go_sem, h1]
    refine fin_pure ?_ ?_ <;> simp [go_sem, hall]
  rw [h1, Bool.not_false, Bool.true_and] at hall
  simp -implicitDefEqProofs only [go_sem, h1]
  refine s_forT hC (fun i => headsOk [] (p.procs.take i) = true ∧ (p.procs.take i).all (okClauses p.syms more) = true) (fun i => [(5, .i i)]) [1, 2] p.procs.length ⟨rfl, rfl⟩ ?_ ?_
  · exact Wk.pick (by simp) (by simp [go_sem])
  rintro i hi ⟨hI, hI2⟩
  simp -implicitDefEqProofs only [go_sem]
  refine cdO_and (fun hlt => ?_) (fun hlt => ?_)
  · have hlt := lt_of_decide hlt
    have hlt' : i < p.syms.length := by simpa [Pg.syms] using hlt
    have w5 : IntKind.i64.wrap ((i : Int) + 1) = (i : Int) + 1 := wrap_ok _ (by omega)
    have hmm := List.getElem_mem hlt
    have hs := headsOk_snoc hlt
    have hcl := hp.c _ hmm
    have hct := hp.t _ hmm
    have q247 := h247 (GL := GL) p.procs[i].name (hp.n _ hmm)
    have q26 := h26 (GL := GL) p.procs[i].sym
    have q123 := q123 p.procs[i].sym
    have ef := find_self hlt'
    have ei : p.syms[i] = p.procs[i].sym := by simp [Pg.syms]
    have et : p.syms.take i = (p.procs.take i).map Pr.sym := by simp [Pg.syms]
    rw [ei, et] at ef
    have bad : p.procs[i].head ((p.procs.take i).map Pr.sym) = false → p.okM more = false := fun e => by
      rw [hall, headsOk_stop (j := i + 1) (by rw [hs, hI, e]; rfl)]; rfl
    have ok : p.procs[i].head ((p.procs.take i).map Pr.sym) = true → headsOk [] (p.procs.take (i + 1)) = true := fun e => by rw [hs, hI, e]; rfl
    have snoc := all_snoc hlt (okClauses p.syms more)
    have cl : okClauses p.syms more p.procs[i] = false → p.okM more = false := fun e => by
      rw [hall, show p.procs.all (okClauses p.syms more) = false from List.all_eq_false.2 ⟨_, hmm, by simp [e]⟩, Bool.and_false]
    clear hs hall
    generalize hq : p.procs[i] = q at *
    have hsym : q.sym = ⟨q.name, q.arity⟩ := rfl
    rw [hsym] at q26 q123 ef
    simp only [encSym] at q26 q123
    simp -implicitDefEqProofs only [go_sem, hlt, getD_map, hq, encPr, Nat.reduceAdd]
    refine call_pure hC q247 ?_
    repeat' (first | simp -implicitDefEqProofs only [go_sem, *] | with_reducible refine gdO_and (fun _ => ?_) (fun _ => ?_) | with_reducible refine pkO_and (fun _ => ?_) (fun _ => ?_) | with_reducible refine cdO_and (fun _ => ?_) (fun _ => ?_) | with_reducible refine fin_pure ?_ ?_ | ((with_reducible apply call_pure hC); (exact q123)) | ((with_reducible apply call_pure hC); (exact q26)) | ((with_reducible refine And.intro ?bnd ?_); (case bnd => decide)) | fail)
    all_goals first
      | with_reducible refine is_loop ?_
      | (rw [bad (by simp_all [Pr.head, Pr.sym])]; done)
      | (exfalso; simp_all; done)
    have hI3 : headsOk [] (p.procs.take (i + 1)) = true := ok (by simp_all [Pr.head, Pr.sym])
    have hsub : ∀ j, j ≤ q.clauses.length → (q.clauses.take j).all (fun c => c.ok q.arity && okCalls p.syms more c.body) = false → p.okM more = false := fun j _ e => cl (by
      rw [okClauses, ← List.take_append_drop j q.clauses, List.all_append, e]; rfl)
    refine s_forT hC (fun j => (q.clauses.take j).all (fun c => c.ok q.arity && okCalls p.syms more c.body) = true) (fun j => [(9, .i j)]) [1, 2, 5, 6] q.clauses.length rfl ?_ ?_
    · exact Wk.pick (by simp) (by simp [go_sem])
    intro j hj hJ
    simp -implicitDefEqProofs only [go_sem]
    refine cdO_and (fun hlt2 => ?_) (fun hlt2 => ?_)
    · have hlt2 := lt_of_decide hlt2
      have w6 : IntKind.i64.wrap ((j : Int) + 1) = (j : Int) + 1 := wrap_ok _ (by omega)
      have hm2 := List.getElem_mem hlt2
      have hsz := hct _ hm2
      have hbl := body_len q.clauses[j]
      have q144 := h144 (GL := GL) q.clauses[j] q.arity hsz.1 hsz.2
      have q146 := h146 (GL := GL) p hp.l q.clauses[j].body (by omega) more hm
      have hs2 := all_snoc hlt2 fun c => c.ok q.arity && okCalls p.syms more c.body
      rw [hJ, Bool.true_and] at hs2
      simp only [encCl, encPg] at q144 q146
      simp -implicitDefEqProofs only [go_sem, hlt2, getD_map, encCl]
      refine call_pure hC q144 ?_
      rcases hok : q.clauses[j].ok q.arity with _ | _
      · have e := hsub (j + 1) hlt2 (by rw [hs2, hok]; rfl)
        simp -implicitDefEqProofs only [go_sem, Bool.not_false]
        refine fin_pure ?_ ?_ <;> simp [go_sem, e]
      · simp -implicitDefEqProofs only [go_sem, Bool.not_true]
        refine call_pure hC q146 ?_
        rcases hoc : okCalls p.syms more q.clauses[j].body with _ | _
        · have e := hsub (j + 1) hlt2 (by rw [hs2, hok, hoc]; rfl)
          simp -implicitDefEqProofs only [go_sem, Bool.not_false]
          refine fin_pure ?_ ?_ <;> simp [go_sem, e]
        · simp -implicitDefEqProofs only [go_sem, Bool.not_true]
          exact ⟨by rw [hs2, hok, hoc]; rfl, Wk.slots (by simp) (by simp [go_sem, w6]) (by simp [go_sem, free_encCl.rens, free_encCl.bds, free_encPr.rens, free_encPr.bds])⟩
    · have hge2 := ge_of_decide hlt2
      rw [take_all hge2] at hJ
      simp -implicitDefEqProofs only [go_sem, hlt2]
      exact ⟨⟨hI3, by rw [okClauses]; exact hJ⟩, Wk.slots (by simp) (by simp [go_sem, w5]) (by simp [go_sem, free_encPr.rens, free_encPr.bds])⟩
  · have hge := ge_of_decide hlt
    rw [take_all hge] at hI hI2
    rw [hI, hI2] at hall
    simp -implicitDefEqProofs only [go_sem, hlt]
    refine fin_pure ?_ ?_ <;> simp [go_sem, hall]
theorem h199n (p : Pg) (hp : p.fits) : Pure (PC GL) 199 [encPg p, .v (.slice none 0 0)] (.b p.ok) := by
  have := h199 (GL := GL) p hp [] (by simp)
  rw [okM_nil] at this
  refine this.wkArgs fun E A G w vs hr => ?_
  simp only [Reps] at hr ⊢
  obtain ⟨u, us, rfl, h1, u2, us2, rfl, h2, rfl⟩ := hr
  exact ⟨u, _, rfl, h1, u2, _, rfl, rep_nil_sl 2 h2, rfl⟩
theorem h146n (p : Pg) (hl : p.procs.length < 2 ^ 40) (goals : List Tm) (hg : goals.length < 2 ^ 40) : Pure (PC GL) 146 [encPg p, .sl 4 (goals.map enc), .v (.slice none 0 0)] (.b (okCalls p.syms [] goals)) := by
  refine (h146 (GL := GL) p hl goals hg [] (by simp)).wkArgs fun E A G w vs hr => ?_
  simp only [Reps] at hr ⊢
  obtain ⟨u, us, rfl, h1, u2, us2, rfl, h2, u3, us3, rfl, h3, rfl⟩ := hr
  exact ⟨u, _, rfl, h1, u2, _, rfl, h2, u3, _, rfl, rep_nil_sl 2 h3, rfl⟩
theorem h117 (p : Pg) (hp : p.fits) : Pure (PC GL) 117 [encPg p] (.b p.ok) := by
  have q := h199n (GL := GL) p hp
  simp only [encPg] at q
  refine k117.pure (by simp) (by simp [go_sem]) (by simp [go_sem]) ?_
  simp -implicitDefEqProofs only [go_sem, c117, r117, encPg]
  repeat' (first | simp -implicitDefEqProofs only [go_sem, *] | with_reducible refine gdO_and (fun _ => ?_) (fun _ => ?_) | with_reducible refine pkO_and (fun _ => ?_) (fun _ => ?_) | with_reducible refine cdO_and (fun _ => ?_) (fun _ => ?_) | with_reducible refine fin_pure ?_ ?_ | ((with_reducible apply call_pure hC); (exact q)) | ((with_reducible refine And.intro ?bnd ?_); (case bnd => decide)) | fail)
  all_goals simp_all [go_sem]
theorem h53 (p : Pg) (hp : p.fits) : Pure (PC GL) 53 [encPg p] (.i (okE p.ok)) := by
  have q := h117 (GL := GL) p hp
  simp only [encPg] at q
  refine k53.pure (by simp) (by simp [go_sem]) (by simp [go_sem]) ?_
  simp -implicitDefEqProofs only [go_sem, c53, r53, encPg]
  repeat' (first | simp -implicitDefEqProofs only [go_sem, *] | with_reducible refine gdO_and (fun _ => ?_) (fun _ => ?_) | with_reducible refine pkO_and (fun _ => ?_) (fun _ => ?_) | with_reducible refine cdO_and (fun _ => ?_) (fun _ => ?_) | with_reducible refine fin_pure ?_ ?_ | ((with_reducible apply call_pure hC); (exact q)) | ((with_reducible refine And.intro ?bnd ?_); (case bnd => decide)) | fail)
  all_goals simp_all [go_sem, okE]
theorem h50 (p : Pg) (hp : p.fits) (s : Sym) : Pure (PC GL) 50 [encPg p, encSym s] (.tup [.i (if p.ok then findS s p.syms else 0), .i (okE p.ok)]) := by
  have q := h117 (GL := GL) p hp
  have q2 := h123 (GL := GL) p hp.l s
  obtain ⟨a, n⟩ := s
  simp only [encPg] at q
  simp only [encPg, encSym] at q2
  refine k50.pure (by simp) (by simp [go_sem, encSym]) (by simp [go_sem]) ?_
  simp -implicitDefEqProofs only [go_sem, c50, r50, encPg, encSym]
  repeat' (first | simp -implicitDefEqProofs only [go_sem, *] | with_reducible refine gdO_and (fun _ => ?_) (fun _ => ?_) | with_reducible refine pkO_and (fun _ => ?_) (fun _ => ?_) | with_reducible refine cdO_and (fun _ => ?_) (fun _ => ?_) | with_reducible refine fin_pure ?_ ?_ | ((with_reducible apply call_pure hC); (exact q)) | ((with_reducible apply call_pure hC); (exact q2)) | ((with_reducible refine And.intro ?bnd ?_); (case bnd => decide)) | fail)
  all_goals simp_all [go_sem, okE]
theorem h127 (q : Qy) (hq : q.fits) : Pure (PC GL) 127 [encQy q] (.b q.ok) := by
  have h4 := length_sizes q.goals
  have hsz := hq.s
  have q170 := h170 (GL := GL) q.goals hq.s hq.t
  have q209 := h209 (GL := GL) q.goals hq.s
  have q210 := h210 (GL := GL) q.goals q.vars hq.s
  have e2 : (!q.goals.any fun t => t.goal.1 == 0) = q.goals.all fun t => !(t.goal.1 == 0) := by rw [List.not_any_eq_all_not]
  unfold Qy.ok
  rw [e2]
  obtain ⟨B2, e3⟩ : ∃ b, (q.goals.all fun t => !(t.goal.1 == 0)) = b := ⟨_, rfl⟩
  rw [e3]
  clear e2
  generalize normT q.goals q.vars = bn at q210 ⊢
  refine k127.pure (by simp) (by simp [go_sem]) (by simp [go_sem]) ?_
  simp -implicitDefEqProofs only [go_sem, c127, r127, encQy]
  repeat' (first | simp -implicitDefEqProofs only [go_sem, *] | with_reducible refine gdO_and (fun _ => ?_) (fun _ => ?_) | with_reducible refine pkO_and (fun _ => ?_) (fun _ => ?_) | with_reducible refine cdO_and (fun _ => ?_) (fun _ => ?_) | with_reducible refine fin_pure ?_ ?_ | ((with_reducible apply call_pure hC); (exact q170)) | ((with_reducible apply call_pure hC); (exact q209)) | ((with_reducible apply call_pure hC); (exact q210)) | ((with_reducible refine And.intro ?bnd ?_); (case bnd => decide)) | fail)
  all_goals first
    | with_reducible refine is_loop ?_
    | (clear e3; simp_all [go_sem]; done)
    | (clear e3; simp_all [go_sem]; intros; omega)
    | (clear e3; simp_all [go_sem]; rename_i hd; intro i1 i2; rcases hd with hd | hd; exact absurd i2 (by simp [hd]); omega)
  refine s_forT hC (fun j => (q.goals.take j).all (fun t => !(t.goal.1 == 0)) = true) (fun j => [(4, .i j)]) [1] q.goals.length rfl ?_ ?_
  · exact Wk.pick (by simp) (by simp [go_sem])
  intro j hj hI2
  simp -implicitDefEqProofs only [go_sem]
  refine cdO_and (fun hlt2 => ?_) (fun hlt2 => ?_)
  · have hlt2 := lt_of_decide hlt2
    have w5 : IntKind.i64.wrap ((j : Int) + 1) = (j : Int) + 1 := wrap_ok _ (by omega)
    simp -implicitDefEqProofs only [go_sem, hlt2, getD_map]
    have q98 := h98 (GL := GL) q.goals[j]
    simp only [encG] at q98
    refine call_pure hC q98 ?_
    simp -implicitDefEqProofs only [go_sem]
    refine cdO_and (fun hx => ?_) (fun hx => ?_)
    · have : (q.goals.all fun t => !(t.goal.1 == 0)) = false := List.all_eq_false.2 ⟨_, List.getElem_mem hlt2, by simp [hx]⟩
      rw [e3] at this
      simp -implicitDefEqProofs only [go_sem, hx]
      refine fin_pure ?_ ?_ <;> simp [go_sem, this]
    · simp -implicitDefEqProofs only [go_sem, hx]
      exact ⟨by rw [all_snoc hlt2, hI2, hx]; rfl, Wk.slots (by simp) (by simp [go_sem, w5]) (by simp [go_sem])⟩
  have hge2 := ge_of_decide hlt2
  rw [take_all hge2, e3] at hI2
  simp -implicitDefEqProofs only [go_sem, hlt2]
  clear e3
  refine fin_pure ?_ ?_ <;> simp_all [go_sem]
theorem h55 (p : Pg) (hp : p.fits) (q : Qy) (hq : q.fits) : Pure (PC GL) 55 [encPg p, encQy q] (.i (okE (okQuery p q))) := by
  have h4 := length_sizes q.goals
  have hsz := hq.s
  have q117 := h117 (GL := GL) p hp
  have q127 := h127 (GL := GL) q hq
  have q146 := h146n (GL := GL) p hp.l q.goals (by omega)
  simp only [encPg] at q117 q146
  simp only [encQy] at q127
  unfold okQuery
  refine k55.pure (by simp) (by simp [go_sem]) (by simp [go_sem]) ?_
  simp -implicitDefEqProofs only [go_sem, c55, r55, encPg, encQy]
  repeat' (first | simp -implicitDefEqProofs only [go_sem, *] | with_reducible refine gdO_and (fun _ => ?_) (fun _ => ?_) | with_reducible refine pkO_and (fun _ => ?_) (fun _ => ?_) | with_reducible refine cdO_and (fun _ => ?_) (fun _ => ?_) | with_reducible refine fin_pure ?_ ?_ | ((with_reducible apply call_pure hC); (exact q117)) | ((with_reducible apply call_pure hC); (exact q127)) | ((with_reducible apply call_pure hC); (exact q146)) | ((with_reducible refine And.intro ?bnd ?_); (case bnd => decide)) | fail)
  all_goals simp_all [go_sem, okE]
end Go.Rip

/- Programs that are not large. -/
namespace Go.Rip
open Go Go.Proofs
variable {GL : Glob}
attribute [local irreducible] Pure
theorem h94at (t : Tm) (ht : t.wid) (left deep : Int) (hl : 0 ≤ left ∧ left < 2 ^ 40) (hd : 0 ≤ deep ∧ deep < 2 ^ 40) (k : Nat) (h : List AObj) (hk : h[k]? = some (.cells 3 [.i left])) :
    PC GL (.fn 94) [enc t, .ref k 0, .i deep] h fun r h' => h' = h.set k (.cells 3 [.i (t.cnt left deep).2]) ∧ r = .val (.b (t.cnt left deep).1) := by
  have := lift2 (h1 := cel left) (h2 := cel (t.cnt left deep).2) (by simp [bd]) (by simp [bds, bd, cel, go_sem]) cel_bd cel_bd rfl (h94 (GL := GL) t ht left deep hl hd) (fun _ => k) (H := h) (H2 := h.set k (.cells 3 [.i (t.cnt left deep).2])) ?_ ?_ (by simp) ?_ ?_
  · simpa [rens, ren, ren_enc] using this
  · intro i x hx
    cases i with
    | zero => simp [cel] at hx; subst hx; simpa [renO, rens, ren] using hk
    | succ i => simp [cel] at hx
  · intro i x hx
    cases i with
    | zero => simp [cel] at hx; subst hx; simp [renO, rens, ren, get_set hk]
    | succ i => simp [cel] at hx
  · intro j hj
    rw [get_set_ne (hj 0 (by simp [cel]))]
  · intro i j hi hj _
    simp [cel] at hi hj
    omega
/-- A procedure that is not large. -/
structure Pr.small (q : Pr) : Prop where
  n : q.name.length ≤ 500
  c : q.clauses.length ≤ 120
  t : ∀ c ∈ q.clauses, sizes c.parts ≤ 5000 ∧ strss c.parts
structure Pg.small (p : Pg) : Prop where
  l : p.procs.length ≤ 80
  q : ∀ q ∈ p.procs, q.small
theorem Pg.small.fits {p : Pg} (h : p.small) : p.fits :=
  ⟨by have := h.l; omega, fun q hq => by have := (h.q q hq).n; omega, fun q hq => by have := (h.q q hq).c; omega, fun q hq c hc => ⟨by have := ((h.q q hq).t c hc).1; omega, ((h.q q hq).t c hc).2⟩⟩
theorem h27 (p : Pg) (hw : p.wid) (h : List AObj) : Gives (PC GL) 27 [encPg p] h fun x h' => ∃ b, x = .b b ∧ Keep All h h' ∧ (b = true → p.small) := by
  have hpl := hw.2
  refine k27.gives (by simp) ?_
  simp -implicitDefEqProofs only [go_sem, c27, r27, encPg, get_at_add, set_at_add, List.append_assoc]
  refine cdO_and (fun h1 => ?_) (fun h1 => ?_)
  · simp -implicitDefEqProofs only [go_sem, h1]
    exact fin_gives (by simp) ⟨false, rfl, Keep.app _ _ _, fun e => by cases e⟩
  have hl80 : p.procs.length ≤ 80 := by have := of_decide_eq_false h1; omega
  simp -implicitDefEqProofs only [go_sem, h1]
  refine s_forP hC (fun i (a : Int × Int) => [(20, .i i), (18, .sl 3 (p.procs.map encPr)), (19, .i p.procs.length), (3, .ref (h.length + 1) 0), (4, .i a.2)])
    (fun i (a : Int × Int) h' => (0 ≤ a.1 ∧ a.1 ≤ 5000) ∧ (0 ≤ a.2 ∧ a.2 ≤ 120) ∧ (∀ q ∈ p.procs.take i, q.small) ∧ Keep All h h' ∧ h'[h.length + 1]? = some (.cells 3 [.i a.1])) p.procs.length ?_ ?_
  · exact ⟨(5000, 0), _, Wk.pick (by simp) (by simp [go_sem]), by simp, by simp, fun q hq => by simp at hq, Keep.app _ _ _, get_at_add h _ 1⟩
  rintro i ⟨z, m⟩ h2 hi ⟨hz, hmm, hI, hk2, o1⟩
  simp -implicitDefEqProofs only [go_sem]
  refine cdO_and (fun hlt => ?_) (fun hlt => ?_)
  · have hlt := lt_of_decide hlt
    have w5 : IntKind.i64.wrap ((i : Int) + 1) = (i : Int) + 1 := wrap_ok _ (by omega)
    have hqw := hw.1 _ (List.getElem_mem hlt)
    have hti : p.procs.take (i + 1) = p.procs.take i ++ [p.procs[i]] := take_snoc hlt
    generalize hq : p.procs[i] = q at *
    obtain ⟨n1, n2, n3⟩ := hqw
    have w6 : IntKind.i64.wrap (m + (q.clauses.length : Int)) = m + q.clauses.length := wrap_ok _ (by simp only at hmm; omega)
    have fin : ∀ h', Keep All h h' → ∃ y h'', Wk GL h.length [(0, .v (.bool false))] h' [(0, y)] h'' ∧ ∃ x, ARes.val y = ARes.val x ∧ ∃ b, x = .b b ∧ Keep All h h'' ∧ (b = true → p.small) := fun h' hk => fin_gives hk.1 ⟨false, rfl, hk, fun e => by cases e⟩
    have ha := hk2.trans (Keep.app All h2 [.cells 60 [.str q.name, .i q.arity, .sl 5 (q.clauses.map encCl)]])
    simp -implicitDefEqProofs only [go_sem, hlt, getD_map, hq, encPr, w6]
    rcases hb1 : decide (m + (q.clauses.length : Int) > 120) with _ | _
    · simp -implicitDefEqProofs only [go_sem]
      rcases hb2 : decide ((q.name.length : Int) > 500) with _ | _
      · have hb1 := of_decide_eq_false hb1
        have hb2 := of_decide_eq_false hb2
        simp -implicitDefEqProofs only [go_sem]
        have hc120 : q.clauses.length ≤ 120 := by simp only at hmm; omega
        refine s_forP hC (fun j (z : Int) => [(40, .i j), (38, .sl 5 (q.clauses.map encCl)), (39, .i q.clauses.length), (3, .ref (h.length + 1) 0), (4, .i (m + q.clauses.length)), (20, .i i), (18, .sl 3 (p.procs.map encPr)), (19, .i p.procs.length)])
          (fun j (z : Int) h' => (0 ≤ z ∧ z ≤ 5000) ∧ (∀ c ∈ q.clauses.take j, sizes c.parts ≤ 5000 ∧ strss c.parts) ∧ Keep All h h' ∧ h'[h.length + 1]? = some (.cells 3 [.i z])) q.clauses.length ?_ ?_
        · exact ⟨z, _, Wk.pick ha.1 (by simp [go_sem]), hz, fun q hq => by simp at hq, ha, get_before o1⟩
        rintro j z1 h3 hj ⟨hz1, hJ, hk3, o3⟩
        simp -implicitDefEqProofs only [go_sem]
        refine cdO_and (fun hlt2 => ?_) (fun hlt2 => ?_)
        · have hlt2 := lt_of_decide hlt2
          have w7 : IntKind.i64.wrap ((j : Int) + 1) = (j : Int) + 1 := wrap_ok _ (by omega)
          have hcw := n2 _ (List.getElem_mem hlt2)
          have htj : q.clauses.take (j + 1) = q.clauses.take j ++ [q.clauses[j]] := take_snoc hlt2
          generalize hc : q.clauses[j] = c at *
          obtain ⟨⟨w1, w1'⟩, ⟨w2, w2'⟩, w3, w3'⟩ := hcw
          obtain ⟨ls, hls⟩ : ∃ ls, ls = [c.head, c.guard, c.body] := ⟨_, rfl⟩
          have lsw : ∀ l ∈ ls, wids l ∧ l.length ≤ 2 ^ 47 := by
            intro l hl
            rw [hls] at hl
            simp only [List.mem_cons, List.not_mem_nil, or_false] at hl
            rcases hl with rfl | rfl | rfl
            · exact ⟨w1, w1'⟩
            · exact ⟨w2, w2'⟩
            · exact ⟨w3, w3'⟩
          have lsl : ls.length = 3 := by rw [hls]; rfl
          have hk4 : ∀ l, Keep All h (h3 ++ l) := fun l => hk3.trans (Keep.app _ _ _)
          simp -implicitDefEqProofs only [go_sem, hlt2, getD_map, hc, encCl, List.append_assoc, show Nat.blt 1 3 = true from rfl, show Nat.blt 2 3 = true from rfl, show Nat.blt 0 3 = true from rfl]
          refine s_forP hC (fun a (y : Int × Nat) => [(52, .i a), (50, .own y.2 1 (ls.map encL)), (51, .i (3 : Nat)), (40, .i j), (38, .sl 5 (q.clauses.map encCl)), (39, .i q.clauses.length), (3, .ref (h.length + 1) 0), (4, .i (m + q.clauses.length)), (20, .i i), (18, .sl 3 (p.procs.map encPr)), (19, .i p.procs.length)])
            (fun a (y : Int × Nat) h' => (0 ≤ y.1 ∧ y.1 ≤ 5000) ∧ cnts (ls.take a).flatten z1 1 = (true, y.1) ∧ Keep All h h' ∧ h'[h.length + 1]? = some (.cells 3 [.i y.1])) 3 ?_ ?_
          · refine ⟨(z1, h3.length + 1), _, Wk.pick (hk4 _).1 ?_, hz1, rfl, hk4 _, get_before o3⟩
            simp [go_sem, hls, encL]
          rintro a ⟨z2, k2⟩ h4 ha3 ⟨hz2, hA, hk5, o4⟩
          simp -implicitDefEqProofs only [go_sem]
          refine cdO_and (fun hlt3 => ?_) (fun hlt3 => ?_)
          · have hlt3 := lt_of_decide hlt3
            have hlt3' : a < ls.length := by omega
            have w8 : IntKind.i64.wrap ((a : Int) + 1) = (a : Int) + 1 := wrap_ok _ (by omega)
            obtain ⟨lw, ll⟩ := lsw _ (List.getElem_mem hlt3')
            have hta : (ls.take (a + 1)).flatten = (ls.take a).flatten ++ ls[a] := flat_snoc hlt3'
            generalize hl : ls[a] = l at *
            have bb : bounds (a : Int) (ls.map encL).length := by simp [bounds]; omega
            simp -implicitDefEqProofs only [go_sem, hlt3, hlt3', getD_map, hl, encL]
            refine s_forP hC (fun b (z : Int) => [(58, .i b), (56, .sl 4 (l.map enc)), (57, .i l.length), (52, .i a), (50, .own k2 1 (ls.map encL)), (51, .i (3 : Nat)), (40, .i j), (38, .sl 5 (q.clauses.map encCl)), (39, .i q.clauses.length), (3, .ref (h.length + 1) 0), (4, .i (m + q.clauses.length)), (20, .i i), (18, .sl 3 (p.procs.map encPr)), (19, .i p.procs.length)])
              (fun b (z : Int) h' => (0 ≤ z ∧ z ≤ 5000) ∧ cnts ((ls.take a).flatten ++ l.take b) z1 1 = (true, z) ∧ Keep All h h' ∧ h'[h.length + 1]? = some (.cells 3 [.i z])) l.length ?_ ?_
            · refine ⟨z2, h4, Wk.pick hk5.1 ?_, hz2, by rw [List.take_zero, List.append_nil]; exact hA, hk5, o4⟩
              simp [go_sem]
            rintro b z3 h5 hb ⟨hz3, hB, hk6, o5⟩
            simp -implicitDefEqProofs only [go_sem]
            refine cdO_and (fun hlt4 => ?_) (fun hlt4 => ?_)
            · have hlt4 := lt_of_decide hlt4
              have w9 : IntKind.i64.wrap ((b : Int) + 1) = (b : Int) + 1 := wrap_ok _ (by omega)
              have q94 := h94at (GL := GL) l[b] (wids_mem lw _ (List.getElem_mem hlt4)) z3 1 (by omega) (by omega) (h.length + 1) (h5 ++ [.cells 24 [.v (.int .i64 l[b].kind), .v (.int .i64 l[b].n), .str l[b].s, .sl 4 (l[b].l.map enc)]]) (get_before o5)
              have hk7 := hk6.trans (Keep.app All h5 [.cells 24 [.v (.int .i64 l[b].kind), .v (.int .i64 l[b].n), .str l[b].s, .sl 4 (l[b].l.map enc)]])
              simp -implicitDefEqProofs only [go_sem, hlt4, getD_map]
              refine call_any hC q94 fun r h6 ⟨e6, er⟩ => ?_
              subst er
              have hk8 : Keep All h h6 := by rw [e6]; exact hk7.turn _ (get_before o5) (Nat.le_add_right _ _)
              rcases hy : l[b].cnt z3 1 with ⟨_ | _, z4⟩
              · simp -implicitDefEqProofs only [go_sem, Bool.not_false]
                exact fin _ hk8
              · have hcn : cnts ((ls.take a).flatten ++ l.take (b + 1)) z1 1 = (true, z4) := by
                  rw [take_snoc hlt4, ← List.append_assoc, cnts_app, hB]
                  simp only [cnts, hy]
                have hz4 := cnts_le hz1.1 hcn
                simp -implicitDefEqProofs only [go_sem, Bool.not_true]
                refine ⟨z4, h6, Wk.pick hk8.1 (by simp [go_sem, w9]), by omega, hcn, hk8, ?_⟩
                rw [e6, hy]
                exact get_set (get_before o5)
            · have hge4 := ge_of_decide hlt4
              rw [take_all hge4] at hB
              simp -implicitDefEqProofs only [go_sem, hlt4]
              exact ⟨(z3, k2), h5, Wk.pick hk6.1 (by simp [go_sem, w8]), hz3, by rw [hta]; exact hB, hk6, o5⟩
          · have hge3 := ge_of_decide hlt3
            rw [take_all (by omega)] at hA
            have hfl : ls.flatten = c.parts := by rw [hls]; simp [Cl.parts]
            rw [hfl] at hA
            have hx := cnts_true _ _ _ _ hz1.1 hA
            simp -implicitDefEqProofs only [go_sem, hlt3]
            refine ⟨z2, h4, Wk.pick hk5.1 (by simp [go_sem, w7]), hz2, ?_, hk5, o4⟩
            intro c' hc'
            rw [htj, List.mem_append, List.mem_singleton] at hc'
            rcases hc' with hc' | rfl
            · exact hJ c' hc'
            · exact ⟨by simp only at hx; omega, hx.2.2⟩
        · have hge2 := ge_of_decide hlt2
          rw [take_all hge2] at hJ
          simp -implicitDefEqProofs only [go_sem, hlt2]
          refine ⟨(z1, m + q.clauses.length), h3, Wk.pick hk3.1 (by simp [go_sem, w5]), hz1, by simp only at hmm ⊢; omega, ?_, hk3, o3⟩
          intro q' hq'
          rw [hti, List.mem_append, List.mem_singleton] at hq'
          rcases hq' with hq' | rfl
          · exact hI q' hq'
          · exact ⟨by omega, hc120, hJ⟩
      · simp -implicitDefEqProofs only [go_sem]
        exact fin _ ha
    · simp -implicitDefEqProofs only [go_sem]
      exact fin _ ha
  · have hge := ge_of_decide hlt
    rw [take_all hge] at hI
    simp -implicitDefEqProofs only [go_sem, hlt]
    exact fin_gives hk2.1 ⟨true, rfl, hk2, fun _ => ⟨hl80, hI⟩⟩
end Go.Rip

/- ProgChecks. -/
namespace Go.Rip
open Go Go.Proofs
variable {GL : Glob}
attribute [local irreducible] Pure
theorem h7 (c : Cl) (ar : Int) (p : Pg) (q : Qy) (s : Sym) (hc : c.wid) (hp : p.wid) (hq : q.wid) : Pure (PC GLs) 7 [encCl c, .i ar, encPg p, encQy q, encSym s] (.b true) := by
  obtain ⟨⟨w1, w1'⟩, ⟨w2, w2'⟩, w3, w3'⟩ := hc
  have f1 := h17 (GL := GLs) [c.head, c.guard, c.body] 2000 (by simp [w1, w1', w2, w2', w3, w3']) (by simp) (by omega)
  have f2 := h17 (GL := GLs) [q.goals] 2000 (by simp [hq.1, hq.2]) (by simp) (by omega)
  have q27 := fun h => h27 (GL := GLs) p hp h
  simp only [encPg] at q27
  refine k7.pure (by simp) (by simp [go_sem]) (by simp [go_sem]) ?_
  simp -implicitDefEqProofs only [go_sem, c7, r7, encCl, encPg, encQy]
  obtain ⟨a, n⟩ := s
  simp -implicitDefEqProofs only [go_sem, encSym]
  refine call_pure hC sane_ok ?_
  simp -implicitDefEqProofs only [go_sem, Bool.not_true]
  refine call_gives hC (q27 _) fun x h1 ⟨b, hx, hk1, hb⟩ => ?_
  subst hx
  have o1 := hk1.got (i := 0) rfl
  have o2 := hk1.got (i := 1) rfl
  have o3 := hk1.got (i := 2) rfl
  have o4 := hk1.got (i := 3) rfl
  have o1_g := fun l => get_before (l := l) o1
  have o1_s := fun o l => set_before (l := l) o1 o
  have o1_e := fun o l => get_set_app (o := o) (l := l) o1
  have o1_h := fun o => get_set (o := o) o1
  have o2_g := fun l => get_before (l := l) o2
  have o2_s := fun o l => set_before (l := l) o2 o
  have o2_e := fun o l => get_set_app (o := o) (l := l) o2
  have o2_h := fun o => get_set (o := o) o2
  have o3_g := fun l => get_before (l := l) o3
  have o3_s := fun o l => set_before (l := l) o3 o
  have o3_e := fun o l => get_set_app (o := o) (l := l) o3
  have o3_h := fun o => get_set (o := o) o3
  have o4_g := fun l => get_before (l := l) o4
  have o4_s := fun o l => set_before (l := l) o4 o
  have o4_e := fun o l => get_set_app (o := o) (l := l) o4
  have o4_h := fun o => get_set (o := o) o4
  rcases b with _ | _
  · simp -implicitDefEqProofs only [go_sem, Bool.not_false]
    refine fin_pure ?_ ?_ <;> simp [go_sem]
  have hps := hb rfl
  have hpf := hps.fits
  simp -implicitDefEqProofs only [go_sem, Bool.not_true, o1, show Nat.blt 1 3 = true from rfl, show Nat.blt 2 3 = true from rfl, show Nat.blt 0 3 = true from rfl]
  refine call_fz f1 ?_ ?_
  · simp [fzs, fzGs, fzG, encL, fzGs_encs, ← encs_map]
  rcases hc1 : cnts [c.head, c.guard, c.body].flatten 2000 1 with ⟨_ | _, x⟩
  · simp -implicitDefEqProofs only [go_sem, Bool.not_false]
    refine fin_pure ?_ ?_ <;> simp [go_sem]
  have hcp : [c.head, c.guard, c.body].flatten = c.parts := by simp [Cl.parts]
  rw [hcp] at hc1
  have hx := cnts_true _ _ _ _ (by omega) hc1
  simp -implicitDefEqProofs only [go_sem, Bool.not_true, List.append_assoc, o3_g, blt01]
  refine call_fz f2 ?_ ?_
  · simp [fzs, fzGs, fzG, encL, fzGs_encs, ← encs_map]
  rcases hc2 : cnts [q.goals].flatten 2000 1 with ⟨_ | _, y⟩
  · simp -implicitDefEqProofs only [go_sem, Bool.not_false]
    refine fin_pure ?_ ?_ <;> simp [go_sem]
  have hy := cnts_true q.goals 2000 1 y (by omega) (by simpa using hc2)
  simp -implicitDefEqProofs only [go_sem, Bool.not_true, o4_g]
  have hqf : q.fits := ⟨by omega, hy.2.2⟩
  have g1 := h49 p hpf ⟨a, n⟩
  have g2 := h50 (GL := GLs) p hpf ⟨a, n⟩
  have g3 := h51 c ar (by omega) hx.2.2
  have g4 := h52 (GL := GLs) c ar (by omega) hx.2.2
  have g5 := h32 p hpf
  have g6 := h53 (GL := GLs) p hpf
  have g7 := h54 p hpf q hqf
  have g8 := h55 (GL := GLs) p hpf q hqf
  simp only [encPg, encSym] at g1 g2 g5 g6
  simp only [encCl] at g3 g4
  simp only [encPg, encQy] at g7 g8
  clear hb hps q27 f1 f2 hc1 hc2 hx hy hk1
  refine cdO_and (fun hn => ?_) (fun hn => ?_)
  · simp -implicitDefEqProofs only [go_sem, hn]
    refine fin_pure ?_ ?_ <;> simp [go_sem]
  simp -implicitDefEqProofs only [go_sem, hn, o2_g, o4_g]
  refine call_pure hC g1 ?_
  simp -implicitDefEqProofs only [go_sem, o2_g, o4_g]
  refine call_pure hC g2 ?_
  simp -implicitDefEqProofs only [go_sem, o1_g]
  refine call_pure hC g3 ?_
  simp -implicitDefEqProofs only [go_sem, o1_g]
  refine call_pure hC g4 ?_
  simp -implicitDefEqProofs only [go_sem, o2_g, beq_self_eq_true]
  refine call_pure hC g5 ?_
  simp -implicitDefEqProofs only [go_sem, o2_g]
  refine call_pure hC g6 ?_
  simp -implicitDefEqProofs only [go_sem, o2_g, o3_g, beq_self_eq_true]
  refine call_pure hC g7 ?_
  simp -implicitDefEqProofs only [go_sem, o2_g, o3_g]
  refine call_pure hC g8 ?_
  simp -implicitDefEqProofs only [go_sem, beq_self_eq_true]
  refine fin_pure ?_ ?_ <;> simp [go_sem]
end Go.Rip
