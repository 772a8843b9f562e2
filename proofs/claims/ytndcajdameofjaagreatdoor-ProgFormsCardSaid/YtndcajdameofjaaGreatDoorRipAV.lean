/- Programs: the reference's way. -/
import Derived.Test.YtndcajdameofjaaGreatDoorRipAU
import Derived.Test.YtndcajdameofjaaGreatDoorRipAJ
namespace Go.Rip
open Go Go.Proofs
variable {GL : Glob}
theorem vT {E : Env} {A : Nat -> Nat -> Prop} {G : Gd} {w : World} {u : Value} (sz : Nat) (h : Rep E A G w (.v (.slice none 0 0)) u) : Rep E A G w (.sl sz []) u := by
 simp only [Rep] at h ⊢
 exact ⟨none, 0, 0, h, rfl, Nat.le_refl _, by decide, .inl trivial⟩
theorem Pure.wkArgs {f : FuncId} {args args' : List AV} {v : AV} (hp : Pure (PC GL) f args v) (ha : ∀ E A G w vs, Reps E A G w args' vs -> Reps E A G w args vs) : Pure (PC GL) f args' v :=
 fun h E A G w vs hW hr => hp h E A G w vs hW (ha E A G w vs hr)
attribute [local irreducible] Pure
theorem qP {s : Sym} : ∀ {l : List Sym} {j : Nat}, s ∈ l.take j -> ∃ i, idxS s l = some i /\ i < j
 | [], j, h => by simp at h
 | k :: r, 0, h => by simp at h
 | k :: r, j + 1, h => by
  by_cases e : s = k
  ·exact ⟨0, by simp [idxS, e], by omega⟩
  ·simp only [List.take_succ_cons, List.mem_cons, e, false_or] at h
   obtain ⟨i, h1, h2⟩ := qP h
   exact ⟨i + 1, by simp [idxS, e, h1], by omega⟩
theorem find_self {l : List Sym} {j : Nat} (hj : j < l.length) : (findS l[j] l != (j : Int)) = decide (l[j] ∈ l.take j) := by
 by_cases h : l[j] ∈ l.take j
 ·obtain ⟨i, h1, h2⟩ := qP h
  rw [findS, h1]
  simp only [h, decide_true]
  simp [bne]; omega
 ·rw [findS, uS hj h rfl]
  simp [h]
def Pg.okM (p : Pg) (more : List Sym) : Bool := p.tabled && p.procs.all (okClauses p.syms more)
theorem okM_nil (p : Pg) : p.okM [] = p.ok := rfl
theorem h199 (p : Pg) (hp : p.fits) (more : List Sym) (hm : more.length < 2 ^ 30) : Pure (PC GL) 199 [encPg p, .sl 2 (more.map encSym)] (.b (p.okM more)) := by
 have h4 := hp.l
 have hall : p.okM more = ((!decide ((p.procs.length : Int) > 64) && headsOk [] p.procs) && p.procs.all (okClauses p.syms more)) := rfl
 have q123 := fun s => h123 (GL := GL) p hp.l s
 simp only [encPg] at q123
 refine k199.pure (by simp) (by simp [go_sem]) (by simp [go_sem]) ?_
 simp -implicitDefEqProofs only [go_sem, c199, r199, encPg]
 refine aG (fun h1 => ?_) (fun h1 => ?_)
 ·rw [h1] at hall
  simp -implicitDefEqProofs only [go_sem, h1]
  refine aD ?_ ?_ <;> simp [go_sem, hall]
 rw [h1, Bool.not_false, Bool.true_and] at hall
 simp -implicitDefEqProofs only [go_sem, h1]
 refine bX hC (fun i => headsOk [] (p.procs.take i) = true /\ (p.procs.take i).all (okClauses p.syms more) = true) (fun i => [(5, .i i)]) [1, 2] p.procs.length ⟨rfl, rfl⟩ ?_ ?_
 ·exact Wk.pick (by simp) (by simp [go_sem])
 rintro i hi ⟨hI, hI2⟩
 simp -implicitDefEqProofs only [go_sem]
 refine aG (fun hlt => ?_) (fun hlt => ?_)
 ·have hlt := aI hlt
  have hlt' : i < p.syms.length := by simpa [Pg.syms] using hlt
  have w5 : IntKind.i64.wrap ((i : Int) + 1) = (i : Int) + 1 := aF _ (by omega)
  have hmm := List.getElem_mem hlt
  have hs := lG hlt
  have hcl := hp.c _ hmm
  have hct := hp.t _ hmm
  have q247 := h247 (GL := GL) p.procs[i].name (hp.n _ hmm)
  have q26 := h26 (GL := GL) p.procs[i].sym
  have q123 := q123 p.procs[i].sym
  have ef := find_self hlt'
  have ei : p.syms[i] = p.procs[i].sym := by simp [Pg.syms]
  have et : p.syms.take i = (p.procs.take i).map Pr.sym := by simp [Pg.syms]
  rw [ei, et] at ef
  have bad : p.procs[i].head ((p.procs.take i).map Pr.sym) = false -> p.okM more = false := fun e => by
   rw [hall, kU (j := i + 1) (by rw [hs, hI, e]; rfl)]; rfl
  have ok : p.procs[i].head ((p.procs.take i).map Pr.sym) = true -> headsOk [] (p.procs.take (i + 1)) = true := fun e => by rw [hs, hI, e]; rfl
  have snoc := cT hlt (okClauses p.syms more)
  have cl : okClauses p.syms more p.procs[i] = false -> p.okM more = false := fun e => by
   rw [hall, show p.procs.all (okClauses p.syms more) = false from List.all_eq_false.2 ⟨_, hmm, by simp [e]⟩, Bool.and_false]
  clear hs hall
  generalize hq : p.procs[i] = q at *
  have hsym : q.sym = ⟨q.name, q.arity⟩ := rfl
  rw [hsym] at q26 q123 ef
  simp only [encSym] at q26 q123
  simp -implicitDefEqProofs only [go_sem, hlt, aP, hq, encPr, Nat.reduceAdd]
  refine aC hC q247 ?_
  repeat' (first | simp -implicitDefEqProofs only [go_sem, *] | with_reducible refine aU (fun _ => ?_) (fun _ => ?_) | with_reducible refine aV (fun _ => ?_) (fun _ => ?_) | with_reducible refine aG (fun _ => ?_) (fun _ => ?_) | with_reducible refine aD ?_ ?_ | ((with_reducible apply aC hC); (exact q123)) | ((with_reducible apply aC hC); (exact q26)) | ((with_reducible refine And.intro ?bnd ?_); (case bnd => decide)) | fail)
  all_goals first
   | with_reducible refine is_loop ?_
   | (rw [bad (by simp_all [Pr.head, Pr.sym])]; done)
   | (exfalso; simp_all; done)
  have hI3 : headsOk [] (p.procs.take (i + 1)) = true := ok (by simp_all [Pr.head, Pr.sym])
  have hsub : ∀ j, j <= q.clauses.length -> (q.clauses.take j).all (fun c => c.ok q.arity && okCalls p.syms more c.body) = false -> p.okM more = false := fun j _ e => cl (by
   rw [okClauses, <- List.take_append_drop j q.clauses, List.all_append, e]; rfl)
  refine bX hC (fun j => (q.clauses.take j).all (fun c => c.ok q.arity && okCalls p.syms more c.body) = true) (fun j => [(9, .i j)]) [1, 2, 5, 6] q.clauses.length rfl ?_ ?_
  ·exact Wk.pick (by simp) (by simp [go_sem])
  intro j hj hJ
  simp -implicitDefEqProofs only [go_sem]
  refine aG (fun hlt2 => ?_) (fun hlt2 => ?_)
  ·have hlt2 := aI hlt2
   have w6 : IntKind.i64.wrap ((j : Int) + 1) = (j : Int) + 1 := aF _ (by omega)
   have hm2 := List.getElem_mem hlt2
   have hsz := hct _ hm2
   have hbl := tW q.clauses[j]
   have q144 := h144 (GL := GL) q.clauses[j] q.arity hsz.1 hsz.2
   have q146 := h146 (GL := GL) p hp.l q.clauses[j].body (by omega) more hm
   have hs2 := cT hlt2 fun c => c.ok q.arity && okCalls p.syms more c.body
   rw [hJ, Bool.true_and] at hs2
   simp only [encCl, encPg] at q144 q146
   simp -implicitDefEqProofs only [go_sem, hlt2, aP, encCl]
   refine aC hC q144 ?_
   rcases hok : q.clauses[j].ok q.arity with _ | _
   ·have e := hsub (j + 1) hlt2 (by rw [hs2, hok]; rfl)
    simp -implicitDefEqProofs only [go_sem, Bool.not_false]
    refine aD ?_ ?_ <;> simp [go_sem, e]
   ·simp -implicitDefEqProofs only [go_sem, Bool.not_true]
    refine aC hC q146 ?_
    rcases hoc : okCalls p.syms more q.clauses[j].body with _ | _
    ·have e := hsub (j + 1) hlt2 (by rw [hs2, hok, hoc]; rfl)
     simp -implicitDefEqProofs only [go_sem, Bool.not_false]
     refine aD ?_ ?_ <;> simp [go_sem, e]
    ·simp -implicitDefEqProofs only [go_sem, Bool.not_true]
     exact ⟨by rw [hs2, hok, hoc]; rfl, Wk.slots (by simp) (by simp [go_sem, w6]) (by simp [go_sem, free_encCl.rens, free_encCl.bds, free_encPr.rens, free_encPr.bds])⟩
  ·have hge2 := aK hlt2
   rw [aQ hge2] at hJ
   simp -implicitDefEqProofs only [go_sem, hlt2]
   exact ⟨⟨hI3, by rw [okClauses]; exact hJ⟩, Wk.slots (by simp) (by simp [go_sem, w5]) (by simp [go_sem, free_encPr.rens, free_encPr.bds])⟩
 ·have hge := aK hlt
  rw [aQ hge] at hI hI2
  rw [hI, hI2] at hall
  simp -implicitDefEqProofs only [go_sem, hlt]
  refine aD ?_ ?_ <;> simp [go_sem, hall]
theorem h199n (p : Pg) (hp : p.fits) : Pure (PC GL) 199 [encPg p, .v (.slice none 0 0)] (.b p.ok) := by
 have := h199 (GL := GL) p hp [] (by simp)
 rw [okM_nil] at this
 refine this.wkArgs fun E A G w vs hr => ?_
 simp only [Reps] at hr ⊢
 obtain ⟨u, us, rfl, h1, u2, us2, rfl, h2, rfl⟩ := hr
 exact ⟨u, _, rfl, h1, u2, _, rfl, vT 2 h2, rfl⟩
theorem h117 (p : Pg) (hp : p.fits) : Pure (PC GL) 117 [encPg p] (.b p.ok) := by
 have q := h199n (GL := GL) p hp
 simp only [encPg] at q
 refine k117.pure (by simp) (by simp [go_sem]) (by simp [go_sem]) ?_
 simp -implicitDefEqProofs only [go_sem, c117, r117, encPg]
 repeat' (first | simp -implicitDefEqProofs only [go_sem, *] | with_reducible refine aU (fun _ => ?_) (fun _ => ?_) | with_reducible refine aV (fun _ => ?_) (fun _ => ?_) | with_reducible refine aG (fun _ => ?_) (fun _ => ?_) | with_reducible refine aD ?_ ?_ | ((with_reducible apply aC hC); (exact q)) | ((with_reducible refine And.intro ?bnd ?_); (case bnd => decide)) | fail)
 all_goals simp_all [go_sem]
end Go.Rip
namespace Go.Rip
open Go Go.Proofs
variable {GL : Glob}
attribute [local irreducible] Pure
theorem h94at (t : Tm) (ht : t.wid) (left deep : Int) (hl : 0 <= left /\ left < 2 ^ 40) (hd : 0 <= deep /\ deep < 2 ^ 40) (k : Nat) (h : List AObj) (hk : h[k]? = some (.cells 3 [.i left])) :
  PC GL (.fn 94) [enc t, .ref k 0, .i deep] h fun r h' => h' = h.set k (.cells 3 [.i (t.cnt left deep).2]) /\ r = .val (.b (t.cnt left deep).1) := by
 have := lift2 (h1 := cel left) (h2 := cel (t.cnt left deep).2) (by simp [bd]) (by simp [bds, bd, cel, go_sem]) lW lW rfl (h94 (GL := GL) t ht left deep hl hd) (fun _ => k) (H := h) (H2 := h.set k (.cells 3 [.i (t.cnt left deep).2])) ?_ ?_ (by simp) ?_ ?_
 ·simpa [rens, ren, nH] using this
 ·intro i x hx
  cases i with
  | zero => simp [cel] at hx; subst hx; simpa [renO, rens, ren] using hk
  | succ i => simp [cel] at hx
 ·intro i x hx
  cases i with
  | zero => simp [cel] at hx; subst hx; simp [renO, rens, ren, aL hk]
  | succ i => simp [cel] at hx
 ·intro j hj
  rw [aN (hj 0 (by simp [cel]))]
 ·intro i j hi hj _
  simp [cel] at hi hj
  omega
structure Pr.small (q : Pr) : Prop where
 n : q.name.length <= 500
 c : q.clauses.length <= 120
 t : ∀ c ∈ q.clauses, sizes c.parts <= 5000 /\ strss c.parts
structure Pg.small (p : Pg) : Prop where
 l : p.procs.length <= 80
 q : ∀ q ∈ p.procs, q.small
theorem Pg.small.fits {p : Pg} (h : p.small) : p.fits :=
 ⟨by have := h.l; omega, fun q hq => by have := (h.q q hq).n; omega, fun q hq => by have := (h.q q hq).c; omega, fun q hq c hc => ⟨by have := ((h.q q hq).t c hc).1; omega, ((h.q q hq).t c hc).2⟩⟩
theorem h27 (p : Pg) (hw : p.wid) (h : List AObj) : Gives (PC GL) 27 [encPg p] h fun x h' => ∃ b, x = .b b /\ Keep All h h' /\ (b = true -> p.small) := by
 have hpl := hw.2
 refine k27.gives (by simp) ?_
 simp -implicitDefEqProofs only [go_sem, c27, r27, encPg, aW, bG, List.append_assoc]
 refine aG (fun h1 => ?_) (fun h1 => ?_)
 ·simp -implicitDefEqProofs only [go_sem, h1]
  exact aS (by simp) ⟨false, rfl, Keep.app _ _ _, fun e => by cases e⟩
 have hl80 : p.procs.length <= 80 := by have := of_decide_eq_false h1; omega
 simp -implicitDefEqProofs only [go_sem, h1]
 refine aZ hC (fun i (a : Int × Int) => [(20, .i i), (18, .sl 3 (p.procs.map encPr)), (19, .i p.procs.length), (3, .ref (h.length + 1) 0), (4, .i a.2)])
  (fun i (a : Int × Int) h' => (0 <= a.1 /\ a.1 <= 5000) /\ (0 <= a.2 /\ a.2 <= 120) /\ (∀ q ∈ p.procs.take i, q.small) /\ Keep All h h' /\ h'[h.length + 1]? = some (.cells 3 [.i a.1])) p.procs.length ?_ ?_
 ·exact ⟨(5000, 0), _, Wk.pick (by simp) (by simp [go_sem]), by simp, by simp, fun q hq => by simp at hq, Keep.app _ _ _, aW h _ 1⟩
 rintro i ⟨z, m⟩ h2 hi ⟨hz, hmm, hI, hk2, o1⟩
 simp -implicitDefEqProofs only [go_sem]
 refine aG (fun hlt => ?_) (fun hlt => ?_)
 ·have hlt := aI hlt
  have w5 : IntKind.i64.wrap ((i : Int) + 1) = (i : Int) + 1 := aF _ (by omega)
  have hqw := hw.1 _ (List.getElem_mem hlt)
  have hti : p.procs.take (i + 1) = p.procs.take i ++ [p.procs[i]] := bK hlt
  generalize hq : p.procs[i] = q at *
  obtain ⟨n1, n2, n3⟩ := hqw
  have w6 : IntKind.i64.wrap (m + (q.clauses.length : Int)) = m + q.clauses.length := aF _ (by simp only at hmm; omega)
  have fin : ∀ h', Keep All h h' -> ∃ y h'', Wk GL h.length [(0, .v (.bool false))] h' [(0, y)] h'' /\ ∃ x, ARes.val y = ARes.val x /\ ∃ b, x = .b b /\ Keep All h h'' /\ (b = true -> p.small) := fun h' hk => aS hk.1 ⟨false, rfl, hk, fun e => by cases e⟩
  have ha := hk2.trans (Keep.app All h2 [.cells 60 [.str q.name, .i q.arity, .sl 5 (q.clauses.map encCl)]])
  simp -implicitDefEqProofs only [go_sem, hlt, aP, hq, encPr, w6]
  rcases hb1 : decide (m + (q.clauses.length : Int) > 120) with _ | _
  ·simp -implicitDefEqProofs only [go_sem]
   rcases hb2 : decide ((q.name.length : Int) > 500) with _ | _
   ·have hb1 := of_decide_eq_false hb1
    have hb2 := of_decide_eq_false hb2
    simp -implicitDefEqProofs only [go_sem]
    have hc120 : q.clauses.length <= 120 := by simp only at hmm; omega
    refine aZ hC (fun j (z : Int) => [(40, .i j), (38, .sl 5 (q.clauses.map encCl)), (39, .i q.clauses.length), (3, .ref (h.length + 1) 0), (4, .i (m + q.clauses.length)), (20, .i i), (18, .sl 3 (p.procs.map encPr)), (19, .i p.procs.length)])
     (fun j (z : Int) h' => (0 <= z /\ z <= 5000) /\ (∀ c ∈ q.clauses.take j, sizes c.parts <= 5000 /\ strss c.parts) /\ Keep All h h' /\ h'[h.length + 1]? = some (.cells 3 [.i z])) q.clauses.length ?_ ?_
    ·exact ⟨z, _, Wk.pick ha.1 (by simp [go_sem]), hz, fun q hq => by simp at hq, ha, aE o1⟩
    rintro j z1 h3 hj ⟨hz1, hJ, hk3, o3⟩
    simp -implicitDefEqProofs only [go_sem]
    refine aG (fun hlt2 => ?_) (fun hlt2 => ?_)
    ·have hlt2 := aI hlt2
     have w7 : IntKind.i64.wrap ((j : Int) + 1) = (j : Int) + 1 := aF _ (by omega)
     have hcw := n2 _ (List.getElem_mem hlt2)
     have htj : q.clauses.take (j + 1) = q.clauses.take j ++ [q.clauses[j]] := bK hlt2
     generalize hc : q.clauses[j] = c at *
     obtain ⟨⟨w1, w1'⟩, ⟨w2, w2'⟩, w3, w3'⟩ := hcw
     obtain ⟨ls, hls⟩ : ∃ ls, ls = [c.head, c.guard, c.body] := ⟨_, rfl⟩
     have lsw : ∀ l ∈ ls, wids l /\ l.length <= 2 ^ 47 := by
      intro l hl
      rw [hls] at hl
      simp only [List.mem_cons, List.not_mem_nil, or_false] at hl
      rcases hl with rfl | rfl | rfl
      ·exact ⟨w1, w1'⟩
      ·exact ⟨w2, w2'⟩
      ·exact ⟨w3, w3'⟩
     have lsl : ls.length = 3 := by rw [hls]; rfl
     have hk4 : ∀ l, Keep All h (h3 ++ l) := fun l => hk3.trans (Keep.app _ _ _)
     simp -implicitDefEqProofs only [go_sem, hlt2, aP, hc, encCl, List.append_assoc, show Nat.blt 1 3 = true from rfl, show Nat.blt 2 3 = true from rfl, show Nat.blt 0 3 = true from rfl]
     refine aZ hC (fun a (y : Int × Nat) => [(52, .i a), (50, .own y.2 1 (ls.map encL)), (51, .i (3 : Nat)), (40, .i j), (38, .sl 5 (q.clauses.map encCl)), (39, .i q.clauses.length), (3, .ref (h.length + 1) 0), (4, .i (m + q.clauses.length)), (20, .i i), (18, .sl 3 (p.procs.map encPr)), (19, .i p.procs.length)])
      (fun a (y : Int × Nat) h' => (0 <= y.1 /\ y.1 <= 5000) /\ cnts (ls.take a).flatten z1 1 = (true, y.1) /\ Keep All h h' /\ h'[h.length + 1]? = some (.cells 3 [.i y.1])) 3 ?_ ?_
     ·refine ⟨(z1, h3.length + 1), _, Wk.pick (hk4 _).1 ?_, hz1, rfl, hk4 _, aE o3⟩
      simp [go_sem, hls, encL]
     rintro a ⟨z2, k2⟩ h4 ha3 ⟨hz2, hA, hk5, o4⟩
     simp -implicitDefEqProofs only [go_sem]
     refine aG (fun hlt3 => ?_) (fun hlt3 => ?_)
     ·have hlt3 := aI hlt3
      have hlt3' : a < ls.length := by omega
      have w8 : IntKind.i64.wrap ((a : Int) + 1) = (a : Int) + 1 := aF _ (by omega)
      obtain ⟨lw, ll⟩ := lsw _ (List.getElem_mem hlt3')
      have hta : (ls.take (a + 1)).flatten = (ls.take a).flatten ++ ls[a] := lT hlt3'
      generalize hl : ls[a] = l at *
      have bb : bounds (a : Int) (ls.map encL).length := by simp [bounds]; omega
      simp -implicitDefEqProofs only [go_sem, hlt3, hlt3', aP, hl, encL]
      refine aZ hC (fun b (z : Int) => [(58, .i b), (56, .sl 4 (l.map enc)), (57, .i l.length), (52, .i a), (50, .own k2 1 (ls.map encL)), (51, .i (3 : Nat)), (40, .i j), (38, .sl 5 (q.clauses.map encCl)), (39, .i q.clauses.length), (3, .ref (h.length + 1) 0), (4, .i (m + q.clauses.length)), (20, .i i), (18, .sl 3 (p.procs.map encPr)), (19, .i p.procs.length)])
       (fun b (z : Int) h' => (0 <= z /\ z <= 5000) /\ cnts ((ls.take a).flatten ++ l.take b) z1 1 = (true, z) /\ Keep All h h' /\ h'[h.length + 1]? = some (.cells 3 [.i z])) l.length ?_ ?_
      ·refine ⟨z2, h4, Wk.pick hk5.1 ?_, hz2, by rw [List.take_zero, List.append_nil]; exact hA, hk5, o4⟩
       simp [go_sem]
      rintro b z3 h5 hb ⟨hz3, hB, hk6, o5⟩
      simp -implicitDefEqProofs only [go_sem]
      refine aG (fun hlt4 => ?_) (fun hlt4 => ?_)
      ·have hlt4 := aI hlt4
       have w9 : IntKind.i64.wrap ((b : Int) + 1) = (b : Int) + 1 := aF _ (by omega)
       have q94 := h94at (GL := GL) l[b] (kP lw _ (List.getElem_mem hlt4)) z3 1 (by omega) (by omega) (h.length + 1) (h5 ++ [.cells 24 [.v (.int .i64 l[b].kind), .v (.int .i64 l[b].n), .str l[b].s, .sl 4 (l[b].l.map enc)]]) (aE o5)
       have hk7 := hk6.trans (Keep.app All h5 [.cells 24 [.v (.int .i64 l[b].kind), .v (.int .i64 l[b].n), .str l[b].s, .sl 4 (l[b].l.map enc)]])
       simp -implicitDefEqProofs only [go_sem, hlt4, aP]
       refine fC hC q94 fun r h6 ⟨e6, er⟩ => ?_
       subst er
       have hk8 : Keep All h h6 := by rw [e6]; exact hk7.turn _ (aE o5) (Nat.le_add_right _ _)
       rcases hy : l[b].cnt z3 1 with ⟨_ | _, z4⟩
       ·simp -implicitDefEqProofs only [go_sem, Bool.not_false]
        exact fin _ hk8
       ·have hcn : cnts ((ls.take a).flatten ++ l.take (b + 1)) z1 1 = (true, z4) := by
         rw [bK hlt4, <- List.append_assoc, gB, hB]
         simp only [cnts, hy]
        have hz4 := rD hz1.1 hcn
        simp -implicitDefEqProofs only [go_sem, Bool.not_true]
        refine ⟨z4, h6, Wk.pick hk8.1 (by simp [go_sem, w9]), by omega, hcn, hk8, ?_⟩
        rw [e6, hy]
        exact aL (aE o5)
      ·have hge4 := aK hlt4
       rw [aQ hge4] at hB
       simp -implicitDefEqProofs only [go_sem, hlt4]
       exact ⟨(z3, k2), h5, Wk.pick hk6.1 (by simp [go_sem, w8]), hz3, by rw [hta]; exact hB, hk6, o5⟩
     ·have hge3 := aK hlt3
      rw [aQ (by omega)] at hA
      have hfl : ls.flatten = c.parts := by rw [hls]; simp [Cl.parts]
      rw [hfl] at hA
      have hx := eI _ _ _ _ hz1.1 hA
      simp -implicitDefEqProofs only [go_sem, hlt3]
      refine ⟨z2, h4, Wk.pick hk5.1 (by simp [go_sem, w7]), hz2, ?_, hk5, o4⟩
      intro c' hc'
      rw [htj, List.mem_append, List.mem_singleton] at hc'
      rcases hc' with hc' | rfl
      ·exact hJ c' hc'
      ·exact ⟨by simp only at hx; omega, hx.2.2⟩
    ·have hge2 := aK hlt2
     rw [aQ hge2] at hJ
     simp -implicitDefEqProofs only [go_sem, hlt2]
     refine ⟨(z1, m + q.clauses.length), h3, Wk.pick hk3.1 (by simp [go_sem, w5]), hz1, by simp only at hmm ⊢; omega, ?_, hk3, o3⟩
     intro q' hq'
     rw [hti, List.mem_append, List.mem_singleton] at hq'
     rcases hq' with hq' | rfl
     ·exact hI q' hq'
     ·exact ⟨by omega, hc120, hJ⟩
   ·simp -implicitDefEqProofs only [go_sem]
    exact fin _ ha
  ·simp -implicitDefEqProofs only [go_sem]
   exact fin _ ha
 ·have hge := aK hlt
  rw [aQ hge] at hI
  simp -implicitDefEqProofs only [go_sem, hlt]
  exact aS hk2.1 ⟨true, rfl, hk2, fun _ => ⟨hl80, hI⟩⟩
end Go.Rip
