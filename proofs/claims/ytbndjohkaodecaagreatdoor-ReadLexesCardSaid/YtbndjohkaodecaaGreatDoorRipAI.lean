/- Functions that defer one call: the whole. -/
import Derived.Test.YtbndjohkaodecaaGreatDoorRipAH
namespace Go.Rip
open Go
section
variable {P : Program} {GL : Glob}
theorem oJ {f : FuncId} {fn : Func} {pre : List Code} {id : Nat} {ops : Array Oper} {init : List Oper} {od : Oper} {t : Nat} {ats : Array TypeId} {rest : Code} {as : List ACode} {es : List AEnt} {c2 : ACode} {rs : List ARet} {st : List Nat}
  {K : FuncId -> Option (Nat × Nat × ACode × Nat)} (hK : ∀ g r x c n, K g = some (r, x, c, n) -> ∃ gfn, P.funcs[g]? = some gfn /\ (gfn.name == "runtime.NumGoroutine") = false /\ compRec P gfn = some (r, x, c) /\ gfn.results = #[] /\ (∃ c, gfn.body = some c) /\ n = gfn.ntmps)
  (hf : P.funcs[f]? = some fn) (hn : (fn.name == "runtime.NumGoroutine") = false) (hb : fn.body = some (spineCode pre (.seq (.region id ops false) rest)))
  (hops : ops.toList = init ++ [od]) (hod : od.op = .defer ⟨.value (.tmp t), #[], ats⟩) (hog : od.guard = none) (hodd : od.dst = none)
  (hpre : compPre P (fn.ntmps, []) pre = some as) (hes : compOps P (fn.ntmps, []) ops init = some es) (hrest : comp P (fn.ntmps, st) rest = some c2) (hnr : noRF c2 = true) (hrs : compRets P fn.results.toList = some rs) (hst : ∀ x ∈ fn.results.toList, resT x ∈ st)
  {args : List AV} {h : List AObj} {R : ARes -> List AObj -> Prop} (ha : args.length <= fn.ntmps) (hs : bodyDefer GL (AC P GL) K as es t c2 rs args h R) : ACall P GL f args h R := by
 intro E A G w vs hW hargs
 refine .inl ⟨cZ hf hn hb, calls_of_wp_defers hf hb (wpIn_wide (n := 0) |>.1 ?_)⟩
 have hlen := hargs.length
 let B : Base := ⟨(fn.ntmps, []), fun _ => undef, h.length, [], E, A, G, w, false⟩
 have hR : Rel GL B (args0 0 args) h { tmps := vs.toArray ++ Array.replicate (fn.ntmps - vs.toArray.size) undef, defers := [] } w E A G := by
  refine ⟨⟨hW, ⟨by show h.length <= E.n; rw [hW.n]; exact Nat.le_refl _, fun k _ => ⟨rfl, rfl, rfl, rfl⟩⟩, Ext.refl _ _ _⟩, ?_, fun t ht => (by cases ht), fun i => ?_, DfsOk.refl⟩
  ·show fn.ntmps <= _
   simp; omega
  ·rw [fK, if_neg (Nat.not_lt_zero i), Nat.sub_zero]
   cases hx : args[i]? with
   | none => simp [Rep]
   | some x =>
    obtain ⟨u, hu, hr⟩ := hargs.get hx
    have hlt : i < vs.length := (List.getElem?_eq_some_iff.1 hu).1
    simp only [Option.getD_some, Array.getD_eq_getD_getElem?]
    rw [Array.getElem?_append_left (by simpa using hlt)]
    simp [hu, hr]
 have hEn : h.length = E.n := hW.n.symm
 have wk : ∀ {x : AV} {h' : List AObj} {w' : World} {E' : Env} {A' : Nat -> Nat -> Prop} {G' : Gd} {v : Value}, RelM GL B h' w' E' A' G' -> Rep E' A' G' w' x v -> ∀ {y h''}, Wk GL h.length [(0, x)] h' [(0, y)] h'' ->
   ∃ E'' A'' G'', Wf GL E'' A'' G'' h'' w' /\ Ext A G w A'' G'' w' /\ E.le E'' /\ Rep E'' A'' G'' w' y v := by
  intro x h' w' E' A' G' v hM hx y h'' hk
  obtain ⟨E'', A'', G'', g1, g2, g3, g4, g5⟩ := hk E' A' G' w' (fun i => if i = 0 then v else undef) hM.wf (fun i => by
   simp only [tget]
   split
   ·rename_i hb; rw [if_pos (Nat.eq_of_beq_eq_true hb)]; exact hx
   ·simp [Rep])
  have hl := hM.le.trans (E'' := E'') (m := h.length) ⟨g4, g5⟩
  have hy := g2 0
  exact ⟨E'', A'', G'', g1, hM.ext.trans g3, ⟨by rw [hW.n]; exact hl.1, fun k hk => hl.2 k (by rw [<- hW.n]; exact hk)⟩, by simpa [tget] using hy⟩
 have hP : POk GL B (kpanic GL h.length R) (bodyPostD P fn (OutC GL E A G w R)) := ⟨by
  rintro x h' p a' w' E' A' G' hM hd _ hx hp1 hp2 ⟨y, h'', hk, hRy⟩
  obtain ⟨E'', A'', G'', g1, g2, g3, g4⟩ := wk hM hx hk
  show Leaves P fn a'.tmps _ a'.defers (.panicking [p]) w'
  rw [hd.eq rfl]
  exact ⟨E'', A'', G'', .panic y, h'', g1, g2, g3, ⟨g4, hp1, hp2⟩, hRy⟩⟩
 refine pre_in (B := B) (r := none) (nn := 0) hP ?_ ?_ pre as _ _ _ _ _ _ _ hpre hR hs
 ·intro e τ' h' a' w' E' A' G' hne hR' hk
  cases e with
  | normal => exact absurd rfl hne
  | exit id => exact hk.elim
  | ret =>
   simp only [kret] at hk
   split at hk
   ·rename_i x hx
    obtain ⟨y, h'', hwk, hRy⟩ := hk
    obtain ⟨v, hv, hxv⟩ := rO (P := P) hR' hrs hx
    obtain ⟨E'', A'', G'', g1, g2, g3, g4⟩ := wk hR'.toRelM hxv hwk
    show Leaves P fn a'.tmps _ a'.defers .returning w'
    rw [hR'.dfs.eq rfl]
    exact ⟨v, hv, E'', A'', G'', .val y, h'', g1, g2, g3, g4, hRy⟩
   ·exact hk.elim
 ·intro τ1 h1 a1 w1 E1 A1 G1 hR1 hk
  refine wpIn_seq (wpIn_region ?_)
  have hsz : ops.size = init.length + 1 := by rw [<- Array.length_toList, hops]; simp
  have hrange : List.range ops.size = List.range' 0 init.length ++ [init.length] := by
   rw [hsz, List.range_succ, List.range_eq_range']
  rw [hrange]
  have hget : ∀ (j : Nat) (o : Oper), (init ++ [od])[j]? = some o -> ops[j]? = some o := fun j o hj => by
   rw [<- hops] at hj
   simpa using hj
  refine mB hP.then ?_ init 0 es _ _ _ _ _ _ _ (fun j o hj => by
   rw [Nat.zero_add]
   exact hget j o (by rw [List.getElem?_append_left (List.getElem?_eq_some_iff.1 hj).1]; exact hj)) hes hR1 hk
  intro τ2 h2 a2 w2 E2 A2 G2 hR2 hk2
  split at hk2
  ·rename_i g first cap htg
   split at hk2
   ·rename_i r x crec n hKg
    obtain ⟨hle, hbh⟩ := hk2
    obtain ⟨gfn, hgf, hgn, hgc, hgr, ⟨gc, hgb⟩, rfl⟩ := hK g r x crec n hKg
    have hv := hR2.tmps t
    rw [htg] at hv
    simp only [Rep] at hv
    obtain ⟨fa, fb, hv, hf1, hf2⟩ := hv
    have hod2 : ops[init.length]? = some od := hget _ _ (by simp)
    have hwant : Region.wanted od (yielded ops a2.tmps) = true := by simp [Region.wanted, hog]
    simp only [wpOpsIn, hod2, hwant, if_true]
    have hex : (execOp a2.eval od).run P w2 = .ok (.defer { target := .fn (.func g) fb, args := fa }) w2 := by
     simp [execOp, hod, resolve, Act.eval, hv, Deferred.ofValue]
    refine ⟨fun _ _ => trivial, ?_⟩
    rw [show (FW none).round = none from rfl, Oper.semAt_none, hex, Oper.uponIn_defer, hodd]
    show rest.wpIn (FW none) 0 P _ { a2 with defers := { target := .fn (.func g) fb, args := fa } :: a2.defers } w2
    refine wpIn_wide (n := 0) |>.2 (qV (d := { target := .fn (.func g) fb, args := fa }) (dargs := first ++ cap) (dvs := fa.toList ++ fb.toList) hEn hrest hnr hrs hst hgf hgc hgr rfl (fun w => ?_) hle hR2.wf ?_ hR2.ext hR2.size hR2.tmps (by rw [hR2.dfs.eq rfl]) (hf1.append hf2) hbh)
    ·have e : (fa.toList ++ fb.toList).toArray = fa ++ fb := by rw [<- Array.toList_append, Array.toArray_toList]
     rw [e]
     exact cZ hgf hgn hgb
    ·exact ⟨by rw [<- hEn]; exact hR2.le.1, fun k hk => hR2.le.2 k (by show k < h.length; rw [hEn]; exact hk)⟩
   ·exact hk2.elim
  ·exact hk2.elim
end
end Go.Rip
