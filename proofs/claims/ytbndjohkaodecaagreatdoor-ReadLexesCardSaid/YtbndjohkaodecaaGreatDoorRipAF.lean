/- Blocks that are set aside for a while; allocations ahead of their turn. -/
import Derived.Test.YtbndjohkaodecaaGreatDoorRipAE
namespace Go.Rip
open Go
section
variable {GL : Glob} {E : Env} {A : Nat -> Nat -> Prop} {G : Gd} {w : World}
structure Turn (A : Nat -> Nat -> Prop) (G : Gd) (w : World) (G' : Gd) (w' : World) : Prop where
 cell : ∀ b o, A b o -> w'.cell? ⟨b, o, none⟩ = w.cell? ⟨b, o, none⟩
 mp : ∀ b es cl, G.i b -> w.heap[b]? = some (.map es cl) -> G'.i b /\ w'.heap[b]? = some (.map es cl)
 ce : ∀ b cs T fz, G.i b -> w.heap[b]? = some (.cells cs T fz) -> G'.i b /\ w'.heap[b]? = some (.cells cs T fz)
mutual
theorem Rep.turn {G' : Gd} {w' : World} (T : Turn A G w G' w') : ∀ (x : AV) (v : Value), Rep E A G w x v -> Rep E A G' w' x v
 | .any, _, _ => by simp [Rep]
 | .v x, _, h => by simpa [Rep] using h
 | .str l, _, h => by simpa [Rep] using h
 | .agg l, _, h => by
  simp only [Rep] at h ⊢
  obtain ⟨cs, rfl, ho, h⟩ := h
  exact ⟨cs, rfl, ho, Reps.turn T l _ h⟩
 | .tup l, _, h => by
  simp only [Rep] at h ⊢
  obtain ⟨cs, rfl, h⟩ := h
  exact ⟨cs, rfl, Reps.turn T l _ h⟩
 | .sl sz l, _, h => by
  simp only [Rep] at h ⊢
  obtain ⟨p, n, c, rfl, h1, h2, h3, h⟩ := h
  refine ⟨p, n, c, rfl, h1, h2, h3, ?_⟩
  rcases h with h | ⟨b, o, hp, h⟩
  ·exact .inl h
  ·exact .inr ⟨b, o, hp, RepL.turn T sz l b o h⟩
 | .own k sz l, _, h => by
  simp only [Rep] at h ⊢
  obtain ⟨hk, hv, p, n, c, rfl, h1, h2, h3, h⟩ := h
  refine ⟨hk, hv, p, n, c, rfl, h1, h2, h3, ?_⟩
  rcases h with h | ⟨b, o, hp, h⟩
  ·exact .inl h
  ·exact .inr ⟨b, o, hp, RepL.turn T sz l b o h⟩
 | .pel l, _, h => by
  simp only [Rep] at h ⊢
  obtain ⟨b, o, rfl, h⟩ := h
  exact ⟨b, o, rfl, RepC.turn T l b o h⟩
 | .ref k off, _, h => by simpa [Rep] using h
 | .eref k i off, _, h => by simpa [Rep] using h
 | .vec k sz m, _, h => by simpa [Rep] using h
 | .view k sz a m, _, h => by simpa [Rep] using h
 | .mp k, _, h => by simpa [Rep] using h
 | .imp ks vs, _, h => by
  simp only [Rep] at h ⊢
  obtain ⟨b, es, cl, rfl, hg, hb, h1, h2⟩ := h
  exact ⟨b, es, cl, rfl, (T.mp b es cl hg hb).1, (T.mp b es cl hg hb).2, Reps.turn T ks _ h1, Reps.turn T vs _ h2⟩
 | .fn f first cap, _, h => by
  simp only [Rep] at h ⊢
  obtain ⟨a, b, rfl, h1, h2⟩ := h
  exact ⟨a, b, rfl, Reps.turn T first _ h1, Reps.turn T cap _ h2⟩
 | .yld k, _, h => by simpa [Rep] using h
 | .iface t x, _, h => by
  simp only [Rep] at h ⊢
  obtain ⟨u, rfl, h⟩ := h
  exact ⟨u, rfl, Rep.turn T x u h⟩
theorem Reps.turn {G' : Gd} {w' : World} (T : Turn A G w G' w') : ∀ (l : List AV) (vs : List Value), Reps E A G w l vs -> Reps E A G' w' l vs
 | [], _, h => by simpa [Reps] using h
 | x :: xs, _, h => by
  simp only [Reps] at h ⊢
  obtain ⟨u, us, rfl, h1, h2⟩ := h
  exact ⟨u, us, rfl, Rep.turn T x u h1, Reps.turn T xs us h2⟩
theorem RepC.turn {G' : Gd} {w' : World} (T : Turn A G w G' w') : ∀ (l : List AV) (b o : Nat), RepC E A G w b o l -> RepC E A G' w' b o l
 | [], _, _, _ => by simp [RepC]
 | x :: xs, b, o, h => by
  simp only [RepC] at h ⊢
  obtain ⟨⟨u, hc, ha, ho, h1⟩, h2⟩ := h
  exact ⟨⟨u, (T.cell b o ha).trans hc, ha, ho, Rep.turn T x u h1⟩, RepC.turn T xs b (o + 1) h2⟩
theorem RepL.turn {G' : Gd} {w' : World} (T : Turn A G w G' w') (sz : Nat) : ∀ (l : List AV) (b o : Nat), RepL E A G w sz b o l -> RepL E A G' w' sz b o l
 | [], _, _, _ => by simp [RepL]
 | .agg cs :: xs, b, o, h => by
  simp only [RepL] at h ⊢
  exact ⟨h.1, RepC.turn T cs b o h.2.1, RepL.turn T sz xs b (o + sz) h.2.2⟩
 | .any :: xs, b, o, h | .v _ :: xs, b, o, h | .str _ :: xs, b, o, h | .tup _ :: xs, b, o, h | .sl _ _ :: xs, b, o, h | .own _ _ _ :: xs, b, o, h | .pel _ :: xs, b, o, h
 | .ref _ _ :: xs, b, o, h | .eref _ _ _ :: xs, b, o, h | .vec _ _ _ :: xs, b, o, h | .view _ _ _ _ :: xs, b, o, h | .mp _ :: xs, b, o, h | .imp _ _ :: xs, b, o, h | .fn _ _ _ :: xs, b, o, h
 | .yld _ :: xs, b, o, h | .iface _ _ :: xs, b, o, h => by
  simp only [RepL] at h ⊢
  obtain ⟨h0, ⟨u, hc, ha, ho, h1⟩, h2⟩ := h
  exact ⟨h0, ⟨u, (T.cell b o ha).trans hc, ha, ho, Rep.turn T _ u h1⟩, RepL.turn T sz xs b (o + sz) h2⟩
end
theorem Turn.hands {G' : Gd} (hG : ∀ b, G.i b -> G'.i b) : Turn A G w G' w := ⟨fun _ _ _ => rfl, fun b _ _ hg hb => ⟨hG b hg, hb⟩, fun b _ _ _ hg hb => ⟨hG b hg, hb⟩⟩
theorem Rep.hands1 {G' : Gd} (hG : ∀ b, G.i b -> G'.i b) (x : AV) (v : Value) (h : Rep E A G w x v) : Rep E A G' w x v := Rep.turn (.hands hG) x v h
theorem Reps.hands1 {G' : Gd} (hG : ∀ b, G.i b -> G'.i b) (l : List AV) (vs : List Value) (h : Reps E A G w l vs) : Reps E A G' w l vs := Reps.turn (.hands hG) l vs h
theorem RepC.hands1 {G' : Gd} (hG : ∀ b, G.i b -> G'.i b) (l : List AV) (b o : Nat) (h : RepC E A G w b o l) : RepC E A G' w b o l := RepC.turn (.hands hG) l b o h
theorem GlR.turn {G' : Gd} {w' : World} {n : Nat} {l : List AV} (T : Turn A G w G' w') (h : GlR A G w n l) : GlR A G' w' n l := by
 obtain ⟨h1, h2, cs, ty, fz, h3, h4⟩ := h
 obtain ⟨g1, g2⟩ := T.ce n cs ty fz h2 h3
 exact ⟨fun E' => RepC.turn T _ _ _ (h1 E'), g1, cs, ty, fz, g2, h4⟩
theorem GlR.hands {G' : Gd} {n : Nat} {l : List AV} (hG : ∀ b, G.i b -> G'.i b) (h : GlR A G w n l) : GlR A G' w n l := h.turn (.hands hG)
theorem ORel.turn {G' : Gd} {w' : World} (T : Turn A G w G' w') (hG : ∀ b, G'.i b -> G.i b) {k : Nat} {x : AObj} (hb : ∀ b, obk E k x = some b -> w'.heap[b]? = w.heap[b]?) (h : ORel E A G w k x) : ORel E A G' w' k x := by
 cases x with
 | cells T' l => obtain ⟨cs, h1, h9, h2, h3, h4⟩ := h; exact ⟨cs, (hb _ rfl).trans h1, h9, h2.turn T, h3, fun h => h4 (hG _ h)⟩
 | buf T' sz l => obtain ⟨cs, h1, h9, h5, h6, h7, h8, h2, h3, h4⟩ := h; exact ⟨cs, (hb _ rfl).trans h1, h9, h5, h6, h7, h8, h2.turn T, h3, fun h => h4 (hG _ h)⟩
 | map ks vs => obtain ⟨es, cl, h1, h2, h3, h4, h5⟩ := h; exact ⟨es, cl, (hb _ rfl).trans h1, h2.turn T, h3.turn T, h4, fun h => h5 (hG _ h)⟩
 | siter s p => exact ⟨(hb _ rfl).trans h.1, fun h' => h.2 (hG _ h')⟩
 | miter ks vs last => exact ⟨h.1.imp (hb _ rfl) (fun bm es cl hg hm => T.mp bm es cl hg hm) (fun _ h => Reps.turn T _ _ h) (fun _ h => Reps.turn T _ _ h) id (fun _ h => Reps.turn T _ _ h), fun h' => h.2 (hG _ h')⟩
 | loop τ n ps as bd st pd =>
  obtain ⟨⟨L, h1, h2, h3, h4, h6, h7, h8, h9⟩, h5⟩ := h
  exact ⟨⟨L, (hb _ rfl).trans h1, h2, h3, h4, h6, h7, h8, fun i => Rep.turn T _ _ (h9 i)⟩, fun h' => h5 (hG _ h')⟩
 | spare T' sz =>
  obtain ⟨n, xs, h1, ho, h2⟩ := h
  refine ⟨n, xs, ⟨h1.1, h1.2.imp id ?_⟩, ho, fun b hb' => ⟨(h2 b hb').1, fun h => (h2 b hb').2 (hG _ h)⟩⟩
  rintro ⟨g, cap, cur, hv, r0, hg, r⟩
  exact ⟨g, cap, cur, hv, r0, (hb g (by simp [obk, hv, Value.ownBlock])).trans hg, r⟩
 | dead => trivial
theorem ORel.hands1 {G' : Gd} (hG : ∀ b, G.i b ↔ G'.i b) {k : Nat} {x : AObj} (h : ORel E A G w k x) : ORel E A G' w k x := h.turn (.hands fun b => (hG b).1) (fun b => (hG b).2) fun _ _ => rfl
theorem Wf.hands1 {h : List AObj} (hW : Wf GL E A G h w) (H : Nat -> Prop) (hH : ∀ b, H b -> b < w.heap.size /\ ∀ k x, h[k]? = some x -> obk E k x ≠ some b) : Wf GL E A ⟨G.i, H⟩ h w :=
 ⟨fun n l hl => GlR.hands (G := G) (G' := ⟨G.i, H⟩) (fun _ h => h) (hW.gl n l hl), hW.n, hW.a, hW.g, fun k x hx => ORel.hands1 (G := G) (G' := ⟨G.i, H⟩) (fun _ => Iff.rfl) (hW.o k x hx), hW.d, fun b hb => (hH b hb).1, fun k x b hx hk hb => (hH b hb).2 k x hx hk⟩
def HOff (h : List AObj) (w : World) (E : Env) (A : Nat -> Nat -> Prop) (G : Gd) (b : Nat) : Prop :=
 b < w.heap.size /\ (∀ o, ¬ A b o) /\ ¬ G.i b /\ ¬ G.h b /\ ∀ k x, h[k]? = some x -> obk E k x ≠ some b
end
section
variable {P : Program} {GL : Glob} {E : Env} {A : Nat -> Nat -> Prop} {G : Gd} {h : List AObj} {w : World} {τ : List (Nat × AV)} {a : Act} {B : Base}
theorem ent_off (D : Nat -> Prop) (hD : ∀ b, D b -> HOff h w E A G b) {r : Option Nat} {n : Nat} {ops : Array Oper} {o : Oper} {g : Option (Nat × Bool)} {ao : AOp} {K : List (Nat × AV) -> List AObj -> Prop} {Pn : AV -> List AObj -> Prop} {next : Act -> World -> Prop} {Q : Exit -> Act -> World -> Prop}
  (hd : dstOk B.N o.dst = true) (hg : compGuard ops o.guard = some g) (hc : CompOk P o ao ∨ ao = .bad) (hR : Rel GL B τ h a w E A G)
  (hs : match g with
   | none => opA GL (AC P GL) ao τ h (fun x h' => K (aput τ o.dst x) h') Pn
   | some (j, b) => match gdW (tget τ j) b with
    | some t => condP t (opA GL (AC P GL) ao τ h (fun x h' => K (aput τ o.dst x) h') Pn) (K (aput τ o.dst (.v undef)) h)
    | none => False)
  (hP : POk GL B Pn Q) (hnext : ∀ τ' h' a' w' E' A' G', Rel GL B τ' h' a' w' E' A' G' -> K τ' h' -> (∀ b, D b -> w'.heap[b]? = w.heap[b]? /\ HOff h' w' E' A' G' b) -> (∀ t, o.dst ≠ some t -> a'.tmps.getD t undef = a.tmps.getD t undef) -> next a' w') :
  if Region.wanted o (yielded ops a.tmps) = true then o.wpIn (FW r) n P a w next Q else (∀ f, o.about P w a.eval = some f -> (FW r).fn f) /\ next (a.put o.dst undef) w := by
 let G1 : Gd := ⟨G.i, fun b => G.h b ∨ D b⟩
 have hW1 : Wf GL E A G1 h w := hR.wf.hands1 (fun b => G.h b ∨ D b) fun b hb => by
  rcases hb with hb | hb
  ·exact ⟨hR.wf.hf b hb, fun k x hx hk => hR.wf.ho k x b hx hk hb⟩
  ·exact ⟨(hD b hb).1, (hD b hb).2.2.2.2⟩
 have hρ : Opds GL E A G1 w τ a.eval := opds_of hW1 fun i => Rep.hands1 (G := G) (G' := G1) (fun _ h => h) _ _ (hR.tmps i)
 -- back to the set as it was
 have back : ∀ {w' : World} {E' : Env} {A' : Nat -> Nat -> Prop} {G' : Gd} {h' : List AObj}, E.le E' -> Ext A G1 w A' G' w' -> Wf GL E' A' G' h' w' ->
   Wf GL E' A' ⟨G'.i, G.h⟩ h' w' /\ Ext A G w A' ⟨G'.i, G.h⟩ w' /\ (∀ x v, Rep E' A' G' w' x v -> Rep E' A' ⟨G'.i, G.h⟩ w' x v) /\ ∀ b, D b -> w'.heap[b]? = w.heap[b]? /\ HOff h' w' E' A' ⟨G'.i, G.h⟩ b := by
  intro w' E' A' G' h' hE hX hW'
  refine ⟨hW'.hands1 G.h fun b hb => ?_, ⟨hX.a, hX.g, hX.cell, hX.block, hX.size, hX.os, hX.output, hX.tape, fun _ => Iff.rfl, fun b hb => hX.off b (.inl hb)⟩, fun x v h => Rep.hands1 (G := G') (G' := ⟨G'.i, G.h⟩) (fun _ h => h) _ _ h, fun b hb => ?_⟩
  ·have := (hX.hh b).2 (.inl hb)
   exact ⟨hW'.hf b this, fun k x hx hk => hW'.ho k x b hx hk this⟩
  ·obtain ⟨d1, d2, d3, d4, d5⟩ := hD b hb
   have hb1 : G1.h b := .inr hb
   obtain ⟨o1, o2, o3⟩ := hX.off b hb1
   have hb' := (hX.hh b).2 hb1
   exact ⟨o1, Nat.lt_of_lt_of_le d1 hX.size, fun o ho => d2 o (o2 o ho), fun hi => d3 (o3 hi), d4, fun k x hx hk => hW'.ho k x b hx hk hb'⟩
 have put : ∀ t v, o.dst ≠ some t -> (a.put o.dst v).tmps.getD t undef = a.tmps.getD t undef := by
  intro t v ht
  by_cases hN : o.dst = none
  ·rw [hN]; rfl
  ·obtain ⟨d, hdd⟩ := Option.ne_none_iff_exists'.1 hN
   rw [hdd, fR (fun k hk => by
    cases hk
    rw [hdd] at hd
    simp only [dstOk, Bool.and_eq_true] at hd
    exact Nat.lt_of_lt_of_le (Nat.le_of_ble_eq_true hd.1) hR.size), if_neg (fun e => ht (by rw [hdd]; exact e))]
 have run : opA GL (AC P GL) ao τ h (fun x h' => K (aput τ o.dst x) h') Pn -> o.wpIn (FW r) n P a w next Q := fun hs =>
  op_in hc hW1 hρ hs (fun v w' E' A' G' x h' h1 h2 h3 h4 hk => by
    obtain ⟨b1, b2, b3, b4⟩ := back h1 h2 h3
    exact hnext _ _ _ _ _ _ _ (hR.put h1 b2 b1 (b3 _ _ h4) hd) hk b4 fun t ht => put t v ht)
   (fun p w' E' A' G' x h' h1 h2 h3 h4 h5 h6 hp => by
    obtain ⟨b1, b2, b3, b4⟩ := back h1 h2 h3
    exact hP.pan x h' p a w' E' A' _ (hR.toRelM.step h1 b2 b1) (hR.dfs.mono b2) hR.stab (b3 _ _ h4) h5 h6 hp)
 cases g with
 | none =>
  rw [if_pos (jI hg _)]
  exact run hs
 | some g =>
  obtain ⟨j, b⟩ := g
  simp only at hs
  split at hs
  ·rename_i c hc'
   rw [oS hg (hR.tmps j) hc']
   split
   ·rename_i he; exact run (hs.1 he)
   ·rename_i he
    exact ⟨fun _ _ => trivial, hnext _ _ _ _ _ _ _ (hR.put E.le_refl (Ext.refl _ _ _) hR.wf (x := .v undef) (by simp [Rep]) hd) (hs.2 (by simpa using he)) (fun b hb => ⟨rfl, hD b hb⟩) fun t ht => put t _ ht⟩
  ·exact hs.elim
theorem qP {o : Oper} {T : TypeId} {zs : List AV} (hc : compOp P o = some (.alloc T zs)) : o.op = .alloc T /\ ∃ z, tyZero P T = some z /\ zs = z.cells := by
 cases ho : o.op
 case alloc T' =>
  simp only [compOp, ho] at hc
  split at hc
  ·rename_i z hz
   simp only [Option.some.injEq, AOp.alloc.injEq] at hc
   obtain ⟨rfl, rfl⟩ := hc
   exact ⟨rfl, z, hz, rfl⟩
  ·cases hc
 case makeFunc fn a b => cases fn <;> simp [compOp, ho] at hc
 case makeMap t r => cases r <;> simp [compOp, ho] at hc
 case next it b => cases b <;> simp [compOp, ho] at hc
 case call c =>
  obtain ⟨callee, args, ats⟩ := c
  cases callee with
  | value f => cases f <;> simp [compOp, ho] at hc
  | invoke r n => simp [compOp, ho] at hc
  | builtin b =>
   simp only [compOp, ho] at hc
   repeat' split at hc
   all_goals cases hc
 all_goals (simp only [compOp, ho] at hc; try (first | cases hc | skip))
 all_goals (repeat' split at hc)
 all_goals (first | cases hc | skip)
theorem alloc_in {r : Option Nat} {n : Nat} {ops : Array Oper} {o : Oper} {T : TypeId} {zs : List AV} {next : Act -> World -> Prop} {Q : Exit -> Act -> World -> Prop}
  (hd : dstOk B.N o.dst = true) (hg : compGuard ops o.guard = some none) (hc : CompOk P o (.alloc T zs)) (hR : Rel GL B τ h a w E A G)
  (hnext : ∀ cs : Array Value, Rel GL B (aput τ o.dst .any) h (a.put o.dst (.pointer (some ⟨w.heap.size, 0, none⟩))) (w.alloc (.cells cs T)) E A G -> (∀ u ∈ cs.toList, u.oneCell' = true) -> (∀ E A G w, Reps E A G w zs cs.toList) ->
   Ext A G w A G (w.alloc (.cells cs T)) -> next (a.put o.dst (.pointer (some ⟨w.heap.size, 0, none⟩))) (w.alloc (.cells cs T))) :
  if Region.wanted o (yielded ops a.tmps) = true then o.wpIn (FW r) n P a w next Q else (∀ f, o.about P w a.eval = some f -> (FW r).fn f) /\ next (a.put o.dst undef) w := by
 rw [if_pos (jI hg _)]
 have hc' : compOp P o = some (.alloc T zs) := by
  obtain ⟨b, hb, h | h⟩ := hc
  ·rw [h]; exact hb
  ·have : b = .alloc T zs := by cases b <;> simp [frz] at h ⊢ <;> simp_all
   rw [<- this]; exact hb
 obtain ⟨hop, z, hz, rfl⟩ := qP hc'
 obtain ⟨i, zv, h1, h2, _, h4, h5⟩ := bL hz
 have hX : Ext A G w A G (w.alloc (.cells zv.cells T)) := aV hR.wf (World.grownBy_alloc w _ none) (fun _ _ h => h) (fun _ e => by cases e) (fun _ _ => .inl)
 have hW' : Wf GL E A G h (w.alloc (.cells zv.cells T)) := by
  refine hR.wf.step E.le_refl hX hR.wf.n (fun b o ho => ?_) (fun b hb => Nat.lt_of_lt_of_le (hR.wf.g b hb) hX.size) (fun _ => False) (fun k x hx _ => ⟨hx, fun b hb => ⟨?_, fun _ h => h, id⟩⟩) (fun _ _ _ hf => hf.elim) (fun _ _ _ _ _ _ _ hf => hf.elim) (fun _ _ _ _ hf => hf.elim)
  ·obtain ⟨v, hv⟩ := hR.wf.a b o ho
   exact ⟨v, (hX.cell b o ho).trans hv⟩
  ·exact heap_alloc_old w _ b (cJ (hR.wf.o k x hx) hb)
 refine ⟨fun _ _ => trivial, ?_⟩
 rw [show (FW r).round = r from rfl, Oper.semAt_eq _ _ _ (fun c e => by rw [hop] at e; cases e)]
 have hrun : (execOp a.eval o).run P w = .ok (.value (.pointer (some ⟨w.heap.size, 0, none⟩))) (w.alloc (.cells zv.cells T)) := by
  simp [execOp, hop, Instr.alloc, zeroValue, typeInfo, h1, h2, newVar, newRow]
 rw [hrun]
 exact hnext zv.cells (hR.put E.le_refl hX hW' (x := .any) (by simp [Rep]) hd) h4 (fun E A G w => (h5 E A G w).2) hX
end
end Go.Rip
