/- The abstract machine's values, and what it is that a concrete value in a world stands for one. -/
import Derived.CallsIn
import Derived.Laws.World
import Derived.Laws.Sem
import Derived.Laws.AppendOwn
import Derived.Laws.AppendOwnNone
import Derived.Laws.MakeOwn
import Derived.Laws.Strings
import Derived.IntWalk
namespace Go.Rip
open Go
inductive AV where
 | any
 | v (x : Value)
 | str (l : List UInt8)
 | agg (l : List AV)
 | tup (l : List AV)
 | sl (sz : Nat) (l : List AV)
 | own (k : Nat) (sz : Nat) (l : List AV)
 | pel (l : List AV)
 | ref (k off : Nat)
 | eref (k i off : Nat)
 | vec (k sz m : Nat)
 | view (k sz a m : Nat)
 | mp (k : Nat)
 | imp (ks vs : List AV)
 | fn (f : Fn) (first cap : List AV)
 | yld (k : Nat)
 | iface (t : TypeId) (x : AV)
 deriving Inhabited
inductive AObj where
 | cells (T : TypeId) (l : List AV)
 | buf (T : TypeId) (sz : Nat) (l : List AV)
 | map (ks vs : List AV)
 | siter (s : ByteArray) (pos : Nat)
 | miter (ks vs last : List AV)
 | spare (T : TypeId) (sz : Nat)
 | loop (τ : List (Nat × AV)) (n : Nat) (ps : List Nat) (as bd : Code) (st : LoopState) (pd : Option Code)
 | dead
 deriving Inhabited
def tget : List (Nat × AV) -> Nat -> AV
 | [], _ => .any
 | (j, x) :: r, i => match Nat.beq i j with
  | true => x
  | false => tget r i
structure Env where
 n : Nat
 blk : Nat -> Nat
 cap : Nat -> Nat
 tok : Nat -> Value
 wid : Nat -> Nat
def Env.le (E E' : Env) : Prop := E.n <= E'.n /\ ∀ k, k < E.n -> E'.blk k = E.blk k /\ E'.cap k = E.cap k /\ E'.tok k = E.tok k /\ E'.wid k = E.wid k
theorem Env.le_refl (E : Env) : E.le E := ⟨Nat.le_refl _, fun _ _ => ⟨rfl, rfl, rfl, rfl⟩⟩
theorem Env.le_trans {E E' E'' : Env} (h : E.le E') (h' : E'.le E'') : E.le E'' :=
 ⟨Nat.le_trans h.1 h'.1, fun k hk => by
  obtain ⟨a, b, c, d⟩ := h.2 k hk
  obtain ⟨a', b', c', d'⟩ := h'.2 k (Nat.lt_of_lt_of_le hk h.1)
  exact ⟨a'.trans a, b'.trans b, c'.trans c, d'.trans d⟩⟩
structure Gd where
 i : Nat -> Prop
 h : Nat -> Prop
def AV.cells : AV -> List AV
 | .agg l => l
 | x => [x]
section
variable (E : Env) (A : Nat -> Nat -> Prop) (G : Gd) (w : World)
mutual
def Rep : AV -> Value -> Prop
 | .any, _ => True
 | .v x, v => v = x
 | .str l, v => v = .string ⟨l.toArray⟩
 | .agg l, v => ∃ cs : Array Value, v = .agg cs /\ (∀ u ∈ cs.toList, u.oneCell' = true) /\ Reps l cs.toList
 | .tup l, v => ∃ cs : Array Value, v = .tuple cs /\ Reps l cs.toList
 | .sl sz l, v => ∃ p n c, v = .slice p n c /\ n = l.length /\ n <= c /\ n <= 2 ^ 50 /\ (l = [] ∨ ∃ b o, p = some ⟨b, o, none⟩ /\ RepL sz b o l)
 | .own k sz l, v => k < E.n /\ v = E.tok k /\ ∃ p n c, v = .slice p n c /\ n = l.length /\ n <= c /\ n <= 2 ^ 50 /\ (l = [] ∨ ∃ b o, p = some ⟨b, o, none⟩ /\ RepL sz b o l)
 | .pel l, v => ∃ b o, v = .pointer (some ⟨b, o, none⟩) /\ RepC b o l
 | .ref k off, v => k < E.n /\ v = .pointer (some ⟨E.blk k, off, none⟩)
 | .eref k i off, v => k < E.n /\ v = .pointer (some ⟨E.blk k, i * E.wid k + off, none⟩)
 | .vec k sz m, v => k < E.n /\ E.wid k = sz /\ v = .slice (some ⟨E.blk k, 0, none⟩) m (E.cap k) /\ m <= E.cap k /\ m <= 2 ^ 50 /\ E.cap k <= maxLen
 | .view k sz a m, v => k < E.n /\ E.wid k = sz /\ v = .slice (some ⟨E.blk k, a * sz, none⟩) m (E.cap k - a) /\ a + m <= E.cap k /\ m <= 2 ^ 50 /\ E.cap k <= maxLen
 | .mp k, v => k < E.n /\ v = .map (some (E.blk k))
 | .imp ks vs, v => ∃ b es cl, v = .map (some b) /\ G.i b /\ w.heap[b]? = some (.map es cl) /\ Reps ks (es.toList.map (·.key)) /\ Reps vs (es.toList.map (·.val))
 | .fn f first cap, v => ∃ a b : Array Value, v = .func f a b /\ Reps first a.toList /\ Reps cap b.toList
 | .yld k, v => k < E.n /\ v = .func (.yield (E.blk k)) #[] #[]
 | .iface t x, v => ∃ u, v = .iface t u /\ Rep x u
def Reps : List AV -> List Value -> Prop
 | [], vs => vs = []
 | x :: xs, vs => ∃ u us, vs = u :: us /\ Rep x u /\ Reps xs us
def RepC : Nat -> Nat -> List AV -> Prop
 | _, _, [] => True
 | b, o, x :: xs => (∃ u, w.cell? ⟨b, o, none⟩ = some u /\ A b o /\ u.oneCell' = true /\ Rep x u) /\ RepC b (o + 1) xs
def RepL (sz : Nat) : Nat -> Nat -> List AV -> Prop
 | _, _, [] => True
 | b, o, .agg cs :: xs => cs.length = sz /\ RepC b o cs /\ RepL sz b (o + sz) xs
 | b, o, x :: xs => sz = 1 /\ (∃ u, w.cell? ⟨b, o, none⟩ = some u /\ A b o /\ u.oneCell' = true /\ Rep x u) /\ RepL sz b (o + sz) xs
end
end
structure Ext (A : Nat -> Nat -> Prop) (G : Gd) (w : World) (A' : Nat -> Nat -> Prop) (G' : Gd) (w' : World) : Prop where
 a : ∀ b o, A b o -> A' b o
 g : ∀ b, G.i b -> G'.i b
 cell : ∀ b o, A b o -> w'.cell? ⟨b, o, none⟩ = w.cell? ⟨b, o, none⟩
 block : ∀ b, G.i b -> w'.heap[b]? = w.heap[b]?
 size : w.heap.size <= w'.heap.size
 os : w'.os = w.os
 output : w'.output = w.output
 tape : w'.tape = w.tape
 hh : ∀ b, G'.h b ↔ G.h b
 off : ∀ b, G.h b -> w'.heap[b]? = w.heap[b]? /\ (∀ o, A' b o -> A b o) /\ (G'.i b -> G.i b)
theorem Ext.refl (A : Nat -> Nat -> Prop) (G : Gd) (w : World) : Ext A G w A G w :=
 ⟨fun _ _ h => h, fun _ h => h, fun _ _ _ => rfl, fun _ _ => rfl, Nat.le_refl _, rfl, rfl, rfl, fun _ => Iff.rfl, fun _ _ => ⟨rfl, fun _ h => h, id⟩⟩
theorem Ext.trans {A A' A'' : Nat -> Nat -> Prop} {G G' G'' : Gd} {w w' w'' : World} (h : Ext A G w A' G' w') (k : Ext A' G' w' A'' G'' w'') :
    Ext A G w A'' G'' w'' :=
  ⟨fun b o x => k.a b o (h.a b o x), fun b x => k.g b (h.g b x), fun b o x => (k.cell b o (h.a b o x)).trans (h.cell b o x),
   fun b x => (k.block b (h.g b x)).trans (h.block b x), Nat.le_trans h.size k.size, k.os.trans h.os, k.output.trans h.output, k.tape.trans h.tape,
   fun b => (k.hh b).trans (h.hh b), fun b x => by
    obtain ⟨a1, a2, a3⟩ := h.off b x
    obtain ⟨b1, b2, b3⟩ := k.off b ((h.hh b).2 x)
    exact ⟨b1.trans a1, fun o ho => a2 o (b2 o ho), fun hg => a3 (b3 hg)⟩⟩
section mono
variable {E E' : Env} {A A' : Nat -> Nat -> Prop} {G G' : Gd} {w w' : World}
mutual
theorem Rep.mono (hE : E.le E') (hX : Ext A G w A' G' w') : ∀ (x : AV) (v : Value), Rep E A G w x v -> Rep E' A' G' w' x v
 | .any, _, _ => by simp [Rep]
 | .v x, _, h => by simpa [Rep] using h
 | .str l, _, h => by simpa [Rep] using h
 | .agg l, _, h => by
  simp only [Rep] at h ⊢
  obtain ⟨cs, rfl, ho, h⟩ := h
  exact ⟨cs, rfl, ho, Reps.mono hE hX l _ h⟩
 | .tup l, _, h => by
  simp only [Rep] at h ⊢
  obtain ⟨cs, rfl, h⟩ := h
  exact ⟨cs, rfl, Reps.mono hE hX l _ h⟩
 | .sl sz l, _, h => by
  simp only [Rep] at h ⊢
  obtain ⟨p, n, c, rfl, h1, h2, h3, h⟩ := h
  refine ⟨p, n, c, rfl, h1, h2, h3, ?_⟩
  rcases h with h | ⟨b, o, hp, h⟩
  ·exact .inl h
  ·exact .inr ⟨b, o, hp, RepL.mono hE hX sz l b o h⟩
 | .own k sz l, _, h => by
  simp only [Rep] at h ⊢
  obtain ⟨hk, hv, p, n, c, rfl, h1, h2, h3, h⟩ := h
  refine ⟨Nat.lt_of_lt_of_le hk hE.1, hv.trans (hE.2 k hk).2.2.1.symm, p, n, c, rfl, h1, h2, h3, ?_⟩
  rcases h with h | ⟨b, o, hp, h⟩
  ·exact .inl h
  ·exact .inr ⟨b, o, hp, RepL.mono hE hX sz l b o h⟩
 | .pel l, _, h => by
  simp only [Rep] at h ⊢
  obtain ⟨b, o, rfl, h⟩ := h
  exact ⟨b, o, rfl, RepC.mono hE hX l b o h⟩
 | .ref k off, _, h => by
  simp only [Rep] at h ⊢
  obtain ⟨hk, rfl⟩ := h
  exact ⟨Nat.lt_of_lt_of_le hk hE.1, by rw [(hE.2 k hk).1]⟩
 | .eref k i off, _, h => by
  simp only [Rep] at h ⊢
  obtain ⟨hk, rfl⟩ := h
  exact ⟨Nat.lt_of_lt_of_le hk hE.1, by rw [(hE.2 k hk).1, (hE.2 k hk).2.2.2]⟩
 | .vec k sz m, _, h => by
  simp only [Rep] at h ⊢
  obtain ⟨hk, h1, rfl, h2, h3⟩ := h
  exact ⟨Nat.lt_of_lt_of_le hk hE.1, by rw [(hE.2 k hk).2.2.2, h1], by rw [(hE.2 k hk).1, (hE.2 k hk).2.1], by rw [(hE.2 k hk).2.1]; exact h2, h3.1, by rw [(hE.2 k hk).2.1]; exact h3.2⟩
 | .view k sz a m, _, h => by
  simp only [Rep] at h ⊢
  obtain ⟨hk, h1, rfl, h2, h3⟩ := h
  exact ⟨Nat.lt_of_lt_of_le hk hE.1, by rw [(hE.2 k hk).2.2.2, h1], by rw [(hE.2 k hk).1, (hE.2 k hk).2.1], by rw [(hE.2 k hk).2.1]; exact h2, h3.1, by rw [(hE.2 k hk).2.1]; exact h3.2⟩
 | .mp k, _, h => by
  simp only [Rep] at h ⊢
  obtain ⟨hk, rfl⟩ := h
  exact ⟨Nat.lt_of_lt_of_le hk hE.1, by rw [(hE.2 k hk).1]⟩
 | .imp ks vs, _, h => by
  simp only [Rep] at h ⊢
  obtain ⟨b, es, cl, rfl, hg, hb, h1, h2⟩ := h
  exact ⟨b, es, cl, rfl, hX.g b hg, (hX.block b hg).trans hb, Reps.mono hE hX ks _ h1, Reps.mono hE hX vs _ h2⟩
 | .fn f first cap, _, h => by
  simp only [Rep] at h ⊢
  obtain ⟨a, b, rfl, h1, h2⟩ := h
  exact ⟨a, b, rfl, Reps.mono hE hX first _ h1, Reps.mono hE hX cap _ h2⟩
 | .yld k, _, h => by
  simp only [Rep] at h ⊢
  obtain ⟨hk, rfl⟩ := h
  exact ⟨Nat.lt_of_lt_of_le hk hE.1, by rw [(hE.2 k hk).1]⟩
 | .iface t x, _, h => by
  simp only [Rep] at h ⊢
  obtain ⟨u, rfl, h⟩ := h
  exact ⟨u, rfl, Rep.mono hE hX x u h⟩
theorem Reps.mono (hE : E.le E') (hX : Ext A G w A' G' w') : ∀ (l : List AV) (vs : List Value), Reps E A G w l vs -> Reps E' A' G' w' l vs
 | [], _, h => by simpa [Reps] using h
 | x :: xs, _, h => by
  simp only [Reps] at h ⊢
  obtain ⟨u, us, rfl, h1, h2⟩ := h
  exact ⟨u, us, rfl, Rep.mono hE hX x u h1, Reps.mono hE hX xs us h2⟩
theorem RepC.mono (hE : E.le E') (hX : Ext A G w A' G' w') : ∀ (l : List AV) (b o : Nat), RepC E A G w b o l -> RepC E' A' G' w' b o l
 | [], _, _, _ => by simp [RepC]
 | x :: xs, b, o, h => by
  simp only [RepC] at h ⊢
  obtain ⟨⟨u, hc, ha, ho, h1⟩, h2⟩ := h
  exact ⟨⟨u, (hX.cell b o ha).trans hc, hX.a b o ha, ho, Rep.mono hE hX x u h1⟩, RepC.mono hE hX xs b (o + 1) h2⟩
theorem RepL.mono (hE : E.le E') (hX : Ext A G w A' G' w') (sz : Nat) : ∀ (l : List AV) (b o : Nat), RepL E A G w sz b o l -> RepL E' A' G' w' sz b o l
 | [], _, _, _ => by simp [RepL]
 | .agg cs :: xs, b, o, h => by
  simp only [RepL] at h ⊢
  exact ⟨h.1, RepC.mono hE hX cs b o h.2.1, RepL.mono hE hX sz xs b (o + sz) h.2.2⟩
 | .any :: xs, b, o, h | .v _ :: xs, b, o, h | .str _ :: xs, b, o, h | .tup _ :: xs, b, o, h | .sl _ _ :: xs, b, o, h | .own _ _ _ :: xs, b, o, h | .pel _ :: xs, b, o, h
 | .ref _ _ :: xs, b, o, h | .eref _ _ _ :: xs, b, o, h | .vec _ _ _ :: xs, b, o, h | .view _ _ _ _ :: xs, b, o, h | .mp _ :: xs, b, o, h | .imp _ _ :: xs, b, o, h | .fn _ _ _ :: xs, b, o, h
 | .yld _ :: xs, b, o, h | .iface _ _ :: xs, b, o, h => by
  simp only [RepL] at h ⊢
  obtain ⟨h0, ⟨u, hc, ha, ho, h1⟩, h2⟩ := h
  exact ⟨h0, ⟨u, (hX.cell b o ha).trans hc, hX.a b o ha, ho, Rep.mono hE hX _ u h1⟩, RepL.mono hE hX sz xs b (o + sz) h2⟩
end
end mono
section lists
variable {E : Env} {A : Nat -> Nat -> Prop} {G : Gd} {w : World}
theorem Reps.length : ∀ {l : List AV} {vs : List Value}, Reps E A G w l vs -> vs.length = l.length
 | [], _, h => by simp only [Reps] at h; simp [h]
 | x :: xs, _, h => by
  simp only [Reps] at h
  obtain ⟨u, us, rfl, _, h⟩ := h
  simp [Reps.length h]
theorem Reps.get : ∀ {l : List AV} {vs : List Value}, Reps E A G w l vs -> ∀ {i : Nat} {x : AV}, l[i]? = some x -> ∃ u, vs[i]? = some u /\ Rep E A G w x u
 | [], _, _, i, x, hx => by simp at hx
 | y :: ys, _, h, i, x, hx => by
  simp only [Reps] at h
  obtain ⟨u, us, rfl, h1, h2⟩ := h
  cases i with
  | zero => simp at hx; subst hx; exact ⟨u, by simp, h1⟩
  | succ i => simp at hx; obtain ⟨z, hz, hr⟩ := Reps.get h2 hx; exact ⟨z, by simpa using hz, hr⟩
theorem Reps.of_get : ∀ {l : List AV} {vs : List Value}, vs.length = l.length -> (∀ (i : Nat) (x : AV) (u : Value), l[i]? = some x -> vs[i]? = some u -> Rep E A G w x u) -> Reps E A G w l vs
 | [], vs, h, _ => by simp only [Reps]; simpa using h
 | x :: xs, [], h, _ => by simp at h
 | x :: xs, u :: us, h, hr => by
  simp only [Reps]
  exact ⟨u, us, rfl, hr 0 x u (by simp) (by simp), Reps.of_get (by simpa using h) fun i y z hy hz => hr (i + 1) y z (by simpa using hy) (by simpa using hz)⟩
theorem Reps.append {l l' : List AV} {vs vs' : List Value} (h : Reps E A G w l vs) (h' : Reps E A G w l' vs') : Reps E A G w (l ++ l') (vs ++ vs') := by
 induction l generalizing vs with
 | nil => simp only [Reps] at h; subst h; simpa using h'
 | cons x xs ih =>
  simp only [Reps] at h
  obtain ⟨u, us, rfl, h1, h2⟩ := h
  simp only [List.cons_append, Reps]
  exact ⟨u, us ++ vs', rfl, h1, ih h2⟩
theorem Reps.take {l : List AV} {vs : List Value} (h : Reps E A G w l vs) (i : Nat) : Reps E A G w (l.take i) (vs.take i) := by
 refine Reps.of_get (by simp [h.length]) fun j x u hx hu => ?_
 rw [List.getElem?_take] at hx hu
 split at hx
 ·rename_i hj
  rw [if_pos hj] at hu
  obtain ⟨u', hu', hr⟩ := h.get hx
  rw [hu'] at hu; cases hu; exact hr
 ·cases hx
theorem Reps.drop {l : List AV} {vs : List Value} (h : Reps E A G w l vs) (i : Nat) : Reps E A G w (l.drop i) (vs.drop i) := by
 refine Reps.of_get (by simp [h.length]) fun j x u hx hu => ?_
 rw [List.getElem?_drop] at hx hu
 obtain ⟨u', hu', hr⟩ := h.get hx
 rw [hu'] at hu; cases hu; exact hr
theorem Reps.one {x : AV} {u : Value} (h : Rep E A G w x u) : Reps E A G w [x] [u] := by
 simp only [Reps]; exact ⟨u, [], rfl, h, rfl⟩
theorem Reps.nil : Reps E A G w [] [] := by simp only [Reps]
def AV.solid : AV -> Bool
 | .any | .tup _ => false
 | .v (.agg _) | .v (.tuple _) => false
 | _ => true
theorem Rep.cells {x : AV} {u : Value} (hx : x.solid = true) (h : Rep E A G w x u) : Reps E A G w x.cells u.cells.toList := by
 cases x with
 | any => cases hx
 | tup l => cases hx
 | agg l =>
  simp only [Rep] at h
  obtain ⟨cs, rfl, _, h⟩ := h
  exact h
 | v y =>
  simp only [Rep] at h
  subst h
  cases u <;> first | exact Reps.one (by simp [Rep]) | cases hx
 | str l => have h' := h; simp only [Rep] at h; subst h; exact Reps.one h'
 | sl sz l => have h' := h; simp only [Rep] at h; obtain ⟨p, n, c, rfl, _⟩ := h; exact Reps.one h'
 | own k sz l => have h' := h; simp only [Rep] at h; obtain ⟨_, _, p, n, c, rfl, _⟩ := h; exact Reps.one h'
 | pel l => have h' := h; simp only [Rep] at h; obtain ⟨p, n, rfl, _⟩ := h; exact Reps.one h'
 | ref k o => have h' := h; simp only [Rep] at h; obtain ⟨_, rfl⟩ := h; exact Reps.one h'
 | eref k i o => have h' := h; simp only [Rep] at h; obtain ⟨_, rfl⟩ := h; exact Reps.one h'
 | vec k sz m => have h' := h; simp only [Rep] at h; obtain ⟨_, _, rfl, _⟩ := h; exact Reps.one h'
 | view k sz a m => have h' := h; simp only [Rep] at h; obtain ⟨_, _, rfl, _⟩ := h; exact Reps.one h'
 | mp k => have h' := h; simp only [Rep] at h; obtain ⟨_, rfl⟩ := h; exact Reps.one h'
 | imp ks vs => have h' := h; simp only [Rep] at h; obtain ⟨_, _, _, rfl, _⟩ := h; exact Reps.one h'
 | fn f a b => have h' := h; simp only [Rep] at h; obtain ⟨_, _, rfl, _⟩ := h; exact Reps.one h'
 | yld k => have h' := h; simp only [Rep] at h; obtain ⟨_, rfl⟩ := h; exact Reps.one h'
 | iface t x => have h' := h; simp only [Rep] at h; obtain ⟨_, rfl, _⟩ := h; exact Reps.one h'
theorem Rep.one {x : AV} {u : Value} (hx : x.solid = true) (h : Rep E A G w x u) : ∀ c ∈ u.cells.toList, c.oneCell' = true := by
 have key : ∀ u : Value, u.oneCell' = true -> ∀ c ∈ u.cells.toList, c.oneCell' = true := fun u hu c hc => by
  cases u <;> simp [Value.cells] at hc <;> first | (subst hc; exact hu) | cases hu
 cases x with
 | any => cases hx
 | tup l => cases hx
 | agg l => simp only [Rep] at h; obtain ⟨cs, rfl, h, _⟩ := h; exact h
 | v y => simp only [Rep] at h; subst h; cases u <;> first | exact key _ rfl | cases hx
 | str l => simp only [Rep] at h; subst h; exact key _ rfl
 | sl sz l => simp only [Rep] at h; obtain ⟨p, n, c, rfl, _⟩ := h; exact key _ rfl
 | own k sz l => simp only [Rep] at h; obtain ⟨_, _, p, n, c, rfl, _⟩ := h; exact key _ rfl
 | pel l => simp only [Rep] at h; obtain ⟨p, n, rfl, _⟩ := h; exact key _ rfl
 | ref k o => simp only [Rep] at h; obtain ⟨_, rfl⟩ := h; exact key _ rfl
 | eref k i o => simp only [Rep] at h; obtain ⟨_, rfl⟩ := h; exact key _ rfl
 | vec k sz m => simp only [Rep] at h; obtain ⟨_, _, rfl, _⟩ := h; exact key _ rfl
 | view k sz a m => simp only [Rep] at h; obtain ⟨_, _, rfl, _⟩ := h; exact key _ rfl
 | mp k => simp only [Rep] at h; obtain ⟨_, rfl⟩ := h; exact key _ rfl
 | imp ks vs => simp only [Rep] at h; obtain ⟨_, _, _, rfl, _⟩ := h; exact key _ rfl
 | fn f a b => simp only [Rep] at h; obtain ⟨_, _, rfl, _⟩ := h; exact key _ rfl
 | yld k => simp only [Rep] at h; obtain ⟨_, rfl⟩ := h; exact key _ rfl
 | iface t x => simp only [Rep] at h; obtain ⟨_, rfl, _⟩ := h; exact key _ rfl
theorem cG {sz b o : Nat} {x : AV} {xs : List AV} :
  RepL E A G w sz b o (x :: xs) ↔ x.cells.length = sz /\ RepC E A G w b o x.cells /\ RepL E A G w sz b (o + sz) xs := by
 cases x <;> simp only [RepL, AV.cells, RepC, List.length_cons, List.length_nil, and_true, Nat.zero_add] <;> (constructor <;> (rintro ⟨h, r⟩; exact ⟨h.symm, r⟩))
theorem RepL.get {sz b : Nat} : ∀ {l : List AV} {o : Nat}, RepL E A G w sz b o l -> ∀ {i : Nat} {x : AV}, l[i]? = some x ->
  x.cells.length = sz /\ RepC E A G w b (o + i * sz) x.cells
 | [], _, _, i, x, hx => by simp at hx
 | y :: ys, o, h, i, x, hx => by
  rw [cG] at h
  cases i with
  | zero => simp at hx; subst hx; simpa using ⟨h.1, h.2.1⟩
  | succ i =>
   simp at hx
   have := RepL.get h.2.2 hx
   rw [show o + (i + 1) * sz = o + sz + i * sz by rw [Nat.add_mul, Nat.one_mul]; omega]
   exact this
theorem RepL.of_get {sz b : Nat} : ∀ {l : List AV} {o : Nat}, (∀ (i : Nat) (x : AV), l[i]? = some x -> x.cells.length = sz /\ RepC E A G w b (o + i * sz) x.cells) -> RepL E A G w sz b o l
 | [], _, _ => by simp [RepL]
 | y :: ys, o, h => by
  rw [cG]
  have h0 := h 0 y (by simp)
  refine ⟨h0.1, by simpa using h0.2, RepL.of_get fun i x hx => ?_⟩
  have := h (i + 1) x (by simpa using hx)
  rw [show o + (i + 1) * sz = o + sz + i * sz by rw [Nat.add_mul, Nat.one_mul]; omega] at this
  exact this
theorem RepC.get {b : Nat} : ∀ {l : List AV} {o : Nat}, RepC E A G w b o l -> ∀ {i : Nat} {x : AV}, l[i]? = some x ->
  ∃ u, w.cell? ⟨b, o + i, none⟩ = some u /\ A b (o + i) /\ u.oneCell' = true /\ Rep E A G w x u
 | [], _, _, i, x, hx => by simp at hx
 | y :: ys, o, h, i, x, hx => by
  simp only [RepC] at h
  cases i with
  | zero => simp at hx; subst hx; simpa using h.1
  | succ i =>
   simp at hx
   have := RepC.get h.2 hx
   rw [show o + (i + 1) = o + 1 + i by omega]
   exact this
theorem RepC.of_get {b : Nat} : ∀ {l : List AV} {o : Nat}, (∀ (i : Nat) (x : AV), l[i]? = some x -> ∃ u, w.cell? ⟨b, o + i, none⟩ = some u /\ A b (o + i) /\ u.oneCell' = true /\ Rep E A G w x u) -> RepC E A G w b o l
 | [], _, _ => by simp [RepC]
 | y :: ys, o, h => by
  simp only [RepC]
  refine ⟨by simpa using h 0 y (by simp), RepC.of_get fun i x hx => ?_⟩
  have := h (i + 1) x (by simpa using hx)
  rw [show o + (i + 1) = o + 1 + i by omega] at this
  exact this
theorem RepC.drop {b o : Nat} {l : List AV} (h : RepC E A G w b o l) (i : Nat) : RepC E A G w b (o + i) (l.drop i) :=
 RepC.of_get fun j x hx => by
  rw [List.getElem?_drop] at hx
  have := h.get hx
  rw [show o + i + j = o + (i + j) by omega]
  exact this
end lists
def obk (E : Env) (k : Nat) : AObj -> Option Nat
 | .cells .. | .buf .. | .map .. | .siter .. | .miter .. | .loop .. => some (E.blk k)
 | .spare _ _ => (E.tok k).ownBlock
 | .dead => none
def leftOf (es : Array MapEntry) (seen : Array Nat) : Array MapEntry := es.filter fun e => !seen.contains e.born
def MitOk (E : Env) (A : Nat -> Nat -> Prop) (G : Gd) (w : World) (b : Nat) (ks vs last : List AV) : Prop :=
 ∃ bm es cl since seen st, w.heap[b]? = some (.mapIter (some bm) since seen st) /\ G.i bm /\ w.heap[bm]? = some (.map es cl) /\ (∀ e ∈ es.toList, e.born < since) /\ (since <= st /\ since <= cl) /\ (es.toList.map (·.born)).Nodup /\
  Reps E A G w ks ((leftOf es seen).toList.map (·.key)) /\ Reps E A G w vs ((leftOf es seen).toList.map (·.val)) /\ (last = [] ∨ (st = cl /\ ∃ e ∈ es.toList, seen.back? = some e.born /\ Reps E A G w last [e.key, e.val]))
theorem MitOk.imp {E E' : Env} {A A' : Nat -> Nat -> Prop} {G G' : Gd} {w w' : World} {b : Nat} {ks vs last ks' vs' last' : List AV} (h : MitOk E A G w b ks vs last) (hb : w'.heap[b]? = w.heap[b]?)
  (hm : ∀ bm es cl, G.i bm -> w.heap[bm]? = some (.map es cl) -> G'.i bm /\ w'.heap[bm]? = some (.map es cl)) (hk : ∀ us, Reps E A G w ks us -> Reps E' A' G' w' ks' us) (hv : ∀ us, Reps E A G w vs us -> Reps E' A' G' w' vs' us)
  (hn : last = [] -> last' = []) (hl : ∀ us, Reps E A G w last us -> Reps E' A' G' w' last' us) : MitOk E' A' G' w' b ks' vs' last' := by
 obtain ⟨bm, es, cl, since, seen, st, h1, h2, h3, h4, h5, h6, h7, h8, h9⟩ := h
 obtain ⟨g2, g3⟩ := hm bm es cl h2 h3
 exact ⟨bm, es, cl, since, seen, st, hb.trans h1, g2, g3, h4, h5, h6, hk _ h7, hv _ h8, h9.imp hn fun ⟨a, e, b, c, d⟩ => ⟨a, e, b, c, hl _ d⟩⟩
def bornOk (es : Array MapEntry) (cl : Nat) : Prop := (∀ e ∈ es.toList, e.born < cl) /\ es.toList.Pairwise fun a b => a.born ≠ b.born
def ORel (E : Env) (A : Nat -> Nat -> Prop) (G : Gd) (w : World) (k : Nat) : AObj -> Prop
 | .cells T l => ∃ cs : Array Value, w.heap[E.blk k]? = some (.cells cs T (0, 0)) /\ (∀ u ∈ cs.toList, u.oneCell' = true) /\ Reps E A G w l cs.toList /\ (∀ o, ¬ A (E.blk k) o) /\ ¬ G.i (E.blk k)
 | .buf T sz l => ∃ cs : Array Value, w.heap[E.blk k]? = some (.cells cs T (0, 0)) /\ (∀ u ∈ cs.toList, u.oneCell' = true) /\ E.wid k = sz /\ l.length <= E.cap k /\ cs.size = E.cap k * sz /\
   (∀ x ∈ l, x.cells.length = sz) /\ Reps E A G w (l.flatMap AV.cells) (cs.toList.take (l.length * sz)) /\ (∀ o, ¬ A (E.blk k) o) /\ ¬ G.i (E.blk k)
 | .map ks vs => ∃ es cl, w.heap[E.blk k]? = some (.map es cl) /\ Reps E A G w ks (es.toList.map (·.key)) /\ Reps E A G w vs (es.toList.map (·.val)) /\ bornOk es cl /\ ¬ G.i (E.blk k)
 | .siter s pos => w.heap[E.blk k]? = some (.stringIter s pos) /\ ¬ G.i (E.blk k)
 | .miter ks vs last => MitOk E A G w (E.blk k) ks vs last /\ ¬ G.i (E.blk k)
 | .loop τ n ps as bd st pd => (∃ L : Loop, w.heap[E.blk k]? = some (.loop L) /\ L.state = st /\ L.pending = pd /\ L.params.toList = ps /\ L.assign = as /\ L.body = bd /\ n <= L.tmps.size /\ ∀ i, Rep E A G w (tget τ i) (L.tmps.getD i undef)) /\ ¬ G.i (E.blk k)
 | .spare T sz => ∃ n xs, w.ownsRow 0 T sz (E.tok k) n xs /\ (∀ u ∈ xs, u.oneCell' = true) /\ ∀ b, (E.tok k).ownBlock = some b -> (∀ i, n * sz <= i -> ¬ A b i) /\ ¬ G.i b
 | .dead => True
abbrev Glob := List (Nat × List AV)
def GlR (A : Nat -> Nat -> Prop) (G : Gd) (w : World) (n : Nat) (l : List AV) : Prop := (∀ E', RepC E' A G w n 0 l) /\ G.i n /\ ∃ cs T fz, w.heap[n]? = some (.cells cs T fz) /\ cs.size = l.length
theorem GlR.mono {A A' : Nat -> Nat -> Prop} {G G' : Gd} {w w' : World} {n : Nat} {l : List AV} (hX : Ext A G w A' G' w') (h : GlR A G w n l) : GlR A' G' w' n l := by
 obtain ⟨h1, h2, cs, T, fz, h3, h4⟩ := h
 exact ⟨fun E' => (h1 E').mono (Env.le_refl _) hX, hX.g n h2, cs, T, fz, (hX.block n h2).trans h3, h4⟩
structure Wf (GL : Glob) (E : Env) (A : Nat -> Nat -> Prop) (G : Gd) (h : List AObj) (w : World) : Prop where
 gl : ∀ n l, (n, l) ∈ GL -> GlR A G w n l
 n : E.n = h.length
 a : ∀ b o, A b o -> ∃ v, w.cell? ⟨b, o, none⟩ = some v
 g : ∀ b, G.i b -> b < w.heap.size
 o : ∀ k x, h[k]? = some x -> ORel E A G w k x
 d : ∀ j k x y b, h[j]? = some x -> h[k]? = some y -> obk E j x = some b -> obk E k y = some b -> j = k
 hf : ∀ b, G.h b -> b < w.heap.size
 ho : ∀ k x b, h[k]? = some x -> obk E k x = some b -> ¬ G.h b
theorem Env.le.obk {E E' : Env} (h : E.le E') {k : Nat} (hk : k < E.n) (x : AObj) : obk E' k x = obk E k x := by
 obtain ⟨h1, h2, h3, h4⟩ := h.2 k hk
 cases x <;> simp [Rip.obk, h1, h3]
theorem cJ {E : Env} {A : Nat -> Nat -> Prop} {G : Gd} {w : World} {k : Nat} {x : AObj} (h : ORel E A G w k x) {b : Nat} (hb : obk E k x = some b) : b < w.heap.size := by
 have key : ∀ {o : Obj}, w.heap[b]? = some o -> b < w.heap.size := fun h => (Array.getElem?_eq_some_iff.1 h).1
 cases x with
 | cells T l => obtain ⟨cs, h, _⟩ := h; simp [obk] at hb; subst hb; exact key h
 | buf T sz l => obtain ⟨cs, h, _⟩ := h; simp [obk] at hb; subst hb; exact key h
 | map ks vs => obtain ⟨cs, _, h, _⟩ := h; simp [obk] at hb; subst hb; exact key h
 | siter s p => obtain ⟨h, _⟩ := h; simp [obk] at hb; subst hb; exact key h
 | miter ks vs last => obtain ⟨⟨_, _, _, _, _, _, h, _⟩, _⟩ := h; simp [obk] at hb; subst hb; exact key h
 | loop τ n ps as bd st pd => obtain ⟨⟨L, h, _⟩, _⟩ := h; simp [obk] at hb; subst hb; exact key h
 | spare T sz => obtain ⟨n, xs, h, _⟩ := h; exact (h.lt b hb).2
 | dead => simp [obk] at hb
theorem ORel.mono {E E' : Env} {A A' : Nat -> Nat -> Prop} {G G' : Gd} {w w' : World} {k : Nat} {x : AObj} (h : ORel E A G w k x) (hE : E.le E') (hk : k < E.n)
  (hX : Ext A G w A' G' w') (hb : ∀ b, obk E k x = some b -> w'.heap[b]? = w.heap[b]? /\ (∀ o, A' b o -> A b o) /\ (G'.i b -> G.i b)) : ORel E' A' G' w' k x := by
 obtain ⟨e1, e2, e3, e4⟩ := hE.2 k hk
 cases x with
 | cells T l =>
  obtain ⟨cs, h1, h9, h2, h3, h4⟩ := h
  obtain ⟨b1, b2, b3⟩ := hb _ rfl
  exact ⟨cs, by rw [e1, b1, h1], h9, h2.mono hE hX, fun o ho => h3 o (b2 o (e1 ▸ ho)), fun ho => h4 (b3 (e1 ▸ ho))⟩
 | buf T sz l =>
  obtain ⟨cs, h1, h9, h5, h6, h7, h8, h2, h3, h4⟩ := h
  obtain ⟨b1, b2, b3⟩ := hb _ rfl
  exact ⟨cs, by rw [e1, b1, h1], h9, by rw [e4, h5], by rw [e2]; exact h6, by rw [e2]; exact h7, h8, h2.mono hE hX, fun o ho => h3 o (b2 o (e1 ▸ ho)), fun ho => h4 (b3 (e1 ▸ ho))⟩
 | map ks vs =>
  obtain ⟨es, cl, h1, h2, h3, h4, h5⟩ := h
  obtain ⟨b1, b2, b3⟩ := hb _ rfl
  exact ⟨es, cl, by rw [e1, b1, h1], h2.mono hE hX, h3.mono hE hX, h4, fun ho => h5 (b3 (e1 ▸ ho))⟩
 | siter s p =>
  obtain ⟨h1, h5⟩ := h
  obtain ⟨b1, b2, b3⟩ := hb _ rfl
  exact ⟨by rw [e1, b1, h1], fun ho => h5 (b3 (e1 ▸ ho))⟩
 | miter ks vs last =>
  obtain ⟨h1, h5⟩ := h
  obtain ⟨b1, b2, b3⟩ := hb _ rfl
  rw [<- e1] at b1 h1
  exact ⟨h1.imp b1 (fun bm es cl hg hm => ⟨hX.g bm hg, (hX.block bm hg).trans hm⟩) (fun _ h => Reps.mono hE hX _ _ h) (fun _ h => Reps.mono hE hX _ _ h) id (fun _ h => Reps.mono hE hX _ _ h), fun ho => h5 (b3 (e1 ▸ ho))⟩
 | loop τ n ps as bd st pd =>
  obtain ⟨⟨L, h1, h2, h3, h4, h6, h7, h8, h9⟩, h5⟩ := h
  obtain ⟨b1, b2, b3⟩ := hb _ rfl
  exact ⟨⟨L, by rw [e1, b1, h1], h2, h3, h4, h6, h7, h8, fun i => (h9 i).mono hE hX⟩, fun ho => h5 (b3 (e1 ▸ ho))⟩
 | spare T sz =>
  obtain ⟨n, xs, h, ho, h'⟩ := h
  refine ⟨n, xs, ?_, ho, fun b hb' => ?_⟩
  ·rw [e3]
   refine ⟨h.1, h.2.imp id ?_⟩
   rintro ⟨g, cap, cur, hv, r0, hg, r⟩
   exact ⟨g, cap, cur, hv, r0, by rw [(hb g (by simp [obk, hv, Value.ownBlock])).1]; exact hg, r⟩
  ·rw [e3] at hb'
   obtain ⟨b1, b2, b3⟩ := hb b hb'
   exact ⟨fun i hi ho => (h' b hb').1 i hi (b2 i ho), fun ho => (h' b hb').2 (b3 ho)⟩
 | dead => trivial
theorem Wf.step {GL : Glob} {E E' : Env} {A A' : Nat -> Nat -> Prop} {G G' : Gd} {h h' : List AObj} {w w' : World} (hW : Wf GL E A G h w) (hE : E.le E') (hX : Ext A G w A' G' w')
  (hn : E'.n = h'.length) (ha : ∀ b o, A' b o -> ∃ v, w'.cell? ⟨b, o, none⟩ = some v) (hg : ∀ b, G'.i b -> b < w'.heap.size)
  (S : Nat -> Prop) -- the objects that are given anew
  (hold : ∀ k x, h'[k]? = some x -> ¬ S k -> h[k]? = some x /\ ∀ b, obk E k x = some b -> w'.heap[b]? = w.heap[b]? /\ (∀ o, A' b o -> A b o) /\ (G'.i b -> G.i b))
  (hnew : ∀ k x, h'[k]? = some x -> S k -> ORel E' A' G' w' k x)
  (hd : ∀ j k x y b, h'[j]? = some x -> h'[k]? = some y -> S j -> obk E' j x = some b -> obk E' k y = some b -> j = k)
  (hs : ∀ k x b, h'[k]? = some x -> S k -> obk E' k x = some b -> ¬ G.h b) : Wf GL E' A' G' h' w' := by
 refine ⟨fun n l hl => (hW.gl n l hl).mono hX, hn, ha, hg, fun k x hx => ?_, fun j k x y b hx hy hj hk => ?_,
  fun b hb => Nat.lt_of_lt_of_le (hW.hf b ((hX.hh b).1 hb)) hX.size, fun k x b hx hk hb => ?_⟩
 ·by_cases hs : S k
  ·exact hnew k x hx hs
  ·obtain ⟨h1, h2⟩ := hold k x hx hs
   have hk : k < E.n := by rw [hW.n]; exact (List.getElem?_eq_some_iff.1 h1).1
   exact (hW.o k x h1).mono hE hk hX h2
 ·by_cases hs : S j
  ·exact hd j k x y b hx hy hs hj hk
  ·by_cases hs' : S k
   ·exact (hd k j y x b hy hx hs' hk hj).symm
   ·obtain ⟨h1, _⟩ := hold j x hx hs
    obtain ⟨h2, _⟩ := hold k y hy hs'
    have hj' : j < E.n := by rw [hW.n]; exact (List.getElem?_eq_some_iff.1 h1).1
    have hk' : k < E.n := by rw [hW.n]; exact (List.getElem?_eq_some_iff.1 h2).1
    rw [hE.obk hj'] at hj
    rw [hE.obk hk'] at hk
    exact hW.d j k x y b h1 h2 hj hk
 ·have hb := (hX.hh b).1 hb
  by_cases hs' : S k
  ·exact hs k x b hx hs' hk hb
  ·obtain ⟨h1, _⟩ := hold k x hx hs'
   have hk' : k < E.n := by rw [hW.n]; exact (List.getElem?_eq_some_iff.1 h1).1
   rw [hE.obk hk'] at hk
   exact hW.ho k x b h1 hk hb
inductive AOpd where
 | t (n : Nat)
 | c (x : AV)
 | g (n : Nat)
 deriving Inhabited
inductive FK where
 | int (k : IntKind) | bool | str
 deriving Inhabited
inductive KQ where
 | one (q : FK)
 | st (l : List FK)
 deriving Inhabited
inductive EqK where
 | no
 | st (l : List FK)
 | nil
 | bl
 | sh
 | sl
 | fnc
 | ptr
 deriving Inhabited
inductive LK where
 | str | sl | mp
 deriving Inhabited
inductive AOp where
 | move (x : AOpd)
 | pick (c a b : AOpd)
 | alloc (T : TypeId) (zs : List AV)
 | box (T : TypeId) (x : AOpd)
 | build (zs : List AV) (ps : List (Nat × Nat × AOpd))
 | buildSlice (T : TypeId) (sz : Nat) (z : AV) (len : Nat) (ps : List (Nat × AOpd))
 | load (agg : Bool) (n : Nat) (a : AOpd)
 | store (n : Nat) (a x : AOpd)
 | nilCheck (x : AOpd)
 | bin (op : BinOp) (q : EqK) (x y : AOpd)
 | un (op : UnOp) (x : AOpd)
 | conv (k : IntKind) (x : AOpd)
 | toStr (bytes : Bool) (x : AOpd)
 | mkIface (T : TypeId) (x : AOpd)
 | mkFunc (f : FuncId) (first cap : List AOpd)
 | mkMap
 | mkSlice (T : TypeId) (sz bytes : Nat) (z : AV) (l c : AOpd)
 | sliceStr (x : AOpd) (lo hi : Option AOpd)
 | slice (sz : Nat) (x : AOpd) (lo hi mx : Option AOpd)
 | sliceArr (n sz : Nat) (x : AOpd) (lo hi : Option AOpd)
 | fieldAddr (off : Nat) (x : AOpd)
 | field (agg : Bool) (off n : Nat) (x : AOpd)
 | indexAddr (sz : Nat) (x i : AOpd)
 | indexAddrArr (len sz : Nat) (x i : AOpd)
 | indexArr (agg : Bool) (len sz : Nat) (x i : AOpd)
 | indexStr (x i : AOpd)
 | lookup (q : KQ) (z : AV) (x i : AOpd) (ok : Bool)
 | mapUpdate (q : KQ) (m k x : AOpd)
 | extract (x : AOpd) (i : Nat)
 | call (f : FuncId) (args : List AOpd)
 | callV (x : AOpd) (args : List AOpd)
 | append (T : TypeId) (sz bytes : Nat) (a b : AOpd)
 | len (q : LK) (x : AOpd)
 | max (x y : AOpd)
 | min (x y : AOpd)
 | panic (x : AOpd)
 | chk (d : Option Nat) (op : AOp)
 | sliceQ (sz : Nat) (x : AOpd) (lo hi mx : Option AOpd)
 | cap (x : AOpd)
 | bad
 | appendM (T : TypeId) (sz bytes : Nat) (a b : AOpd)
 | appendZ (T : TypeId) (sz bytes : Nat) (z : AV) (a n : AOpd)
 | buildSliceF (T : TypeId) (sz : Nat) (z : AV) (len : Nat) (ps : List (Nat × AOpd))
 | rangeStr (x : AOpd)
 | nextStr (x : AOpd)
 | tyAssert (T : TypeId) (z : AV) (ok : Bool) (x : AOpd)
 | sliceV (sz : Nat) (x : AOpd) (lo hi mx : Option AOpd)
 | clear (T : TypeId) (sz : Nat) (z : AV) (x : AOpd)
 | appendB (T : TypeId) (sz bytes : Nat) (a b : AOpd)
 | rangeMap (x : AOpd)
 | nextMap (x : AOpd)
 | entryMap (x : AOpd)
 | appendS (T : TypeId) (sz bytes : Nat) (a b : AOpd)
 deriving Inhabited
def quietA : AOp -> Bool
 | .alloc .. | .box .. | .buildSlice .. | .store .. | .mkMap | .mkSlice .. | .mapUpdate .. | .call .. | .callV .. | .append .. | .panic .. | .chk .. | .rangeStr _ | .nextStr _ | .rangeMap _ | .nextMap _ | .entryMap _ | .appendS .. | .slice .. | .appendZ .. | .appendM .. | .appendB .. | .sliceV .. | .clear .. | .bad => false
 | _ => true
def readsA : AOp -> Bool
 | .load .. | .indexAddr .. | .lookup .. | .len .. | .toStr .. => true
 | _ => false
def AOp.opds : AOp -> List AOpd
 | .move x | .box _ x | .load _ _ x | .nilCheck x | .un _ x | .conv _ x | .toStr _ x | .mkIface _ x | .fieldAddr _ x | .field _ _ _ x | .extract x _ | .len _ x | .panic x | .rangeStr x | .nextStr x | .rangeMap x | .nextMap x | .entryMap x | .tyAssert _ _ _ x | .cap x | .clear _ _ _ x => [x]
 | .pick c a b => [c, a, b]
 | .alloc .. | .mkMap | .chk .. | .bad => []
 | .build _ ps => ps.map (·.2.2)
 | .buildSlice _ _ _ _ ps | .buildSliceF _ _ _ _ ps => ps.map (·.2)
 | .store _ a x => [a, x]
 | .bin _ _ x y | .indexAddr _ x y | .indexAddrArr _ _ x y | .indexArr _ _ _ x y | .indexStr x y | .lookup _ _ x y _ | .max x y | .min x y | .append _ _ _ x y | .appendM _ _ _ x y | .appendB _ _ _ x y | .appendS _ _ _ x y | .appendZ _ _ _ _ x y => [x, y]
 | .mkFunc _ a b => a ++ b
 | .mkSlice _ _ _ _ l c => [l, c]
 | .sliceStr x lo hi | .sliceArr _ _ x lo hi => x :: (lo.toList ++ hi.toList)
 | .slice _ x lo hi mx | .sliceQ _ x lo hi mx | .sliceV _ x lo hi mx => x :: (lo.toList ++ (hi.toList ++ mx.toList))
 | .mapUpdate _ m k x => [m, k, x]
 | .call _ as => as
 | .callV x as => x :: as
def AOpd.tmps : AOpd -> List Nat
 | .t n => [n]
 | _ => []
def AOp.tmps (op : AOp) : List Nat := op.opds.flatMap AOpd.tmps
def gdW (x : AV) (b : Bool) : Option Bool :=
 match x with
 | .v (.bool c) => some (c == b)
 | .v (.tuple _) => some false
 | _ => none
def gget : Glob -> Nat -> AV
 | [], _ => .any
 | (j, l) :: r, i => match Nat.beq i j with
  | true => .pel l
  | false => gget r i
def aeval (GL : Glob) (τ : List (Nat × AV)) : AOpd -> AV
 | .t n => tget τ n
 | .c x => x
 | .g n => gget GL n
def aput (τ : List (Nat × AV)) (d : Option Nat) (x : AV) : List (Nat × AV) :=
 match d with
 | some i => (i, x) :: τ
 | none => τ
def ptrCells (h : List AObj) : AV -> Option (List AV)
 | .ref k off => match h[k]? with
  | some (.cells _ l) => some (l.drop off)
  | _ => none
 | .eref k i off => match h[k]? with
  | some (.buf _ _ l) => match l[i]? with
   | some x => some (x.cells.drop off)
   | none => none
  | _ => none
 | .pel l => some l
 | _ => none
def loadA (agg : Bool) (n : Nat) (l : List AV) : Option AV :=
 match agg with
 | true => match Nat.ble n l.length with
  | true => some (.agg (l.take n))
  | false => none
 | false => match l with
  | x :: _ => some x
  | [] => none
def splice (l : List AV) (off : Nat) (c : List AV) : List AV := l.take off ++ (c ++ l.drop (off + c.length))
def aggOf : AV -> Option (List AV)
 | .agg l => some l
 | _ => none
def storeA (h : List AObj) (n : Nat) (a x : AV) : Option (List AObj) :=
 match a with
 | .ref k off => match h[k]? with
  | some (.cells T l) => match x.solid && Nat.beq x.cells.length n && Nat.ble (off + n) l.length with
   | true => some (h.set k (.cells T (splice l off x.cells)))
   | false => none
  | _ => none
 | .eref k i off => match h[k]? with
  | some (.buf T sz l) => match l[i]? with
   | some y => match aggOf y with
    | some cs => match x.solid && Nat.beq x.cells.length n && Nat.ble (off + n) cs.length with
     | true => some (h.set k (.buf T sz (l.set i (.agg (splice cs off x.cells)))))
     | false => none
    | none => match x.solid && Nat.beq x.cells.length 1 && Nat.beq n 1 && Nat.beq off 0 && Nat.beq sz 1 with
     | true => some (h.set k (.buf T sz (l.set i x)))
     | false => none
   | none => none
  | _ => none
 | _ => none
def fillA : List AV -> List (Nat × Nat × AV) -> Option (List AV)
 | zs, [] => some zs
 | zs, (off, size, x) :: r => match x.solid && Nat.beq x.cells.length size && Nat.ble (off + size) zs.length with
  | true => fillA (splice zs off x.cells) r
  | false => none
def fillL (sz : Nat) : List AV -> List (Nat × AV) -> Option (List AV)
 | zs, [] => some zs
 | zs, (i, x) :: r => match x.solid && Nat.beq x.cells.length sz && Nat.blt i zs.length with
  | true => fillL sz (zs.set i x) r
  | false => none
def byteA (c : UInt8) : AV := .v (.int .u8 c.toNat)
def bitAnd (k : IntKind) (a b : Int) : Int := k.wrap (BitVec.ofInt k.bits a &&& BitVec.ofInt k.bits b).toNat
def bitOr (k : IntKind) (a b : Int) : Int := k.wrap (BitVec.ofInt k.bits a ||| BitVec.ofInt k.bits b).toNat
def bitXor (k : IntKind) (a b : Int) : Int := k.wrap (BitVec.ofInt k.bits a ^^^ BitVec.ofInt k.bits b).toNat
def intBin (op : BinOp) (k : IntKind) (a b : Int) : Option Value :=
 match op with
 | .add => some (.int k (k.wrap (a + b)))
 | .sub => some (.int k (k.wrap (a - b)))
 | .mul => some (.int k (k.wrap (a * b)))
 | .quo => if b = 0 then none else some (.int k (k.wrap (a.tdiv b)))
 | .rem => if b = 0 then none else some (.int k (a.tmod b))
 | .eql => some (.bool (a == b))
 | .neq => some (.bool (a != b))
 | .lss => some (.bool (decide (a < b)))
 | .leq => some (.bool (decide (a <= b)))
 | .gtr => some (.bool (decide (a > b)))
 | .geq => some (.bool (decide (a >= b)))
 | .and => some (.int k (bitAnd k a b))
 | .or => some (.int k (bitOr k a b))
 | .xor => some (.int k (bitXor k a b))
 | _ => none
def shiftBin (op : BinOp) (k : IntKind) (a b : Int) : Option Value :=
 match op with
 | .shl => if b < 0 then none else some (.int k (k.wrap (a * 2 ^ min b.toNat k.bits)))
 | .shr => if b < 0 then none else some (.int k (a.fdiv (2 ^ min b.toNat k.bits)))
 | _ => none
def strBin (op : BinOp) (a b : List UInt8) : Option AV :=
 match op with
 | .eql => some (.v (.bool (a == b)))
 | .neq => some (.v (.bool (!(a == b))))
 | .lss => some (.v (.bool (Op.bytesLess a b)))
 | .leq => some (.v (.bool (Op.bytesLess a b || a == b)))
 | .gtr => some (.v (.bool (!(Op.bytesLess a b || a == b))))
 | .geq => some (.v (.bool (!Op.bytesLess a b)))
 | .add => match Nat.ble (a.length + b.length) (2 ^ 62) with
  | true => some (.str (a ++ b))
  | false => none
 | _ => none
def eqAV : FK -> AV -> AV -> Option Bool
 | .int k, .v (.int k1 a), .v (.int k2 b) => if k1 = k /\ k2 = k then some (a == b) else none
 | .bool, .v (.bool a), .v (.bool b) => some (a == b)
 | .str, .str a, .str b => some (a == b)
 | _, _, _ => none
def eqAVs : List FK -> List AV -> List AV -> Option Bool
 | [], [], [] => some true
 | q :: qs, x :: xs, y :: ys => match eqAV q x y, eqAVs qs xs ys with
  | some a, some b => some (a && b)
  | _, _ => none
 | _, _, _ => none
def eqKQ : KQ -> AV -> AV -> Option Bool
 | .one q, x, y => eqAV q x y
 | .st l, .agg a, .agg b => eqAVs l a b
 | _, _, _ => none
def binA (op : BinOp) (q : EqK) (x y : AV) : Option AV :=
 match x, y with
 | .v (.int k a), .v (.int k' b) => match q with
  | .sh => (shiftBin op k a b).map .v
  | _ => if k = k' then (intBin op k a b).map .v else none
 | .str a, .str b => strBin op a b
 | .agg a, .agg b => match q, op with
  | .st l, .eql => (eqAVs l a b).map fun r => .v (.bool r)
  | .st l, .neq => (eqAVs l a b).map fun r => .v (.bool (!r))
  | _, _ => none
 | .v (.bool a), .v (.bool b) => match q, op with
  | .bl, .eql => some (.v (.bool (a == b)))
  | .bl, .neq => some (.v (.bool (!(a == b))))
  | _, _ => none
 | .v .nilIface, .v .nilIface => match q, op with
  | .nil, .eql => some (.v (.bool true))
  | .nil, .neq => some (.v (.bool false))
  | _, _ => none
 | .iface _ _, .v .nilIface => match q, op with
  | .nil, .eql => some (.v (.bool false))
  | .nil, .neq => some (.v (.bool true))
  | _, _ => none
 | .sl _ (_ :: _), .v (.slice none _ _) => match q, op with
  | .sl, .eql => some (.v (.bool false))
  | .sl, .neq => some (.v (.bool true))
  | _, _ => none
 | .v (.slice p _ _), .v (.slice none _ _) => match q, op with
  | .sl, .eql => some (.v (.bool p.isNone))
  | .sl, .neq => some (.v (.bool p.isSome))
  | _, _ => none
 | .fn _ _ _, .v .nilFunc => match q, op with
  | .fnc, .eql => some (.v (.bool false))
  | .fnc, .neq => some (.v (.bool true))
  | _, _ => none
 | .v .nilFunc, .v .nilFunc => match q, op with
  | .fnc, .eql => some (.v (.bool true))
  | .fnc, .neq => some (.v (.bool false))
  | _, _ => none
 | .v (.pointer none), .v (.pointer none) => match q, op with
  | .ptr, .eql => some (.v (.bool true))
  | .ptr, .neq => some (.v (.bool false))
  | _, _ => none
 | .ref _ _, .v (.pointer none) => match q, op with
  | .ptr, .eql => some (.v (.bool false))
  | .ptr, .neq => some (.v (.bool true))
  | _, _ => none
 | .ref k o, .ref k' o' => match q, op, Nat.beq k k' && Nat.beq o o' with
  | .ptr, .eql, true => some (.v (.bool true))
  | .ptr, .neq, true => some (.v (.bool false))
  | _, _, _ => none
 | _, _ => none
def unA (op : UnOp) (x : AV) : Option AV :=
 match op, x with
 | .not, .v (.bool b) => some (.v (.bool (!b)))
 | .neg, .v (.int k n) => some (.v (.int k (k.wrap (0 - n))))
 | _, _ => none
def intOfA : AV -> Option Int
 | .v (.int _ n) => some n
 | _ => none
def lenA (h : List AObj) : LK -> AV -> Option Nat
 | .sl, .sl _ l => some l.length
 | .sl, .own _ _ l => some l.length
 | .sl, .vec _ _ m => some m
 | .sl, .view _ _ _ m => some m
 | .str, .str l => some l.length
 | .sl, .v (.slice _ n _) => some n
 | .mp, .mp k => match h[k]? with
  | some (.map ks _) => some ks.length
  | _ => none
 | .mp, .imp ks _ => some ks.length
 | .mp, .v (.map none) => some 0
 | _, _ => none
def slA (sz : Nat) : AV -> Option (List AV)
 | .sl s l => match Nat.beq s sz with
  | true => some l
  | false => none
 | .own _ s l => match Nat.beq s sz with
  | true => some l
  | false => none
 | .v (.slice none 0 0) => some []
 | _ => none
def elemsA (h : List AObj) (sz : Nat) : AV -> Option (List AV)
 | .sl s l => match Nat.beq s sz with
  | true => some l
  | false => none
 | .own _ s l => match Nat.beq s sz with
  | true => some l
  | false => none
 | .vec k s m => match Nat.beq s sz with
  | true => match h[k]? with
   | some (.buf _ _ l) => match Nat.ble m l.length with
    | true => some (l.take m)
    | false => none
   | _ => none
  | false => none
 | .view k s a m => match Nat.beq s sz with
  | true => match h[k]? with
   | some (.buf _ _ l) => match Nat.ble (a + m) l.length with
    | true => some ((l.drop a).take m)
    | false => none
   | _ => none
  | false => none
 | .v (.slice none 0 0) => some []
 | _ => none
def vecOf : AV -> Option (Nat × Nat × Nat × Nat)
 | .vec k s m => some (k, s, 0, m)
 | .view k s a m => some (k, s, a, m)
 | _ => none
def put (l : List AV) (p : Nat) (m : List AV) : List AV := l.take p ++ (m ++ l.drop (p + m.length))
def elemPtr (x : AV) (i : Nat) : AV :=
 match x with
 | .vec k _ _ => .eref k i 0
 | .view k _ a _ => .eref k (a + i) 0
 | .sl _ l => .pel (l.getD i .any).cells
 | .own _ _ l => .pel (l.getD i .any).cells
 | _ => .any
def ptrAdd (off : Nat) : AV -> Option AV
 | .ref k o => some (.ref k (o + off))
 | .eref k i o => some (.eref k i (o + off))
 | .pel l => some (.pel (l.drop off))
 | _ => none
def findA (q : KQ) (x : AV) : List AV -> Option (Option Nat)
 | [] => (eqKQ q x x).map fun _ => none
 | k :: ks => match eqKQ q x k, findA q x ks with
  | some e, some r => some (bif e then some 0 else r.map (· + 1))
  | _, _ => none
def mapOf (h : List AObj) : AV -> Option (List AV × List AV)
 | .mp k => match h[k]? with
  | some (.map ks vs) => some (ks, vs)
  | _ => none
 | .imp ks vs => some (ks, vs)
 | .v (.map none) => some ([], [])
 | _ => none
def bytesA : List AV -> Option (List UInt8)
 | [] => some []
 | .v (.int .u8 n) :: r => match bytesA r with
  | some l => some (UInt8.ofNat n.toNat :: l)
  | none => none
 | _ => none
inductive ACode where
 | skip
 | region (ops : List (Option Nat × Option (Nat × Bool) × AOp))
 | drawn (ops : List ((Option Nat × Option (Nat × Bool) × AOp) × List Nat))
 | seq (a b : ACode)
 | cond (c : AOpd) (thn els : ACode)
 | block (id : Nat) (body : ACode)
 | loop (body : ACode)
 | rangeFunc (n : Nat) (f : AOpd) (ps : List Nat) (as bd : Code)
 | exit (id : Nat)
 | ret
 deriving Inhabited
inductive AExit where
 | normal
 | exit (id : Nat)
 | ret
inductive ARes where
 | val (x : AV)
 | panic (x : AV)
def imax (a b : Int) : Int := if b > a then b else a
def imin (a b : Int) : Int := if b < a then b else a
def bounds (i : Int) (n : Nat) : Prop := 0 <= i /\ i < (n : Int)
def optInt (e : AOpd -> AV) : Option AOpd -> Int -> Option Int
 | none, d => some d
 | some x, _ => intOfA (e x)
def condP (t : Bool) (X Y : Prop) : Prop := (t = true -> X) /\ (t = false -> Y)
theorem eX (X Y : Prop) : condP true X Y = X := by simp [condP]
theorem dZ (X Y : Prop) : condP false X Y = Y := by simp [condP]
def stepA (GL : Glob) (op : AOp) (τ : List (Nat × AV)) (h : List AObj) (K : AV -> List AObj -> Prop) : Prop :=
 match op with
 | .move x => K (aeval GL τ x) h
 | .pick c a b => match aeval GL τ c with
  | .v (.bool t) => condP t (K (aeval GL τ a) h) (K (aeval GL τ b) h)
  | _ => False
 | .alloc T zs => K (.ref h.length 0) (h ++ [.cells T zs])
 | .box T x => match (aeval GL τ x).solid with
  | true => K (.ref h.length 0) (h ++ [.cells T (aeval GL τ x).cells])
  | false => False
 | .build zs ps => match fillA zs (ps.map fun (o, s, x) => (o, s, aeval GL τ x)) with
  | some cs => K (.agg cs) h
  | none => False
 | .buildSlice T sz z len ps => match fillL sz (List.replicate len z) (ps.map fun (i, x) => (i, aeval GL τ x)) with
  | some l => K (.own h.length sz l) (h ++ [.spare T sz])
  | none => False
 | .load agg n a => match ptrCells h (aeval GL τ a) with
  | some l => match loadA agg n l with
   | some x => K x h
   | none => False
  | none => False
 | .store n a x => match storeA h n (aeval GL τ a) (aeval GL τ x) with
  | some h' => K (.v undef) h'
  | none => False
 | .nilCheck x => match aeval GL τ x with
  | .ref k o => K (.ref k o) h
  | .eref k i o => K (.eref k i o) h
  | .pel l => K (.pel l) h
  | _ => False
 | .bin op q x y => match binA op q (aeval GL τ x) (aeval GL τ y) with
  | some r => K r h
  | none => False
 | .un op x => match unA op (aeval GL τ x) with
  | some r => K r h
  | none => False
 | .conv k x => match aeval GL τ x with
  | .v (.int _ n) => K (.v (.int k (k.wrap n))) h
  | _ => False
 | .toStr bytes x => match bytes with
  | false => match aeval GL τ x with
   | .v (.int _ n) => K (.str (Utf8.encode n).data.toList) h
   | _ => False
  | true => match elemsA h 1 (aeval GL τ x) with
   | some l => match bytesA l with
    | some bs => K (.str bs) h
    | none => False
   | none => False
 | .mkIface T x => K (.iface T (aeval GL τ x)) h
 | .mkFunc f a b => K (.fn (.func f) (a.map (aeval GL τ)) (b.map (aeval GL τ))) h
 | .mkMap => K (.mp h.length) (h ++ [.map [] []])
 | .mkSlice T sz bytes z l c => match intOfA (aeval GL τ l), intOfA (aeval GL τ c) with
  | some l, some c => (0 <= l /\ c = l /\ l * bytes <= 2 ^ 47) /\ K (.vec h.length sz l.toNat) (h ++ [.buf T sz (List.replicate l.toNat z)])
  | _, _ => False
 | .sliceStr x lo hi => match aeval GL τ x with
  | .str l => match optInt (aeval GL τ) lo 0, optInt (aeval GL τ) hi l.length with
   | some a, some b => (0 <= a /\ a <= b /\ b <= l.length) /\ K (.str ((l.drop a.toNat).take (b.toNat - a.toNat))) h
   | _, _ => False
  | _ => False
 | .slice sz x lo hi mx => match aeval GL τ x, mx with
  | .v (.slice none 0 0), none => match optInt (aeval GL τ) lo 0, optInt (aeval GL τ) hi 0 with
   | some a, some b => (a = 0 /\ b = 0) /\ K (.v (.slice none 0 0)) h
   | _, _ => False
  | .vec k s m, none => match hi with
   | some _ => match optInt (aeval GL τ) lo 0, optInt (aeval GL τ) hi m, h[k]?, Nat.beq s sz with
    | some a, some b, some (.buf T _s' l), true => (a = 0 /\ 0 <= b /\ b <= m /\ m <= l.length) /\ K (.own h.length sz (l.take b.toNat)) (h.set k .dead ++ [.spare T sz])
    | _, _, _, _ => False
   | none => match optInt (aeval GL τ) lo 0, h[k]?, Nat.beq s sz with
    | some a, some (.buf _ _ l), true => (0 <= a /\ a < m /\ m <= l.length) /\ K (.view k sz a.toNat (m - a.toNat)) h
    | _, _, _ => False
  | y, none => match slA sz y with
   | some l => match optInt (aeval GL τ) lo 0, optInt (aeval GL τ) hi l.length with
    | some a, some b => (0 <= a /\ a <= b /\ b <= l.length) /\ K (.sl sz ((l.drop a.toNat).take (b.toNat - a.toNat))) h
    | _, _ => False
   | none => False
  | y, some _ => match slA sz y, hi with
   | some l, some _ => match optInt (aeval GL τ) lo 0, optInt (aeval GL τ) hi 0, optInt (aeval GL τ) mx 0 with
    | some a, some b, some c => (0 <= a /\ a <= b /\ b <= c /\ c <= l.length) /\ K (.sl sz ((l.drop a.toNat).take (b.toNat - a.toNat))) h
    | _, _, _ => False
   | _, _ => False
 | .sliceQ sz x lo hi mx => match slA sz (aeval GL τ x), mx with
  | some l, none => match optInt (aeval GL τ) lo 0, optInt (aeval GL τ) hi l.length with
   | some a, some b => (0 <= a /\ a <= b /\ b <= l.length) /\ K (.sl sz ((l.drop a.toNat).take (b.toNat - a.toNat))) h
   | _, _ => False
  | _, _ => False
 | .sliceArr n sz x lo hi => match aeval GL τ x with
  | .pel l => match optInt (aeval GL τ) lo 0, optInt (aeval GL τ) hi n, Nat.beq sz 1, Nat.ble n l.length with
   | some a, some b, true, true => (0 <= a /\ a <= b /\ b <= n) /\ K (.sl 1 ((l.drop a.toNat).take (b.toNat - a.toNat))) h
   | _, _, _, _ => False
  | _ => False
 | .fieldAddr off x => match ptrAdd off (aeval GL τ x) with
  | some r => K r h
  | none => False
 | .field agg off n x => match aeval GL τ x with
  | .agg l => match loadA agg n (l.drop off) with
   | some r => K r h
   | none => False
  | _ => False
 | .indexAddr sz x i => match elemsA h sz (aeval GL τ x), intOfA (aeval GL τ i) with
  | some l, some i => bounds i l.length /\ K (elemPtr (aeval GL τ x) i.toNat) h
  | _, _ => False
 | .indexAddrArr len sz x i => match intOfA (aeval GL τ i) with
  | some i => bounds i len /\ (match ptrAdd (i.toNat * sz) (aeval GL τ x) with
   | some r => K r h
   | none => False)
  | none => False
 | .indexArr agg len sz x i => match aeval GL τ x, intOfA (aeval GL τ i) with
  | .agg l, some i => bounds i len /\ (match loadA agg sz (l.drop (i.toNat * sz)) with
   | some r => K r h
   | none => False)
  | _, _ => False
 | .indexStr x i => match aeval GL τ x, intOfA (aeval GL τ i) with
  | .str l, some i => bounds i l.length /\ K (.v (.int .u8 (l.getD i.toNat 0).toNat)) h
  | _, _ => False
 | .lookup q z x i ok => match mapOf h (aeval GL τ x) with
  | some (ks, vs) => match findA q (aeval GL τ i) ks with
   | some (some j) => K (match ok with
    | true => .tup [vs.getD j .any, .v (.bool true)]
    | false => vs.getD j .any) h
   | some none => K (match ok with
    | true => .tup [z, .v (.bool false)]
    | false => z) h
   | none => False
  | none => False
 | .mapUpdate q m k x => match aeval GL τ m with
  | .mp j => match h[j]? with
   | some (.map ks vs) => match findA q (aeval GL τ k) ks with
    | some (some i) => K (.v undef) (h.set j (.map ks (vs.set i (aeval GL τ x))))
    | some none => K (.v undef) (h.set j (.map (ks ++ [aeval GL τ k]) (vs ++ [aeval GL τ x])))
    | none => False
   | _ => False
  | _ => False
 | .extract x i => match aeval GL τ x with
  | .tup l => match l[i]? with
   | some r => K r h
   | none => False
  | _ => False
 | .append T sz bytes a b => match elemsA h sz (aeval GL τ b) with
  | some m => match aeval GL τ a with
   | .own k sz' l => match h[k]?, Nat.beq sz' sz with
    | some (.spare T' sz''), true => (T' = T /\ sz'' = sz /\ (l.length + m.length) * bytes <= 2 ^ 47) /\ K (.own h.length sz (l ++ m)) (h.set k .dead ++ [.spare T sz])
    | _, _ => False
   | .v (.slice none 0 0) => (m.length * bytes <= 2 ^ 47) /\ K (.own h.length sz m) (h ++ [.spare T sz])
   | _ => False
  | none => False
 | .len q x => match lenA h q (aeval GL τ x) with
  | some n => K (.v (.int .i64 n)) h
  | none => False
 | .max x y => match aeval GL τ x, aeval GL τ y with
  | .v (.int k a), .v (.int _ b) => K (.v (.int k (imax a b))) h
  | _, _ => False
 | .min x y => match aeval GL τ x, aeval GL τ y with
  | .v (.int k a), .v (.int _ b) => K (.v (.int k (imin a b))) h
  | _, _ => False
 | .buildSliceF _ sz z len ps => match fillL sz (List.replicate len z) (ps.map fun (i, x) => (i, aeval GL τ x)) with
  | some l => K (.sl sz l) h
  | none => False
 | .cap x => match aeval GL τ x with
  | .v (.slice none 0 0) => K (.v (.int .i64 0)) h
  | _ => False
 | .appendM T sz bytes a b => match elemsA h sz (aeval GL τ b) with
  | some m => match aeval GL τ a with
   | .vec k sz' n => match h[k]?, Nat.beq sz' sz with
    | some (.buf T' sz'' l), true => (T' = T /\ sz'' = sz /\ n = l.length /\ 0 < l.length + m.length /\ (l.length + m.length) * bytes <= 2 ^ 47) /\ K (.vec h.length sz (l.length + m.length)) (h.set k .dead ++ [.buf T sz (l ++ m)])
    | _, _ => False
   | .view k sz' a n => match h[k]?, Nat.beq sz' sz with
    | some (.buf T' sz'' l), true => (T' = T /\ sz'' = sz /\ a = 0 /\ n + m.length <= l.length /\ l.length <= 2 ^ 50) /\ K (.vec k sz (n + m.length)) (h.set k (.buf T sz (put l n m)))
    | _, _ => False
   | .v (.slice none 0 0) => (0 < m.length /\ m.length * bytes <= 2 ^ 47) /\ K (.vec h.length sz m.length) (h ++ [.buf T sz m])
   | _ => False
  | none => match aeval GL τ b, aeval GL τ a with
   | .v (.slice (some _) 0 _), .vec k sz' n => K (.vec k sz' n) h
   | _, _ => False
 | .appendB T sz bytes a b => (match elemsA h sz (aeval GL τ b) with
   | some m => match aeval GL τ a with
    | .own k sz' l => match h[k]?, Nat.beq sz' sz with
     | some (.spare T' sz''), true => (T' = T /\ sz'' = sz /\ (l.length + m.length) * bytes <= 2 ^ 47) /\ K (.own h.length sz (l ++ m)) (h.set k .dead ++ [.spare T sz])
     | _, _ => False
    | .v (.slice none 0 0) => (m.length * bytes <= 2 ^ 47) /\ K (.own h.length sz m) (h ++ [.spare T sz])
    | _ => False
   | none => False) ∨ (match elemsA h sz (aeval GL τ b) with
   | some m => match aeval GL τ a with
    | .vec k sz' n => match h[k]?, Nat.beq sz' sz with
     | some (.buf T' sz'' l), true => (T' = T /\ sz'' = sz /\ n = l.length /\ 0 < l.length + m.length /\ (l.length + m.length) * bytes <= 2 ^ 47) /\ K (.vec h.length sz (l.length + m.length)) (h.set k .dead ++ [.buf T sz (l ++ m)])
     | _, _ => False
    | .view k sz' a n => match h[k]?, Nat.beq sz' sz with
     | some (.buf T' sz'' l), true => (T' = T /\ sz'' = sz /\ a = 0 /\ n + m.length <= l.length /\ l.length <= 2 ^ 50) /\ K (.vec k sz (n + m.length)) (h.set k (.buf T sz (put l n m)))
     | _, _ => False
    | .v (.slice none 0 0) => (0 < m.length /\ m.length * bytes <= 2 ^ 47) /\ K (.vec h.length sz m.length) (h ++ [.buf T sz m])
    | _ => False
   | none => match aeval GL τ b, aeval GL τ a with
    | .v (.slice (some _) 0 _), .vec k sz' n => K (.vec k sz' n) h
    | _, _ => False)
 | .appendZ T sz bytes z a n => match aeval GL τ a, intOfA (aeval GL τ n) with
  | .v (.slice none 0 0), some n => (0 < n /\ n * bytes <= 2 ^ 47) /\ K (.vec h.length sz n.toNat) (h ++ [.buf T sz (List.replicate n.toNat z)])
  | _, _ => False
 | .rangeStr x => match aeval GL τ x with
  | .str l => K (.ref h.length 0) (h ++ [.siter ⟨l.toArray⟩ 0])
  | _ => False
 | .nextStr x => match aeval GL τ x with
  | .ref k 0 => match h[k]? with
   | some (.siter s pos) => condP (Nat.blt pos s.size) (K (.tup [.v (.bool true), .v (.int .i64 pos), .v (.int .i32 (Utf8.decode s pos).1)]) (h.set k (.siter s (pos + (Utf8.decode s pos).2)))) (K (.tup [.v (.bool false)]) h)
   | _ => False
  | _ => False
 | .rangeMap x => match aeval GL τ x with
  | .mp k => match h[k]? with
   | some (.map ks vs) => K (.ref h.length 0) (h.set k .dead ++ [.miter ks vs []])
   | _ => False
  | _ => False
 | .nextMap x => match aeval GL τ x with
  | .ref k 0 => match h[k]? with
   | some (.miter ks vs _) => (ks = [] -> K (.tup [.v (.bool false)]) h) /\ ∀ j, j < ks.length -> K (.tup [.v (.bool true), ks.getD j .any, vs.getD j .any]) (h.set k (.miter (ks.eraseIdx j) (vs.eraseIdx j) [ks.getD j .any, vs.getD j .any]))
   | _ => False
  | _ => False
 | .entryMap x => match aeval GL τ x with
  | .ref k 0 => match h[k]? with
   | some (.miter _ _ [a, b]) => K (.tup [a, b]) h
   | _ => False
  | _ => False
 | .appendS T sz bytes a b => match aeval GL τ b with
  | .str m => match aeval GL τ a with
   | .own k sz' l => match h[k]?, Nat.beq sz' sz with
    | some (.spare T' sz''), true => (T' = T /\ sz'' = sz /\ (l.length + m.length) * bytes <= 2 ^ 47) /\ K (.own h.length sz (l ++ m.map byteA)) (h.set k .dead ++ [.spare T sz])
    | _, _ => False
   | .v (.slice none 0 0) => (m.length * bytes <= 2 ^ 47) /\ K (.own h.length sz (m.map byteA)) (h ++ [.spare T sz])
   | _ => False
  | _ => False
 | .tyAssert T z ok x => match aeval GL τ x, ok with
  | .iface t y, true => match Nat.beq t T with
   | true => K (.tup [y, .v (.bool true)]) h
   | false => K (.tup [z, .v (.bool false)]) h
  | .iface t y, false => match Nat.beq t T with
   | true => K y h
   | false => False
  | .v .nilIface, true => K (.tup [z, .v (.bool false)]) h
  | _, _ => False
 | .sliceV sz x lo hi mx => match vecOf (aeval GL τ x) with
  | some (k, s, a, m) => match h[k]?, Nat.beq s sz, optInt (aeval GL τ) lo 0, optInt (aeval GL τ) hi m with
   | some (.buf _ _ l), true, some i, some j => match mx with
    | none => (0 <= i /\ i <= j /\ a + j <= l.length /\ l.length <= 2 ^ 50) /\ (match Nat.blt (a + i.toNat) l.length with
     | true => K (.view k sz (a + i.toNat) (j.toNat - i.toNat)) h
     | false => K (.sl sz []) h)
    | some _ => match optInt (aeval GL τ) mx 0, hi with
     | some c, some _ => (0 <= i /\ i <= j /\ j <= c /\ a + c <= l.length) /\ K .any h
     | _, _ => False
   | _, _, _, _ => False
  | none => False
 | .clear T sz z x => match vecOf (aeval GL τ x) with
  | some (k, s, a, m) => match h[k]?, Nat.beq s sz with
   | some (.buf T' s' l), true => (T' = T /\ a + m <= l.length) /\ K (.v (.tuple #[])) (h.set k (.buf T s' (put l a (List.replicate m z))))
   | _, _ => False
  | none => match aeval GL τ x with
   | .v (.slice none _ _) => K (.v (.tuple #[])) h
   | _ => False
 | .call _ _ | .callV _ _ | .panic _ | .chk _ _ | .bad => False
inductive CId where
 | fn (f : FuncId)
 | yld (k : Nat)
 | gen (f : FuncId)
abbrev Calling := CId -> List AV -> List AObj -> (ARes -> List AObj -> Prop) -> Prop
def callVal (C : Calling) (x : AV) (args : List AV) (h : List AObj) (R : ARes -> List AObj -> Prop) : Prop :=
 match x with
 | .fn (.func f) first cap => C (.fn f) (first ++ args ++ cap) h R
 | .yld k => C (.yld k) args h R
 | _ => False
def resK (K : AV -> List AObj -> Prop) (Pn : AV -> List AObj -> Prop) (r : ARes) (h : List AObj) : Prop :=
 match r with
 | .val x => K x h
 | .panic x => Pn x h
def eqD (τ : List (Nat × AV)) (d : Option Nat) (x : AV) : Prop :=
 match d with
 | some i => tget τ i = x
 | none => True
def opA (GL : Glob) (C : Calling) (op : AOp) (τ : List (Nat × AV)) (h : List AObj) (K : AV -> List AObj -> Prop) (Pn : AV -> List AObj -> Prop) : Prop :=
 match op with
 | .call f args => C (.fn f) (args.map (aeval GL τ)) h (resK K Pn)
 | .callV x args => callVal C (aeval GL τ x) (args.map (aeval GL τ)) h (resK K Pn)
 | .panic x => match aeval GL τ x with
  | .iface t y => Pn (.iface t y) h
  | _ => False
 | .chk d op => stepA GL op τ h (fun x h' => h' = h /\ eqD τ d x) /\ K (.v undef) h
 | op => stepA GL op τ h K
def opsA (GL : Glob) (C : Calling) : List (Option Nat × Option (Nat × Bool) × AOp) -> List (Nat × AV) -> List AObj -> (List (Nat × AV) -> List AObj -> Prop) -> (AV -> List AObj -> Prop) -> Prop
 | [], τ, h, K, _ => K τ h
 | (d, none, op) :: os, τ, h, K, Pn => opA GL C op τ h (fun x h' => opsA GL C os (aput τ d x) h' K Pn) Pn
 | (d, some (j, b), op) :: os, τ, h, K, Pn => match gdW (tget τ j) b with
  | some t => condP t (opA GL C op τ h (fun x h' => opsA GL C os (aput τ d x) h' K Pn) Pn) (opsA GL C os (aput τ d (.v undef)) h K Pn)
  | none => False
def Wk (GL : Glob) (m : Nat) (τ : List (Nat × AV)) (h : List AObj) (τ' : List (Nat × AV)) (h' : List AObj) : Prop :=
 ∀ E A G w (f : Nat -> Value), Wf GL E A G h w -> (∀ i, Rep E A G w (tget τ i) (f i)) ->
  ∃ E' A' G', Wf GL E' A' G' h' w /\ (∀ i, Rep E' A' G' w (tget τ' i) (f i)) /\ Ext A G w A' G' w /\ m <= E'.n /\
   ∀ k, k < m -> E'.blk k = E.blk k /\ E'.cap k = E.cap k /\ E'.tok k = E.tok k /\ E'.wid k = E.wid k
abbrev Post := AExit -> List (Nat × AV) -> List AObj -> Prop
def kseq (k : List (Nat × AV) -> List AObj -> Prop) (Q : Post) : Post := fun e τ h => match e with
 | .normal => k τ h
 | .exit id => Q (.exit id) τ h
 | .ret => Q .ret τ h
def kblock (id : Nat) (Q : Post) : Post := fun e τ h => match e with
 | .normal => Q .normal τ h
 | .exit id' => match Nat.beq id' id with
  | true => Q .normal τ h
  | false => Q (.exit id') τ h
 | .ret => Q .ret τ h
def kloop (GL : Glob) (m : Nat) (I : List (Nat × AV) -> List AObj -> Nat -> Prop) (n : Nat) (Q : Post) : Post := fun e τ h => match e with
 | .normal => ∃ τ' h' n', n' < n /\ Wk GL m τ h τ' h' /\ I τ' h' n'
 | .exit id => Q (.exit id) τ h
 | .ret => Q .ret τ h
def krange (k : Nat) (Q : Post) (Pn : AV -> List AObj -> Prop) (τ : List (Nat × AV)) : ARes -> List AObj -> Prop := fun r h => match r with
 | .val _ => match h[k]? with
  | some (.loop _ _ _ _ _ .ready none) => Q .normal τ (h.set k .dead)
  | some (.loop _ _ _ _ _ .done (some (.exit id))) => Q (.exit id) τ (h.set k .dead)
  | some (.loop _ _ _ _ _ .done (some .ret)) => Q .ret τ (h.set k .dead)
  | _ => False
 | .panic x => Pn x h
def wpA (GL : Glob) (C : Calling) (m : Nat) : ACode -> (AExit -> List (Nat × AV) -> List AObj -> Prop) -> (AV -> List AObj -> Prop) -> List (Nat × AV) -> List AObj -> Prop
 | .skip, Q, _, τ, h => Q .normal τ h
 | .region ops, Q, Pn, τ, h => opsA GL C ops τ h (Q .normal) Pn
 | .drawn es, Q, Pn, τ, h => ∃ J : List Nat -> List (Nat × AV) -> List AObj -> Prop, J [] τ h /\
   (∀ l τ h i e, J l τ h -> es[i]? = some e -> i ∉ l -> (∀ j ∈ e.2, j ∈ l) -> opsA GL C [e.1] τ h (J (i :: l)) Pn) /\
   ∀ l τ h, J l τ h -> (∀ i, i < es.length -> i ∈ l) -> Q .normal τ h
 | .seq a b, Q, Pn, τ, h => wpA GL C m a (kseq (wpA GL C m b Q Pn) Q) Pn τ h
 | .cond c a b, Q, Pn, τ, h => match aeval GL τ c with
  | .v (.bool t) => condP t (wpA GL C m a Q Pn τ h) (wpA GL C m b Q Pn τ h)
  | _ => False
 | .block id b, Q, Pn, τ, h => wpA GL C m b (kblock id Q) Pn τ h
 | .loop b, Q, Pn, τ, h => ∃ I : List (Nat × AV) -> List AObj -> Nat -> Prop, (∃ τ' h' n, Wk GL m τ h τ' h' /\ I τ' h' n) /\
  ∀ τ h n, I τ h n -> wpA GL C m b (kloop GL m I n Q) Pn τ h
 | .rangeFunc n f ps as bd, Q, Pn, τ, h => match aeval GL τ f with
  | .fn (.func g) first cap => C (.gen g) (first ++ [.yld h.length] ++ cap) (h ++ [.loop τ n ps as bd .ready none]) (krange h.length Q Pn τ)
  | _ => False
 | .exit id, Q, _, τ, h => Q (.exit id) τ h
 | .ret, Q, _, τ, h => Q .ret τ h
def EndRep (E : Env) (A : Nat -> Nat -> Prop) (G : Gd) (w : World) : ARes -> Ending -> Prop
 | .val x, .returned v => Rep E A G w x v
 | .panic x, .panicked [p] => Rep E A G w x p.v /\ p.recovered = false /\ p.goexit = false
 | _, _ => False
def CallA (P : Program) (f : FuncId) (args : Array Value) (w : World) (R : Ending -> World -> Prop) : Prop :=
 ((callFunc f args).run P w = .ok (.enter f args) w /\ Calls P f args w R) ∨ ∃ v w', (callFunc f args).run P w = .ok (.value v) w' /\ R (.returned v) w'
theorem CallA.mono {P : Program} {f : FuncId} {args : Array Value} {w : World} {R R' : Ending -> World -> Prop} (h : CallA P f args w R) (hr : ∀ e w', R e w' -> R' e w') : CallA P f args w R' := by
 rcases h with ⟨h1, h2⟩ | ⟨v, w', h1, h2⟩
 ·exact .inl ⟨h1, h2.mono hr⟩
 ·exact .inr ⟨v, w', h1, hr _ _ h2⟩
def FW (r : Option Nat) : Fence := { Fence.wide with round := r }
def ACall (P : Program) (GL : Glob) (f : FuncId) (args : List AV) (h : List AObj) (R : ARes -> List AObj -> Prop) : Prop :=
 ∀ E A G w (vs : List Value), Wf GL E A G h w -> Reps E A G w args vs ->
  CallA P f vs.toArray w fun e w' => ∃ E' A' G' r h', Wf GL E' A' G' h' w' /\ Ext A G w A' G' w' /\ E.le E' /\ EndRep E' A' G' w' r e /\ R r h'
def AYield (P : Program) (GL : Glob) (k : Nat) (args : List AV) (h : List AObj) (R : ARes -> List AObj -> Prop) : Prop :=
 ∀ E A G w (vs : List Value), Wf GL E A G h w -> Reps E A G w args vs ->
  ∃ f tmps as bd, (Instr.yield (E.blk k) vs.toArray).run P w = .ok (.round (E.blk k) f tmps as bd) w /\ ∀ r n, RoundIn (FW r) n P (E.blk k) f tmps as bd w fun e w' =>
   ∃ E' A' G' r h', Wf GL E' A' G' h' w' /\ Ext A G w A' G' w' /\ E.le E' /\ EndRep E' A' G' w' r e /\ R r h'
def AGen (P : Program) (GL : Glob) (g : FuncId) (args : List AV) (h : List AObj) (R : ARes -> List AObj -> Prop) : Prop :=
 ∀ E A G w (vs : List Value), Wf GL E A G h w -> Reps E A G w args vs ->
  (callFunc g vs.toArray).run P w = .ok (.enter g vs.toArray) w /\ Calls P g vs.toArray w fun e w' =>
   ∃ E' A' G' r h', Wf GL E' A' G' h' w' /\ Ext A G w A' G' w' /\ E.le E' /\ EndRep E' A' G' w' r e /\ R r h'
def AC (P : Program) (GL : Glob) : Calling
 | .fn f => ACall P GL f
 | .yld k => AYield P GL k
 | .gen g => AGen P GL g
inductive ARet where
 | none
 | tmp (t : Nat)
 | cell (t : Nat) (agg : Bool) (n : Nat)
 deriving Inhabited
def retOne (τ : List (Nat × AV)) (h : List AObj) : ARet -> Option AV
 | .tmp t => some (tget τ t)
 | .cell t agg n => match ptrCells h (tget τ t) with
  | some l => loadA agg n l
  | none => Option.none
 | .none => Option.none
def retAll (τ : List (Nat × AV)) (h : List AObj) : List ARet -> Option (List AV)
 | [] => some []
 | r :: rs => match retOne τ h r, retAll τ h rs with
  | some x, some l => some (x :: l)
  | _, _ => Option.none
def retA (τ : List (Nat × AV)) (h : List AObj) (rs : List ARet) : Option AV :=
 match retAll τ h rs with
 | some [x] => some x
 | some l => some (.tup l)
 | none => Option.none
def args0 : Nat -> List AV -> List (Nat × AV)
 | _, [] => []
 | i, x :: xs => (i, x) :: args0 (i + 1) xs
def kret (GL : Glob) (m : Nat) (rs : List ARet) (R : ARes -> List AObj -> Prop) : Post := fun e τ h => match e with
 | .exit _ => False
 | _ => match retA τ h rs with
  | some x => ∃ y h', Wk GL m [(0, x)] h [(0, y)] h' /\ R (.val y) h'
  | none => False
def kpanic (GL : Glob) (m : Nat) (R : ARes -> List AObj -> Prop) : AV -> List AObj -> Prop := fun x h => ∃ y h', Wk GL m [(0, x)] h [(0, y)] h' /\ R (.panic y) h'
def bodyA (GL : Glob) (C : Calling) (c : ACode) (rs : List ARet) (args : List AV) (h : List AObj) (R : ARes -> List AObj -> Prop) : Prop :=
 wpA GL C h.length c (kret GL h.length rs R) (kpanic GL h.length R) (args0 0 args) h
section
variable {GL : Glob} {C : Calling} {os : List (Option Nat × Option (Nat × Bool) × AOp)} {τ : List (Nat × AV)} {h : List AObj} {K : List (Nat × AV) -> List AObj -> Prop} {Pn : AV -> List AObj -> Prop} {d : Option Nat}
def kont (GL : Glob) (C : Calling) (os : List (Option Nat × Option (Nat × Bool) × AOp)) (τ : List (Nat × AV)) (d : Option Nat) (K : List (Nat × AV) -> List AObj -> Prop) (Pn : AV -> List AObj -> Prop) : AV -> List AObj -> Prop :=
 fun x h' => opsA GL C os (aput τ d x) h' K Pn
theorem kont_eq {x : AV} : kont GL C os τ d K Pn x h = opsA GL C os (aput τ d x) h K Pn := rfl
theorem o_nil : opsA GL C [] τ h K Pn = K τ h := rfl
theorem gdW_bool {c b : Bool} : gdW (.v (.bool c)) b = some (c == b) := rfl
theorem gdW_undef {b : Bool} : gdW (.v undef) b = some false := rfl
theorem o_call {f : FuncId} {args : List AOpd} : opsA GL C ((d, none, .call f args) :: os) τ h K Pn = C (.fn f) (args.map (aeval GL τ)) h (resK (kont GL C os τ d K Pn) Pn) := rfl
theorem o_callV {x : AOpd} {args : List AOpd} : opsA GL C ((d, none, .callV x args) :: os) τ h K Pn = callVal C (aeval GL τ x) (args.map (aeval GL τ)) h (resK (kont GL C os τ d K Pn) Pn) := rfl
theorem o_panic {x : AOpd} : opsA GL C ((d, none, .panic x) :: os) τ h K Pn = match aeval GL τ x with
  | .iface t y => Pn (.iface t y) h
  | _ => False := rfl
theorem uI {d' : Option Nat} : ∀ agg n a, opsA GL C ((d, none, .chk d' (.load agg n a)) :: os) τ h K Pn = ((match ptrCells h (aeval GL τ a) with
  | some l => match loadA agg n l with
   | some x => (h = h /\ eqD τ d' x)
   | none => False
  | none => False) /\ opsA GL C os (aput τ d (.v undef)) h K Pn) := fun _ _ _ => rfl
theorem mE {d' : Option Nat} : ∀ sz x i, opsA GL C ((d, none, .chk d' (.indexAddr sz x i)) :: os) τ h K Pn = ((match elemsA h sz (aeval GL τ x), intOfA (aeval GL τ i) with
  | some l, some i => bounds i l.length /\ (h = h /\ eqD τ d' (elemPtr (aeval GL τ x) i.toNat))
  | _, _ => False) /\ opsA GL C os (aput τ d (.v undef)) h K Pn) := fun _ _ _ => rfl
theorem o_chk_len {d' : Option Nat} : ∀ q x, opsA GL C ((d, none, .chk d' (.len q x)) :: os) τ h K Pn = ((match lenA h q (aeval GL τ x) with
  | some n => (h = h /\ eqD τ d' (.v (.int .i64 n)))
  | none => False) /\ opsA GL C os (aput τ d (.v undef)) h K Pn) := fun _ _ => rfl
theorem rL {d' : Option Nat} : ∀ q z x i ok, opsA GL C ((d, none, .chk d' (.lookup q z x i ok)) :: os) τ h K Pn = ((match mapOf h (aeval GL τ x) with
  | some (ks, vs) => match findA q (aeval GL τ i) ks with
   | some (some j) => (h = h /\ eqD τ d' (match ok with
    | true => .tup [vs.getD j .any, .v (.bool true)]
    | false => vs.getD j .any))
   | some none => (h = h /\ eqD τ d' (match ok with
    | true => .tup [z, .v (.bool false)]
    | false => z))
   | none => False
  | none => False) /\ opsA GL C os (aput τ d (.v undef)) h K Pn) := fun _ _ _ _ _ => rfl
theorem eqD_some {x : AV} {i : Nat} : eqD τ (some i) x = (tget τ i = x) := rfl
theorem eqD_none {x : AV} : eqD τ none x = True := rfl
theorem oY : ∀ T sz z len ps, opsA GL C ((d, none, .buildSliceF T sz z len ps) :: os) τ h K Pn = (match fillL sz (List.replicate len z) (ps.map fun (i, x) => (i, aeval GL τ x)) with
  | some l => opsA GL C os (aput τ d (.sl sz l)) h K Pn
  | none => False) := fun _ _ _ _ _ => rfl
theorem wE : ∀ x, opsA GL C ((d, none, .rangeStr x) :: os) τ h K Pn = (match aeval GL τ x with
  | .str l => opsA GL C os (aput τ d (.ref h.length 0)) (h ++ [.siter ⟨l.toArray⟩ 0]) K Pn
  | _ => False) := fun _ => rfl
theorem uN : ∀ x, opsA GL C ((d, none, .rangeMap x) :: os) τ h K Pn = (match aeval GL τ x with
  | .mp k => match h[k]? with
   | some (.map ks vs) => opsA GL C os (aput τ d (.ref h.length 0)) (h.set k .dead ++ [.miter ks vs []]) K Pn
   | _ => False
  | _ => False) := fun _ => rfl
def mnO (GL : Glob) (C : Calling) (d : Option Nat) (k : Nat) (ks vs : List AV) (os : List (Option Nat × Option (Nat × Bool) × AOp)) (τ : List (Nat × AV)) (h : List AObj) (K : List (Nat × AV) -> List AObj -> Prop) (Pn : AV -> List AObj -> Prop) : Prop :=
 (ks = [] -> opsA GL C os (aput τ d (.tup [.v (.bool false)])) h K Pn) /\ ∀ j, j < ks.length -> opsA GL C os (aput τ d (.tup [.v (.bool true), ks.getD j .any, vs.getD j .any])) (h.set k (.miter (ks.eraseIdx j) (vs.eraseIdx j) [ks.getD j .any, vs.getD j .any])) K Pn
theorem o_nextMap : ∀ x, opsA GL C ((d, none, .nextMap x) :: os) τ h K Pn = (match aeval GL τ x with
  | .ref k 0 => match h[k]? with
   | some (.miter ks vs _) => mnO GL C d k ks vs os τ h K Pn
   | _ => False
  | _ => False) := fun _ => rfl
theorem uZ : ∀ x, opsA GL C ((d, none, .entryMap x) :: os) τ h K Pn = (match aeval GL τ x with
  | .ref k 0 => match h[k]? with
   | some (.miter _ _ [a, b]) => opsA GL C os (aput τ d (.tup [a, b])) h K Pn
   | _ => False
  | _ => False) := fun _ => rfl
theorem o_appendS : ∀ T sz bytes a b, opsA GL C ((d, none, .appendS T sz bytes a b) :: os) τ h K Pn = (match aeval GL τ b with
  | .str m => match aeval GL τ a with
   | .own k sz' l => match h[k]?, Nat.beq sz' sz with
    | some (.spare T' sz''), true => (T' = T /\ sz'' = sz /\ (l.length + m.length) * bytes <= 2 ^ 47) /\ opsA GL C os (aput τ d (.own h.length sz (l ++ m.map byteA))) (h.set k .dead ++ [.spare T sz]) K Pn
    | _, _ => False
   | .v (.slice none 0 0) => (m.length * bytes <= 2 ^ 47) /\ opsA GL C os (aput τ d (.own h.length sz (m.map byteA))) (h ++ [.spare T sz]) K Pn
   | _ => False
  | _ => False) := fun _ _ _ _ _ => rfl
theorem vJ : ∀ T z ok x, opsA GL C ((d, none, .tyAssert T z ok x) :: os) τ h K Pn = (match aeval GL τ x, ok with
  | .iface t y, true => match Nat.beq t T with
   | true => opsA GL C os (aput τ d (.tup [y, .v (.bool true)])) h K Pn
   | false => opsA GL C os (aput τ d (.tup [z, .v (.bool false)])) h K Pn
  | .iface t y, false => match Nat.beq t T with
   | true => opsA GL C os (aput τ d y) h K Pn
   | false => False
  | .v .nilIface, true => opsA GL C os (aput τ d (.tup [z, .v (.bool false)])) h K Pn
  | _, _ => False) := fun _ _ _ _ => rfl
theorem o_appendM : ∀ T sz bytes a b, opsA GL C ((d, none, .appendM T sz bytes a b) :: os) τ h K Pn = (match elemsA h sz (aeval GL τ b) with
  | some m => match aeval GL τ a with
   | .vec k sz' n => match h[k]?, Nat.beq sz' sz with
    | some (.buf T' sz'' l), true => (T' = T /\ sz'' = sz /\ n = l.length /\ 0 < l.length + m.length /\ (l.length + m.length) * bytes <= 2 ^ 47) /\ opsA GL C os (aput τ d (.vec h.length sz (l.length + m.length))) (h.set k .dead ++ [.buf T sz (l ++ m)]) K Pn
    | _, _ => False
   | .view k sz' a n => match h[k]?, Nat.beq sz' sz with
    | some (.buf T' sz'' l), true => (T' = T /\ sz'' = sz /\ a = 0 /\ n + m.length <= l.length /\ l.length <= 2 ^ 50) /\ opsA GL C os (aput τ d (.vec k sz (n + m.length))) (h.set k (.buf T sz (put l n m))) K Pn
    | _, _ => False
   | .v (.slice none 0 0) => (0 < m.length /\ m.length * bytes <= 2 ^ 47) /\ opsA GL C os (aput τ d (.vec h.length sz m.length)) (h ++ [.buf T sz m]) K Pn
   | _ => False
  | none => match aeval GL τ b, aeval GL τ a with
   | .v (.slice (some _) 0 _), .vec k sz' n => opsA GL C os (aput τ d (.vec k sz' n)) h K Pn
   | _, _ => False) := fun _ _ _ _ _ => rfl
theorem o_appendB : ∀ T sz bytes a b, opsA GL C ((d, none, .appendB T sz bytes a b) :: os) τ h K Pn = (opsA GL C ((d, none, .append T sz bytes a b) :: os) τ h K Pn ∨ opsA GL C ((d, none, .appendM T sz bytes a b) :: os) τ h K Pn) := fun _ _ _ _ _ => rfl
theorem o_sliceV : ∀ sz x lo hi mx, opsA GL C ((d, none, .sliceV sz x lo hi mx) :: os) τ h K Pn = (match vecOf (aeval GL τ x) with
  | some (k, s, a, m) => match h[k]?, Nat.beq s sz, optInt (aeval GL τ) lo 0, optInt (aeval GL τ) hi m with
   | some (.buf _ _ l), true, some i, some j => match mx with
    | none => (0 <= i /\ i <= j /\ a + j <= l.length /\ l.length <= 2 ^ 50) /\ (match Nat.blt (a + i.toNat) l.length with
     | true => opsA GL C os (aput τ d (.view k sz (a + i.toNat) (j.toNat - i.toNat))) h K Pn
     | false => opsA GL C os (aput τ d (.sl sz [])) h K Pn)
    | some _ => match optInt (aeval GL τ) mx 0, hi with
     | some c, some _ => (0 <= i /\ i <= j /\ j <= c /\ a + c <= l.length) /\ opsA GL C os (aput τ d .any) h K Pn
     | _, _ => False
   | _, _, _, _ => False
  | none => False) := fun _ _ _ _ _ => rfl
theorem o_clear : ∀ T sz z x, opsA GL C ((d, none, .clear T sz z x) :: os) τ h K Pn = (match vecOf (aeval GL τ x) with
  | some (k, s, a, m) => match h[k]?, Nat.beq s sz with
   | some (.buf T' s' l), true => (T' = T /\ a + m <= l.length) /\ opsA GL C os (aput τ d (.v (.tuple #[]))) (h.set k (.buf T s' (put l a (List.replicate m z)))) K Pn
   | _, _ => False
  | none => match aeval GL τ x with
   | .v (.slice none _ _) => opsA GL C os (aput τ d (.v (.tuple #[]))) h K Pn
   | _ => False) := fun _ _ _ _ => rfl
theorem o_bad : opsA GL C ((d, none, .bad) :: os) τ h K Pn = False := rfl
theorem o_move : ∀ x, opsA GL C ((d, none, .move x) :: os) τ h K Pn = (opsA GL C os (aput τ d (aeval GL τ x)) h K Pn) := fun _ => rfl
theorem o_alloc : ∀ T zs, opsA GL C ((d, none, .alloc T zs) :: os) τ h K Pn = (opsA GL C os (aput τ d (.ref h.length 0)) (h ++ [.cells T zs]) K Pn) := fun _ _ => rfl
theorem o_box : ∀ T x, opsA GL C ((d, none, .box T x) :: os) τ h K Pn = (match (aeval GL τ x).solid with
  | true => opsA GL C os (aput τ d (.ref h.length 0)) (h ++ [.cells T (aeval GL τ x).cells]) K Pn
  | false => False) := fun _ _ => rfl
theorem o_build : ∀ zs ps, opsA GL C ((d, none, .build zs ps) :: os) τ h K Pn = (match fillA zs (ps.map fun (o, s, x) => (o, s, aeval GL τ x)) with
  | some cs => opsA GL C os (aput τ d (.agg cs)) h K Pn
  | none => False) := fun _ _ => rfl
theorem qU : ∀ T sz z len ps, opsA GL C ((d, none, .buildSlice T sz z len ps) :: os) τ h K Pn = (match fillL sz (List.replicate len z) (ps.map fun (i, x) => (i, aeval GL τ x)) with
  | some l => opsA GL C os (aput τ d (.own h.length sz l)) (h ++ [.spare T sz]) K Pn
  | none => False) := fun _ _ _ _ _ => rfl
theorem o_load : ∀ agg n a, opsA GL C ((d, none, .load agg n a) :: os) τ h K Pn = (match ptrCells h (aeval GL τ a) with
  | some l => match loadA agg n l with
   | some x => opsA GL C os (aput τ d x) h K Pn
   | none => False
  | none => False) := fun _ _ _ => rfl
theorem o_store : ∀ n a x, opsA GL C ((d, none, .store n a x) :: os) τ h K Pn = (match storeA h n (aeval GL τ a) (aeval GL τ x) with
  | some h' => opsA GL C os (aput τ d (.v undef)) h' K Pn
  | none => False) := fun _ _ _ => rfl
theorem vD : ∀ x, opsA GL C ((d, none, .nilCheck x) :: os) τ h K Pn = (match aeval GL τ x with
  | .ref k o => opsA GL C os (aput τ d (.ref k o)) h K Pn
  | .eref k i o => opsA GL C os (aput τ d (.eref k i o)) h K Pn
  | .pel l => opsA GL C os (aput τ d (.pel l)) h K Pn
  | _ => False) := fun _ => rfl
theorem o_bin : ∀ op q x y, opsA GL C ((d, none, .bin op q x y) :: os) τ h K Pn = (match binA op q (aeval GL τ x) (aeval GL τ y) with
  | some r => opsA GL C os (aput τ d r) h K Pn
  | none => False) := fun _ _ _ _ => rfl
theorem o_un : ∀ op x, opsA GL C ((d, none, .un op x) :: os) τ h K Pn = (match unA op (aeval GL τ x) with
  | some r => opsA GL C os (aput τ d r) h K Pn
  | none => False) := fun _ _ => rfl
theorem o_conv : ∀ k x, opsA GL C ((d, none, .conv k x) :: os) τ h K Pn = (match aeval GL τ x with
  | .v (.int _ n) => opsA GL C os (aput τ d (.v (.int k (k.wrap n)))) h K Pn
  | _ => False) := fun _ _ => rfl
theorem o_runeStr : ∀ x, opsA GL C ((d, none, .toStr false x) :: os) τ h K Pn = (match aeval GL τ x with
  | .v (.int _ n) => opsA GL C os (aput τ d (.str (Utf8.encode n).data.toList)) h K Pn
  | _ => False) := fun _ => rfl
theorem vK : ∀ x, opsA GL C ((d, none, .toStr true x) :: os) τ h K Pn = (match elemsA h 1 (aeval GL τ x) with
  | some l => match bytesA l with
   | some bs => opsA GL C os (aput τ d (.str bs)) h K Pn
   | none => False
  | none => False) := fun _ => rfl
theorem o_mkIface : ∀ T x, opsA GL C ((d, none, .mkIface T x) :: os) τ h K Pn = (opsA GL C os (aput τ d (.iface T (aeval GL τ x))) h K Pn) := fun _ _ => rfl
theorem o_mkFunc : ∀ f a b, opsA GL C ((d, none, .mkFunc f a b) :: os) τ h K Pn = (opsA GL C os (aput τ d (.fn (.func f) (a.map (aeval GL τ)) (b.map (aeval GL τ)))) h K Pn) := fun _ _ _ => rfl
theorem o_mkMap : opsA GL C ((d, none, .mkMap) :: os) τ h K Pn = (opsA GL C os (aput τ d (.mp h.length)) (h ++ [.map [] []]) K Pn) := rfl
theorem o_mkSlice : ∀ T sz bytes z l c, opsA GL C ((d, none, .mkSlice T sz bytes z l c) :: os) τ h K Pn = (match intOfA (aeval GL τ l), intOfA (aeval GL τ c) with
  | some l, some c => (0 <= l /\ c = l /\ l * bytes <= 2 ^ 47) /\ opsA GL C os (aput τ d (.vec h.length sz l.toNat)) (h ++ [.buf T sz (List.replicate l.toNat z)]) K Pn
  | _, _ => False) := fun _ _ _ _ _ _ => rfl
theorem wO : ∀ x lo hi, opsA GL C ((d, none, .sliceStr x lo hi) :: os) τ h K Pn = (match aeval GL τ x with
  | .str l => match optInt (aeval GL τ) lo 0, optInt (aeval GL τ) hi l.length with
   | some a, some b => (0 <= a /\ a <= b /\ b <= l.length) /\ opsA GL C os (aput τ d (.str ((l.drop a.toNat).take (b.toNat - a.toNat)))) h K Pn
   | _, _ => False
  | _ => False) := fun _ _ _ => rfl
theorem o_slice : ∀ sz x lo hi mx, opsA GL C ((d, none, .slice sz x lo hi mx) :: os) τ h K Pn = (match aeval GL τ x, mx with
  | .v (.slice none 0 0), none => match optInt (aeval GL τ) lo 0, optInt (aeval GL τ) hi 0 with
   | some a, some b => (a = 0 /\ b = 0) /\ opsA GL C os (aput τ d (.v (.slice none 0 0))) h K Pn
   | _, _ => False
  | .vec k s m, none => match hi with
   | some _ => match optInt (aeval GL τ) lo 0, optInt (aeval GL τ) hi m, h[k]?, Nat.beq s sz with
    | some a, some b, some (.buf T _s' l), true => (a = 0 /\ 0 <= b /\ b <= m /\ m <= l.length) /\ opsA GL C os (aput τ d (.own h.length sz (l.take b.toNat))) (h.set k .dead ++ [.spare T sz]) K Pn
    | _, _, _, _ => False
   | none => match optInt (aeval GL τ) lo 0, h[k]?, Nat.beq s sz with
    | some a, some (.buf _ _ l), true => (0 <= a /\ a < m /\ m <= l.length) /\ opsA GL C os (aput τ d (.view k sz a.toNat (m - a.toNat))) h K Pn
    | _, _, _ => False
  | y, none => match slA sz y with
   | some l => match optInt (aeval GL τ) lo 0, optInt (aeval GL τ) hi l.length with
    | some a, some b => (0 <= a /\ a <= b /\ b <= l.length) /\ opsA GL C os (aput τ d (.sl sz ((l.drop a.toNat).take (b.toNat - a.toNat)))) h K Pn
    | _, _ => False
   | none => False
  | y, some _ => match slA sz y, hi with
   | some l, some _ => match optInt (aeval GL τ) lo 0, optInt (aeval GL τ) hi 0, optInt (aeval GL τ) mx 0 with
    | some a, some b, some c => (0 <= a /\ a <= b /\ b <= c /\ c <= l.length) /\ opsA GL C os (aput τ d (.sl sz ((l.drop a.toNat).take (b.toNat - a.toNat)))) h K Pn
    | _, _, _ => False
   | _, _ => False) := fun _ _ _ _ _ => rfl
theorem o_sliceQ : ∀ sz x lo hi mx, opsA GL C ((d, none, .sliceQ sz x lo hi mx) :: os) τ h K Pn = (match slA sz (aeval GL τ x), mx with
  | some l, none => match optInt (aeval GL τ) lo 0, optInt (aeval GL τ) hi l.length with
   | some a, some b => (0 <= a /\ a <= b /\ b <= l.length) /\ opsA GL C os (aput τ d (.sl sz ((l.drop a.toNat).take (b.toNat - a.toNat)))) h K Pn
   | _, _ => False
  | _, _ => False) := fun _ _ _ _ _ => rfl
theorem wI : ∀ n sz x lo hi, opsA GL C ((d, none, .sliceArr n sz x lo hi) :: os) τ h K Pn = (match aeval GL τ x with
  | .pel l => match optInt (aeval GL τ) lo 0, optInt (aeval GL τ) hi n, Nat.beq sz 1, Nat.ble n l.length with
   | some a, some b, true, true => (0 <= a /\ a <= b /\ b <= n) /\ opsA GL C os (aput τ d (.sl 1 ((l.drop a.toNat).take (b.toNat - a.toNat)))) h K Pn
   | _, _, _, _ => False
  | _ => False) := fun _ _ _ _ _ => rfl
theorem uD : ∀ off x, opsA GL C ((d, none, .fieldAddr off x) :: os) τ h K Pn = (match ptrAdd off (aeval GL τ x) with
  | some r => opsA GL C os (aput τ d r) h K Pn
  | none => False) := fun _ _ => rfl
theorem o_field : ∀ agg off n x, opsA GL C ((d, none, .field agg off n x) :: os) τ h K Pn = (match aeval GL τ x with
  | .agg l => match loadA agg n (l.drop off) with
   | some r => opsA GL C os (aput τ d r) h K Pn
   | none => False
  | _ => False) := fun _ _ _ _ => rfl
theorem uE : ∀ sz x i, opsA GL C ((d, none, .indexAddr sz x i) :: os) τ h K Pn = (match elemsA h sz (aeval GL τ x), intOfA (aeval GL τ i) with
  | some l, some i => bounds i l.length /\ opsA GL C os (aput τ d (elemPtr (aeval GL τ x) i.toNat)) h K Pn
  | _, _ => False) := fun _ _ _ => rfl
theorem nP : ∀ len sz x i, opsA GL C ((d, none, .indexAddrArr len sz x i) :: os) τ h K Pn = (match intOfA (aeval GL τ i) with
  | some i => bounds i len /\ (match ptrAdd (i.toNat * sz) (aeval GL τ x) with
   | some r => opsA GL C os (aput τ d r) h K Pn
   | none => False)
  | none => False) := fun _ _ _ _ => rfl
theorem wK : ∀ agg len sz x i, opsA GL C ((d, none, .indexArr agg len sz x i) :: os) τ h K Pn = (match aeval GL τ x, intOfA (aeval GL τ i) with
  | .agg l, some i => bounds i len /\ (match loadA agg sz (l.drop (i.toNat * sz)) with
   | some r => opsA GL C os (aput τ d r) h K Pn
   | none => False)
  | _, _ => False) := fun _ _ _ _ _ => rfl
theorem vB : ∀ x i, opsA GL C ((d, none, .indexStr x i) :: os) τ h K Pn = (match aeval GL τ x, intOfA (aeval GL τ i) with
  | .str l, some i => bounds i l.length /\ opsA GL C os (aput τ d (.v (.int .u8 (l.getD i.toNat 0).toNat))) h K Pn
  | _, _ => False) := fun _ _ => rfl
theorem o_lookup : ∀ q z x i ok, opsA GL C ((d, none, .lookup q z x i ok) :: os) τ h K Pn = (match mapOf h (aeval GL τ x) with
  | some (ks, vs) => match findA q (aeval GL τ i) ks with
   | some (some j) => opsA GL C os (aput τ d (match ok with
    | true => .tup [vs.getD j .any, .v (.bool true)]
    | false => vs.getD j .any)) h K Pn
   | some none => opsA GL C os (aput τ d (match ok with
    | true => .tup [z, .v (.bool false)]
    | false => z)) h K Pn
   | none => False
  | none => False) := fun _ _ _ _ _ => rfl
theorem rY : ∀ q m k x, opsA GL C ((d, none, .mapUpdate q m k x) :: os) τ h K Pn = (match aeval GL τ m with
  | .mp j => match h[j]? with
   | some (.map ks vs) => match findA q (aeval GL τ k) ks with
    | some (some i) => opsA GL C os (aput τ d (.v undef)) (h.set j (.map ks (vs.set i (aeval GL τ x)))) K Pn
    | some none => opsA GL C os (aput τ d (.v undef)) (h.set j (.map (ks ++ [aeval GL τ k]) (vs ++ [aeval GL τ x]))) K Pn
    | none => False
   | _ => False
  | _ => False) := fun _ _ _ _ => rfl
theorem o_extract : ∀ x i, opsA GL C ((d, none, .extract x i) :: os) τ h K Pn = (match aeval GL τ x with
  | .tup l => match l[i]? with
   | some r => opsA GL C os (aput τ d r) h K Pn
   | none => False
  | _ => False) := fun _ _ => rfl
theorem o_append : ∀ T sz bytes a b, opsA GL C ((d, none, .append T sz bytes a b) :: os) τ h K Pn = (match elemsA h sz (aeval GL τ b) with
  | some m => match aeval GL τ a with
   | .own k sz' l => match h[k]?, Nat.beq sz' sz with
    | some (.spare T' sz''), true => (T' = T /\ sz'' = sz /\ (l.length + m.length) * bytes <= 2 ^ 47) /\ opsA GL C os (aput τ d (.own h.length sz (l ++ m))) (h.set k .dead ++ [.spare T sz]) K Pn
    | _, _ => False
   | .v (.slice none 0 0) => (m.length * bytes <= 2 ^ 47) /\ opsA GL C os (aput τ d (.own h.length sz m)) (h ++ [.spare T sz]) K Pn
   | _ => False
  | none => False) := fun _ _ _ _ _ => rfl
theorem o_len : ∀ q x, opsA GL C ((d, none, .len q x) :: os) τ h K Pn = (match lenA h q (aeval GL τ x) with
  | some n => opsA GL C os (aput τ d (.v (.int .i64 n))) h K Pn
  | none => False) := fun _ _ => rfl
theorem o_max : ∀ x y, opsA GL C ((d, none, .max x y) :: os) τ h K Pn = (match aeval GL τ x, aeval GL τ y with
  | .v (.int k a), .v (.int _ b) => opsA GL C os (aput τ d (.v (.int k (imax a b)))) h K Pn
  | _, _ => False) := fun _ _ => rfl
theorem o_min : ∀ x y, opsA GL C ((d, none, .min x y) :: os) τ h K Pn = (match aeval GL τ x, aeval GL τ y with
  | .v (.int k a), .v (.int _ b) => opsA GL C os (aput τ d (.v (.int k (imin a b)))) h K Pn
  | _, _ => False) := fun _ _ => rfl
end
section
variable {GL : Glob} {C : Calling} {m : Nat} {Q : Post} {Pn : AV -> List AObj -> Prop} {τ : List (Nat × AV)} {h : List AObj} {k : List (Nat × AV) -> List AObj -> Prop}
variable {I : List (Nat × AV) -> List AObj -> Nat -> Prop} {n : Nat}
variable {rs : List ARet} {R : ARes -> List AObj -> Prop}
theorem k_ret_r : kret GL m rs R .ret τ h = match retA τ h rs with
  | some x => ∃ y h', Wk GL m [(0, x)] h [(0, y)] h' /\ R (.val y) h'
  | none => False := rfl
theorem k_ret_n : kret GL m rs R .normal τ h = match retA τ h rs with
  | some x => ∃ y h', Wk GL m [(0, x)] h [(0, y)] h' /\ R (.val y) h'
  | none => False := rfl
end
theorem tget_cons (j : Nat) (x : AV) (r : List (Nat × AV)) (i : Nat) : tget ((j, x) :: r) i = match Nat.beq i j with
  | true => x
  | false => tget r i := rfl
section
variable (n : Nat)
mutual
def bd : AV -> Prop
 | .any => True
 | .v _ => True
 | .str _ => True
 | .agg l => bds l
 | .tup l => bds l
 | .sl _ l => bds l
 | .own k _ l => k < n /\ bds l
 | .pel l => bds l
 | .ref k _ => k < n
 | .eref k _ _ => k < n
 | .vec k _ _ => k < n
 | .view k _ _ _ => k < n
 | .mp k => k < n
 | .imp ks vs => bds ks /\ bds vs
 | .fn _ a b => bds a /\ bds b
 | .yld k => k < n
 | .iface _ x => bd x
def bds : List AV -> Prop
 | [] => True
 | x :: xs => bd x /\ bds xs
end
end
section
variable (κ : Nat -> Nat)
mutual
def ren : AV -> AV
 | .any => .any
 | .v x => .v x
 | .str l => .str l
 | .agg l => .agg (rens l)
 | .tup l => .tup (rens l)
 | .sl sz l => .sl sz (rens l)
 | .own k sz l => .own (κ k) sz (rens l)
 | .pel l => .pel (rens l)
 | .ref k o => .ref (κ k) o
 | .eref k i o => .eref (κ k) i o
 | .vec k sz m => .vec (κ k) sz m
 | .view k sz a m => .view (κ k) sz a m
 | .mp k => .mp (κ k)
 | .imp ks vs => .imp (rens ks) (rens vs)
 | .fn f a b => .fn f (rens a) (rens b)
 | .yld k => .yld (κ k)
 | .iface t x => .iface t (ren x)
def rens : List AV -> List AV
 | [] => []
 | x :: xs => ren x :: rens xs
end
end
mutual
def wkr : AV -> AV -> Prop
 | _, .any => True
 | .own _ sz l, .sl sz' l' => sz = sz' /\ l = l'
 | .v (.slice none 0 0), .sl _ l' => l' = []
 | .agg l, .agg l' => wkrs l l'
 | .tup l, .tup l' => wkrs l l'
 | x, y => x = y
def wkrs : List AV -> List AV -> Prop
 | [], [] => True
 | x :: xs, y :: ys => wkr x y /\ wkrs xs ys
 | _, _ => False
end
section
variable {E E' : Env} {A : Nat -> Nat -> Prop} {G : Gd} {w : World} {κ : Nat -> Nat}
theorem fM (x : AV) : (ren κ x).cells = rens κ x.cells := by cases x <;> simp [ren, AV.cells, rens]
theorem bH : ∀ l : List AV, (rens κ l).length = l.length
 | [] => rfl
 | x :: xs => by simp [rens, bH xs]
mutual
theorem Rep.ren (hE : ∀ k, k < E'.n -> κ k < E.n -> E'.blk k = E.blk (κ k) /\ E'.cap k = E.cap (κ k) /\ E'.tok k = E.tok (κ k) /\ E'.wid k = E.wid (κ k)) :
  ∀ (x : AV) (v : Value), bd E'.n x -> Rep E A G w (ren κ x) v -> Rep E' A G w x v
 | .any, _, _, _ => by simp [Rep]
 | .v x, _, _, h => by simpa [Rip.ren, Rep] using h
 | .str l, _, _, h => by simpa [Rip.ren, Rep] using h
 | .agg l, _, hb, h => by
  simp only [Rip.ren, Rep, bd] at h hb ⊢
  obtain ⟨cs, rfl, ho, h⟩ := h
  exact ⟨cs, rfl, ho, Reps.ren hE l _ hb h⟩
 | .tup l, _, hb, h => by
  simp only [Rip.ren, Rep, bd] at h hb ⊢
  obtain ⟨cs, rfl, h⟩ := h
  exact ⟨cs, rfl, Reps.ren hE l _ hb h⟩
 | .sl sz l, _, hb, h => by
  simp only [Rip.ren, Rep, bd] at h hb ⊢
  obtain ⟨p, n, c, rfl, h1, h2, h3, h⟩ := h
  refine ⟨p, n, c, rfl, by rw [h1, bH], h2, h3, ?_⟩
  rcases h with h | ⟨b, o, hp, h⟩
  ·cases l with
   | nil => exact .inl rfl
   | cons x xs => simp [rens] at h
  ·exact .inr ⟨b, o, hp, RepL.ren hE sz l b o hb h⟩
 | .own k sz l, _, hb, h => by
  simp only [Rip.ren, Rep, bd] at h hb ⊢
  obtain ⟨hk, hv, p, n, c, rfl, h1, h2, h3, h⟩ := h
  refine ⟨hb.1, by rw [(hE k hb.1 hk).2.2.1]; exact hv, p, n, c, rfl, by rw [h1, bH], h2, h3, ?_⟩
  rcases h with h | ⟨b, o, hp, h⟩
  ·cases l with
   | nil => exact .inl rfl
   | cons x xs => simp [rens] at h
  ·exact .inr ⟨b, o, hp, RepL.ren hE sz l b o hb.2 h⟩
 | .pel l, _, hb, h => by
  simp only [Rip.ren, Rep, bd] at h hb ⊢
  obtain ⟨b, o, rfl, h⟩ := h
  exact ⟨b, o, rfl, RepC.ren hE l b o hb h⟩
 | .ref k off, _, hb, h => by
  simp only [Rip.ren, Rep, bd] at h hb ⊢
  obtain ⟨hk, rfl⟩ := h
  exact ⟨hb, by rw [(hE k hb hk).1]⟩
 | .eref k i off, _, hb, h => by
  simp only [Rip.ren, Rep, bd] at h hb ⊢
  obtain ⟨hk, rfl⟩ := h
  exact ⟨hb, by rw [(hE k hb hk).1, (hE k hb hk).2.2.2]⟩
 | .vec k sz m, _, hb, h => by
  simp only [Rip.ren, Rep, bd] at h hb ⊢
  obtain ⟨hk, h1, rfl, h2, h3⟩ := h
  exact ⟨hb, by rw [(hE k hb hk).2.2.2, h1], by rw [(hE k hb hk).1, (hE k hb hk).2.1], by rw [(hE k hb hk).2.1]; exact h2, h3.1, by rw [(hE k hb hk).2.1]; exact h3.2⟩
 | .view k sz a m, _, hb, h => by
  simp only [Rip.ren, Rep, bd] at h hb ⊢
  obtain ⟨hk, h1, rfl, h2, h3⟩ := h
  exact ⟨hb, by rw [(hE k hb hk).2.2.2, h1], by rw [(hE k hb hk).1, (hE k hb hk).2.1], by rw [(hE k hb hk).2.1]; exact h2, h3.1, by rw [(hE k hb hk).2.1]; exact h3.2⟩
 | .mp k, _, hb, h => by
  simp only [Rip.ren, Rep, bd] at h hb ⊢
  obtain ⟨hk, rfl⟩ := h
  exact ⟨hb, by rw [(hE k hb hk).1]⟩
 | .imp ks vs, _, hb, h => by
  simp only [Rip.ren, Rep, bd] at h hb ⊢
  obtain ⟨b, es, cl, rfl, hg, hw, h1, h2⟩ := h
  exact ⟨b, es, cl, rfl, hg, hw, Reps.ren hE ks _ hb.1 h1, Reps.ren hE vs _ hb.2 h2⟩
 | .fn f a b, _, hb, h => by
  simp only [Rip.ren, Rep, bd] at h hb ⊢
  obtain ⟨x, y, rfl, h1, h2⟩ := h
  exact ⟨x, y, rfl, Reps.ren hE a _ hb.1 h1, Reps.ren hE b _ hb.2 h2⟩
 | .yld k, _, hb, h => by
  simp only [Rip.ren, Rep, bd] at h hb ⊢
  obtain ⟨hk, rfl⟩ := h
  exact ⟨hb, by rw [(hE k hb hk).1]⟩
 | .iface t x, _, hb, h => by
  simp only [Rip.ren, Rep, bd] at h hb ⊢
  obtain ⟨u, rfl, h⟩ := h
  exact ⟨u, rfl, Rep.ren hE x u hb h⟩
theorem Reps.ren (hE : ∀ k, k < E'.n -> κ k < E.n -> E'.blk k = E.blk (κ k) /\ E'.cap k = E.cap (κ k) /\ E'.tok k = E.tok (κ k) /\ E'.wid k = E.wid (κ k)) :
  ∀ (l : List AV) (vs : List Value), bds E'.n l -> Reps E A G w (rens κ l) vs -> Reps E' A G w l vs
 | [], _, _, h => by simpa [rens, Reps] using h
 | x :: xs, _, hb, h => by
  simp only [rens, Reps, bds] at h hb ⊢
  obtain ⟨u, us, rfl, h1, h2⟩ := h
  exact ⟨u, us, rfl, Rep.ren hE x u hb.1 h1, Reps.ren hE xs us hb.2 h2⟩
theorem RepC.ren (hE : ∀ k, k < E'.n -> κ k < E.n -> E'.blk k = E.blk (κ k) /\ E'.cap k = E.cap (κ k) /\ E'.tok k = E.tok (κ k) /\ E'.wid k = E.wid (κ k)) :
  ∀ (l : List AV) (b o : Nat), bds E'.n l -> RepC E A G w b o (rens κ l) -> RepC E' A G w b o l
 | [], _, _, _, _ => by simp [RepC]
 | x :: xs, b, o, hb, h => by
  simp only [rens, RepC, bds] at h hb ⊢
  obtain ⟨⟨u, hc, ha, ho, h1⟩, h2⟩ := h
  exact ⟨⟨u, hc, ha, ho, Rep.ren hE x u hb.1 h1⟩, RepC.ren hE xs b (o + 1) hb.2 h2⟩
theorem RepL.ren (hE : ∀ k, k < E'.n -> κ k < E.n -> E'.blk k = E.blk (κ k) /\ E'.cap k = E.cap (κ k) /\ E'.tok k = E.tok (κ k) /\ E'.wid k = E.wid (κ k)) (sz : Nat) :
  ∀ (l : List AV) (b o : Nat), bds E'.n l -> RepL E A G w sz b o (rens κ l) -> RepL E' A G w sz b o l
 | [], _, _, _, _ => by simp [RepL]
 | .agg cs :: xs, b, o, hb, h => by
  simp only [rens, Rip.ren, RepL, bds, bd, bH] at h hb ⊢
  exact ⟨h.1, RepC.ren hE cs b o hb.1 h.2.1, RepL.ren hE sz xs b (o + sz) hb.2 h.2.2⟩
 | .any :: xs, b, o, hb, h | .v _ :: xs, b, o, hb, h | .str _ :: xs, b, o, hb, h | .tup _ :: xs, b, o, hb, h | .sl _ _ :: xs, b, o, hb, h | .own _ _ _ :: xs, b, o, hb, h | .pel _ :: xs, b, o, hb, h
 | .ref _ _ :: xs, b, o, hb, h | .eref _ _ _ :: xs, b, o, hb, h | .vec _ _ _ :: xs, b, o, hb, h | .view _ _ _ _ :: xs, b, o, hb, h | .mp _ :: xs, b, o, hb, h | .imp _ _ :: xs, b, o, hb, h | .fn _ _ _ :: xs, b, o, hb, h
 | .yld _ :: xs, b, o, hb, h | .iface _ _ :: xs, b, o, hb, h => by
  rw [rens, cG, fM] at h
  rw [bds] at hb
  obtain ⟨h0, h1, h2⟩ := h
  rw [cG]
  have h1' := RepC.get h1 (i := 0) (x := Rip.ren κ _) (by simp only [AV.cells, rens, List.getElem?_cons_zero]; rfl)
  obtain ⟨u, hc, ha, ho, hr⟩ := h1'
  refine ⟨by simpa [AV.cells, rens] using h0, ?_, RepL.ren hE sz xs b (o + sz) hb.2 h2⟩
  simp only [AV.cells, RepC]
  exact ⟨⟨u, hc, ha, ho, Rep.ren hE _ u hb.1 hr⟩, trivial⟩
end
end
section
variable {E : Env} {A : Nat -> Nat -> Prop} {G : Gd} {w : World}
mutual
theorem Rep.wk : ∀ (x y : AV) (v : Value), wkr x y -> Rep E A G w x v -> Rep E A G w y v
 | x, .any, v, _, _ => by simp [Rep]
 | .agg l, .agg l', v, h, hr => by
  simp only [wkr] at h
  simp only [Rep] at hr ⊢
  obtain ⟨cs, rfl, ho, hr⟩ := hr
  exact ⟨cs, rfl, ho, Reps.wk l l' _ h hr⟩
 | .tup l, .tup l', v, h, hr => by
  simp only [wkr] at h
  simp only [Rep] at hr ⊢
  obtain ⟨cs, rfl, hr⟩ := hr
  exact ⟨cs, rfl, Reps.wk l l' _ h hr⟩
 | x, .sl sz' l', v, h, hr => by
  unfold wkr at h
  split at h
  ·cases ‹AV.sl _ _ = AV.any›
  ·rename_i k sz l sz'' l'' he
   injection he with h1 h2
   subst h1; subst h2
   obtain ⟨rfl, rfl⟩ := h
   simp only [Rep] at hr ⊢
   exact hr.2.2
  ·rename_i l'' he
   injection he with h1 h2
   subst h1; subst h2; subst h
   simp only [Rep] at hr ⊢
   subst hr
   exact ⟨none, 0, 0, rfl, rfl, Nat.le_refl _, by decide, .inl trivial⟩
  ·rename_i he; cases he
  ·rename_i he; cases he
  ·subst h; exact hr
 | x, .v y, v, h, hr => by
  have : x = .v y := by cases x <;> simp_all [wkr]
  subst this; exact hr
 | x, .str y, v, h, hr => by
  have : x = .str y := by cases x <;> simp_all [wkr]
  subst this; exact hr
 | .any, .agg l', v, h, hr | .v _, .agg l', v, h, hr | .str _, .agg l', v, h, hr | .tup _, .agg l', v, h, hr | .sl _ _, .agg l', v, h, hr | .own _ _ _, .agg l', v, h, hr | .pel _, .agg l', v, h, hr
 | .ref _ _, .agg l', v, h, hr | .eref _ _ _, .agg l', v, h, hr | .vec _ _ _, .agg l', v, h, hr | .view _ _ _ _, .agg l', v, h, hr | .mp _, .agg l', v, h, hr | .imp _ _, .agg l', v, h, hr | .fn _ _ _, .agg l', v, h, hr
 | .yld _, .agg l', v, h, hr | .iface _ _, .agg l', v, h, hr => by simp [wkr] at h
 | .any, .tup l', v, h, hr | .v _, .tup l', v, h, hr | .str _, .tup l', v, h, hr | .agg _, .tup l', v, h, hr | .sl _ _, .tup l', v, h, hr | .own _ _ _, .tup l', v, h, hr | .pel _, .tup l', v, h, hr
 | .ref _ _, .tup l', v, h, hr | .eref _ _ _, .tup l', v, h, hr | .vec _ _ _, .tup l', v, h, hr | .view _ _ _ _, .tup l', v, h, hr | .mp _, .tup l', v, h, hr | .imp _ _, .tup l', v, h, hr | .fn _ _ _, .tup l', v, h, hr
 | .yld _, .tup l', v, h, hr | .iface _ _, .tup l', v, h, hr => by simp [wkr] at h
 | x, .own k sz l, v, h, hr => by
  have : x = .own k sz l := by cases x <;> simp_all [wkr]
  subst this; exact hr
 | x, .pel l, v, h, hr => by
  have : x = .pel l := by cases x <;> simp_all [wkr]
  subst this; exact hr
 | x, .ref k o, v, h, hr => by
  have : x = .ref k o := by cases x <;> simp_all [wkr]
  subst this; exact hr
 | x, .eref k i o, v, h, hr => by
  have : x = .eref k i o := by cases x <;> simp_all [wkr]
  subst this; exact hr
 | x, .vec k i o, v, h, hr => by
  have : x = .vec k i o := by cases x <;> simp_all [wkr]
  subst this; exact hr
 | x, .view k i a o, v, h, hr => by
  have : x = .view k i a o := by cases x <;> simp_all [wkr]
  subst this; exact hr
 | x, .mp k, v, h, hr => by
  have : x = .mp k := by cases x <;> simp_all [wkr]
  subst this; exact hr
 | x, .imp ks vs, v, h, hr => by
  have : x = .imp ks vs := by cases x <;> simp_all [wkr]
  subst this; exact hr
 | x, .fn f a b, v, h, hr => by
  have : x = .fn f a b := by cases x <;> simp_all [wkr]
  subst this; exact hr
 | x, .yld k, v, h, hr => by
  have : x = .yld k := by cases x <;> simp_all [wkr]
  subst this; exact hr
 | x, .iface t y, v, h, hr => by
  have : x = .iface t y := by cases x <;> simp_all [wkr]
  subst this; exact hr
theorem Reps.wk : ∀ (l l' : List AV) (vs : List Value), wkrs l l' -> Reps E A G w l vs -> Reps E A G w l' vs
 | [], [], _, _, hr => hr
 | x :: xs, y :: ys, _, h, hr => by
  simp only [wkrs] at h
  simp only [Reps] at hr ⊢
  obtain ⟨u, us, rfl, h1, h2⟩ := hr
  exact ⟨u, us, rfl, Rep.wk x y u h.1 h1, Reps.wk xs ys us h.2 h2⟩
 | [], _ :: _, _, h, _ => by simp [wkrs] at h
 | _ :: _, [], _, h, _ => by simp [wkrs] at h
end
end
def bdT (n : Nat) : List (Nat × AV) -> Prop
 | [] => True
 | (_, x) :: r => bd n x /\ bdT n r
def renT (κ : Nat -> Nat) : List (Nat × AV) -> List (Nat × AV)
 | [] => []
 | (i, x) :: r => (i, ren κ x) :: renT κ r
theorem lA {κ : Nat -> Nat} {i : Nat} : ∀ {τ : List (Nat × AV)}, tget (renT κ τ) i = ren κ (tget τ i)
 | [] => by simp [renT, tget, ren]
 | (j, x) :: r => by
  simp only [renT, tget]
  split
  ·rfl
  ·exact lA
theorem bdT_get {n i : Nat} : ∀ {τ : List (Nat × AV)}, bdT n τ -> bd n (tget τ i)
 | [], _ => by simp [tget, bd]
 | (j, x) :: r, h => by
  simp only [bdT] at h
  simp only [tget]
  split
  ·exact h.1
  ·exact bdT_get h.2
def bdO (n : Nat) : AObj -> Prop
 | .cells _ l => bds n l
 | .buf _ _ l => bds n l
 | .map ks vs => bds n ks /\ bds n vs
 | .miter ks vs last => bds n ks /\ bds n vs /\ bds n last
 | .loop τ _ _ _ _ _ _ => bdT n τ
 | _ => True
def renO (κ : Nat -> Nat) : AObj -> AObj
 | .cells T l => .cells T (rens κ l)
 | .buf T sz l => .buf T sz (rens κ l)
 | .map ks vs => .map (rens κ ks) (rens κ vs)
 | .miter ks vs last => .miter (rens κ ks) (rens κ vs) (rens κ last)
 | .loop τ n ps as bd st pd => .loop (renT κ τ) n ps as bd st pd
 | x => x
def wkO : AObj -> AObj -> Prop
 | _, .dead => True
 | .cells T l, .cells T' l' => T = T' /\ wkrs l l'
 | x, y => x = y
theorem nZ {n : Nat} : ∀ {l l' : List AV}, bds n (l ++ l') ↔ bds n l /\ bds n l'
 | [], l' => by simp [bds]
 | x :: xs, l' => by simp [bds, nZ, and_assoc]
theorem lJ {κ : Nat -> Nat} : ∀ {l l' : List AV}, rens κ (l ++ l') = rens κ l ++ rens κ l'
 | [], l' => by simp [rens]
 | x :: xs, l' => by simp [rens, lJ]
theorem bds_cells {n : Nat} {x : AV} : bds n x.cells ↔ bd n x := by cases x <;> simp [AV.cells, bds, bd]
theorem gF {κ : Nat -> Nat} : ∀ {l : List AV}, (rens κ l).flatMap AV.cells = rens κ (l.flatMap AV.cells)
 | [] => rfl
 | x :: xs => by simp [rens, List.flatMap_cons, lJ, fM, gF]
theorem bds_flatMap {n : Nat} : ∀ {l : List AV}, bds n (l.flatMap AV.cells) ↔ bds n l
 | [] => by simp [bds]
 | x :: xs => by simp [List.flatMap_cons, nZ, bds_cells, bds, bds_flatMap]
theorem ORel.wk {E : Env} {A : Nat -> Nat -> Prop} {G : Gd} {w : World} {k : Nat} {x y : AObj} (h : wkO x y) (hr : ORel E A G w k x) : ORel E A G w k y := by
 cases y with
 | dead => trivial
 | cells T l' =>
  cases x <;> simp only [wkO, reduceCtorEq] at h
  obtain ⟨rfl, h⟩ := h
  obtain ⟨cs, h1, h9, h2, h3⟩ := hr
  exact ⟨cs, h1, h9, h2.wk _ _ _ h, h3⟩
 | buf T sz l => cases x <;> simp only [wkO, reduceCtorEq] at h; cases h; exact hr
 | map ks vs => cases x <;> simp only [wkO, reduceCtorEq] at h; cases h; exact hr
 | siter s p => cases x <;> simp only [wkO, reduceCtorEq] at h; cases h; exact hr
 | miter ks vs last => cases x <;> simp only [wkO, reduceCtorEq] at h; cases h; exact hr
 | spare T sz => cases x <;> simp only [wkO, reduceCtorEq] at h; cases h; exact hr
 | loop τ n ps as bd st pd => cases x <;> simp only [wkO, reduceCtorEq] at h; cases h; exact hr
theorem ORel.ren {E E' : Env} {A : Nat -> Nat -> Prop} {G : Gd} {w : World} {κ : Nat -> Nat} {i : Nat} {x : AObj} (hi : i < E'.n) (hκ : κ i < E.n)
  (hE : ∀ k, k < E'.n -> κ k < E.n -> E'.blk k = E.blk (κ k) /\ E'.cap k = E.cap (κ k) /\ E'.tok k = E.tok (κ k) /\ E'.wid k = E.wid (κ k))
  (hb : bdO E'.n x) (h : ORel E A G w (κ i) (renO κ x)) : ORel E' A G w i x := by
 obtain ⟨e1, e2, e3, e4⟩ := hE i hi hκ
 cases x with
 | cells T l =>
  obtain ⟨cs, h1, h9, h2, h3, h4⟩ := h
  exact ⟨cs, by rw [e1]; exact h1, h9, h2.ren hE _ _ hb, by rw [e1]; exact h3, by rw [e1]; exact h4⟩
 | buf T sz l =>
  obtain ⟨cs, h1, h9, h5, h6, h7, h8, h2, h3, h4⟩ := h
  refine ⟨cs, by rw [e1]; exact h1, h9, by rw [e4]; exact h5, by rw [e2, <- bH (κ := κ)]; exact h6, by rw [e2]; exact h7, fun y hy => ?_, ?_, by rw [e1]; exact h3, by rw [e1]; exact h4⟩
  ·obtain ⟨j, hj, rfl⟩ := List.mem_iff_getElem.1 hy
   have hm : Rip.ren κ l[j] ∈ rens κ l := by
    have : ∀ (l : List AV) (y : AV), y ∈ l -> Rip.ren κ y ∈ rens κ l := by
     intro l
     induction l with
     | nil => intro y hy; cases hy
     | cons z zs ih => intro y hy; simp only [rens, List.mem_cons] at hy ⊢; exact hy.imp (fun e => by rw [e]) (ih y)
    exact this l _ (List.getElem_mem hj)
   have := h8 _ hm
   rwa [fM, bH] at this
  ·rw [gF, bH] at h2
   exact h2.ren hE _ _ (bds_flatMap.2 hb)
 | map ks vs =>
  obtain ⟨es, cl, h1, h2, h3, h4, h5⟩ := h
  exact ⟨es, cl, by rw [e1]; exact h1, h2.ren hE _ _ hb.1, h3.ren hE _ _ hb.2, h4, by rw [e1]; exact h5⟩
 | siter s p => exact ⟨by rw [e1]; exact h.1, by rw [e1]; exact h.2⟩
 | miter ks vs last =>
  refine ⟨?_, by rw [e1]; exact h.2⟩
  rw [e1]
  exact MitOk.imp h.1 rfl (fun _ _ _ a b => ⟨a, b⟩) (fun _ h => Reps.ren hE _ _ hb.1 h) (fun _ h => Reps.ren hE _ _ hb.2.1 h) (fun e => by cases last <;> simp_all [rens]) (fun _ h => Reps.ren hE _ _ hb.2.2 h)
 | loop τ n ps as bd st pd =>
  obtain ⟨⟨L, h1, h2, h3, h4, h6, h7, h8, h9⟩, h5⟩ := h
  exact ⟨⟨L, by rw [e1]; exact h1, h2, h3, h4, h6, h7, h8, fun j => Rep.ren hE _ _ (bdT_get hb) (by rw [<- lA]; exact h9 j)⟩, by rw [e1]; exact h5⟩
 | spare T sz =>
  obtain ⟨n, xs, h1, ho, h2⟩ := h
  exact ⟨n, xs, by rw [e3]; exact h1, ho, by rw [e3]; exact h2⟩
 | dead => trivial
theorem mO {E E' : Env} {κ : Nat -> Nat} {i : Nat} (hi : i < E'.n) (hκ : κ i < E.n)
  (hE : ∀ k, k < E'.n -> κ k < E.n -> E'.blk k = E.blk (κ k) /\ E'.cap k = E.cap (κ k) /\ E'.tok k = E.tok (κ k) /\ E'.wid k = E.wid (κ k)) (x : AObj) :
  obk E' i x = obk E (κ i) (renO κ x) := by
 obtain ⟨e1, e2, e3, e4⟩ := hE i hi hκ
 cases x <;> simp [obk, renO, e1, e3]
theorem uR {E : Env} {k : Nat} {x y : AObj} (h : wkO x y) {b : Nat} (hb : obk E k y = some b) : obk E k x = some b := by
 cases y <;> cases x <;> simp_all [wkO, obk]
def SlotsOk (τ : List (Nat × AV)) (κ : Nat -> Nat) (n : Nat) : List (Nat × AV) -> Prop
 | [] => True
 | (i, y) :: r => wkr (tget τ i) (ren κ y) /\ bd n y /\ SlotsOk τ κ n r
def ObjsOk (h : List AObj) (κ : Nat -> Nat) (n : Nat) : Nat -> List AObj -> Prop
 | _, [] => True
 | i, y :: r => (match h[κ i]? with
  | some x => wkO x (renO κ y)
  | none => False) /\ bdO n y /\ ObjsOk h κ n (i + 1) r
theorem SlotsOk.get {τ : List (Nat × AV)} {κ : Nat -> Nat} {n : Nat} : ∀ {τ' : List (Nat × AV)}, SlotsOk τ κ n τ' -> ∀ i, wkr (tget τ i) (ren κ (tget τ' i)) /\ bd n (tget τ' i)
 | [], _, i => by simp [tget, ren, wkr, bd]
 | (j, y) :: r, h, i => by
  simp only [SlotsOk] at h
  simp only [tget]
  split
  ·rename_i hb
   have := Nat.eq_of_beq_eq_true hb
   subst this
   exact ⟨h.1, h.2.1⟩
  ·exact SlotsOk.get h.2.2 i
theorem ObjsOk.get {h : List AObj} {κ : Nat -> Nat} {n : Nat} : ∀ {l : List AObj} {i : Nat}, ObjsOk h κ n i l -> ∀ {j : Nat} {y : AObj}, l[j]? = some y ->
  ∃ x, h[κ (i + j)]? = some x /\ wkO x (renO κ y) /\ bdO n y
 | [], _, _, j, y, hy => by simp at hy
 | z :: r, i, ho, j, y, hy => by
  simp only [ObjsOk] at ho
  cases j with
  | zero =>
   simp at hy; subst hy
   cases hx : h[κ i]? with
   | none => simp [hx] at ho
   | some x => simp only [hx] at ho; exact ⟨x, rfl, ho.1, ho.2.1⟩
  | succ j =>
   simp at hy
   have := ObjsOk.get ho.2.2 hy
   rwa [show i + 1 + j = i + (j + 1) by omega] at this
theorem Wk.ren {GL : Glob} {m : Nat} {τ τ' : List (Nat × AV)} {h h' : List AObj} (κ : Nat -> Nat) (hm : m <= h'.length) (hid : ∀ k, k < m -> κ k = k)
  (hinj : ∀ i j, i < h'.length -> j < h'.length -> κ i = κ j -> i = j) (hs : SlotsOk τ κ h'.length τ') (ho : ObjsOk h κ h'.length 0 h') : Wk GL m τ h τ' h' := by
 intro E A G w f hW hf
 let E' : Env := ⟨h'.length, fun k => E.blk (κ k), fun k => E.cap (κ k), fun k => E.tok (κ k), fun k => E.wid (κ k)⟩
 have hE : ∀ k, k < E'.n -> κ k < E.n -> E'.blk k = E.blk (κ k) /\ E'.cap k = E.cap (κ k) /\ E'.tok k = E.tok (κ k) /\ E'.wid k = E.wid (κ k) := fun k _ _ => ⟨rfl, rfl, rfl, rfl⟩
 have hlt : ∀ k y, h'[k]? = some y -> k < E'.n /\ κ k < E.n := fun k y hy => by
  obtain ⟨x, hx, _⟩ := ho.get hy
  rw [Nat.zero_add] at hx
  exact ⟨(List.getElem?_eq_some_iff.1 hy).1, by rw [hW.n]; exact (List.getElem?_eq_some_iff.1 hx).1⟩
 refine ⟨E', A, G, ⟨hW.gl, rfl, hW.a, hW.g, ?_, ?_, hW.hf, ?_⟩, ?_, Ext.refl _ _ _, hm, fun k hk => by simp [E', hid k hk]⟩
 ·intro k y hy
  obtain ⟨h1, h2⟩ := hlt k y hy
  obtain ⟨x, hx, hw, hb⟩ := ho.get hy
  rw [Nat.zero_add] at hx
  exact ORel.ren h1 h2 hE hb ((hW.o _ x hx).wk hw)
 ·intro j k x y b hx hy hbx hby
  obtain ⟨h1, h2⟩ := hlt j x hx
  obtain ⟨h3, h4⟩ := hlt k y hy
  obtain ⟨x', hx', hw, _⟩ := ho.get hx
  obtain ⟨y', hy', hw', _⟩ := ho.get hy
  rw [Nat.zero_add] at hx' hy'
  rw [mO h1 h2 hE] at hbx
  rw [mO h3 h4 hE] at hby
  exact hinj j k h1 h3 (hW.d _ _ _ _ _ hx' hy' (uR hw hbx) (uR hw' hby))
 ·intro k y b hy hby
  obtain ⟨h3, h4⟩ := hlt k y hy
  obtain ⟨y', hy', hw', _⟩ := ho.get hy
  rw [Nat.zero_add] at hy'
  rw [mO h3 h4 hE] at hby
  exact hW.ho _ _ _ hy' (uR hw' hby)
 ·intro i
  obtain ⟨h1, h2⟩ := hs.get i
  exact Rep.ren hE _ _ h2 (Rep.wk _ _ _ h1 (hf i))
end Go.Rip
