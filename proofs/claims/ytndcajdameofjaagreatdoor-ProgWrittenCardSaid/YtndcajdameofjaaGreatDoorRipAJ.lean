/- The arguments as they come: what a reading says, the machine's values say. -/
import Derived.ChangeArms
import Derived.ProofKit
import Derived.OpenShut
import Derived.Test.YtndcajdameofjaaGreatDoorRipAI
namespace Go.Rip
open Go
def allA (W : World) : Nat -> Nat -> Prop := fun b o => ∃ v, W.cell? ⟨b, o, none⟩ = some v
def allG (W : World) : Gd := ⟨fun b => b < W.heap.size, fun _ => False⟩
def env0 : Env := ⟨0, fun _ => 0, fun _ => 0, fun _ => undef, fun _ => 0⟩
theorem wf0 {GL : Glob} {W : World} (hgl : ∀ n l, (n, l) ∈ GL -> ∀ E', RepC E' (allA W) (allG W) W n 0 l) : Wf GL env0 (allA W) (allG W) [] W :=
 ⟨hgl, rfl, fun _ _ h => h, fun _ h => h, fun k x hx => by simp at hx, fun j k x y b hx => by simp at hx, fun b h => h.elim, fun k x b hx => by simp at hx⟩
theorem pS {P : Program} {GL : Glob} {f : FuncId} {c : ACode} {rs : List ARet} {n : Nat} (hk : Coded P f c rs n) {args : List AV} {b : Bool} (hp : Pure (AC P GL) f args (.v (.bool b))) {W : World} (hgl : ∀ n l, (n, l) ∈ GL -> ∀ E', RepC E' (allA W) (allG W) W n 0 l)
  {vs : List Value} (hv : Reps env0 (allA W) (allG W) W args vs) : Calls P f vs.toArray W fun e W' => e = .returned (.bool b) /\ RowKit.Below W.heap.size W W' := by
 obtain ⟨fn, h1, h2, h3, rfl⟩ := hk
 have h4 := hp [] env0 (allA W) (allG W) W vs (wf0 hgl) hv
 unfold compFn at h3
 split at h3
 ·rename_i body hb
  rcases h4 with ⟨-, h4⟩ | ⟨v, w', h5, -⟩
  ·refine h4.mono fun e W' => ?_
   rintro ⟨E', A', G', r, h', g1, g2, g3, g4, rfl, rfl⟩
   refine ⟨?_, ⟨g2.os, g2.tape, g2.output, g2.size, fun k hk => g2.block k hk⟩⟩
   cases e with
   | panicked => exact g4.elim
   | outgrown => exact g4.elim
   | returned u => simp only [EndRep, Rep] at g4; rw [g4]
  ·rw [dQ h1 h2 hb] at h5
   cases h5
 ·cases h3
def AV.one : AV -> Bool
 | .v x => x.oneCell'
 | .str _ => true
 | .sl _ _ => true
 | _ => false
theorem tX {E : Env} {A : Nat -> Nat -> Prop} {G : Gd} {w : World} {x : AV} {u : Value} (h : x.one = true) (hr : Rep E A G w x u) : u.oneCell' = true := by
 cases x <;> simp only [AV.one, Bool.false_eq_true] at h <;> simp only [Rep] at hr
 ·rw [hr]; exact h
 ·rw [hr]; rfl
 ·obtain ⟨_, _, _, rfl, _⟩ := hr; rfl
theorem qI {w : World} {base : Nat} {a : Addr} {n : Nat} {cs : List Value} (h : w.cells? base a n = some cs) : cs.length = n /\ ∀ i, i < n -> w.cell? (a.add i) = cs[i]? := by
 unfold World.cells? at h
 split at h
 ·exact ⟨by simpa using mapM_some_length h, fun i hi => mapM_some_get h i i (by simp [hi])⟩
 ·cases h
theorem uM {E : Env} {A : Nat -> Nat -> Prop} {G : Gd} {w : World} : ∀ {l : List AV} {vs : List Value}, Reps E A G w l vs -> ∀ {i : Nat} {x : AV}, l[i]? = some x -> ∃ u, vs[i]? = some u /\ Rep E A G w x u
 | [], _, _, i, x, hx => by simp at hx
 | y :: l, vs, h, i, x, hx => by
  simp only [Reps] at h
  obtain ⟨u, us, rfl, h1, h2⟩ := h
  cases i with
  | zero => simp at hx; subst hx; exact ⟨u, rfl, h1⟩
  | succ i => exact uM h2 (by simpa using hx)
theorem cell_spot {w : World} {a : Addr} {v : Value} (h : w.cell? a = some v) : a = ⟨a.block, a.off, none⟩ := by
 obtain ⟨b, o, s⟩ := a
 cases s with
 | none => rfl
 | some s => simp only [World.cell?, Option.isSome_some, if_true] at h; split at h <;> cases h
theorem addr_at (b o n : Nat) : Addr.add ⟨b, o, none⟩ n = ⟨b, o + n, none⟩ := by
 unfold Addr.add
 split
 ·rename_i h; subst h; rfl
 ·rfl
theorem repC_of {W : World} {l : List AV} {b o : Nat} {ci : List Value} (hone : l.all AV.one = true) (hc : W.cells? 0 ⟨b, o, none⟩ l.length = some ci) (hr : Reps env0 (allA W) (allG W) W l ci) : RepC env0 (allA W) (allG W) W b o l := by
 obtain ⟨h1, h2⟩ := qI hc
 refine RepC.of_get fun i x hx => ?_
 obtain ⟨u, h3, h4⟩ := uM hr hx
 have hi : i < l.length := (List.getElem?_eq_some_iff.1 hx).1
 have h5 := h2 i hi
 rw [addr_at, h3] at h5
 exact ⟨u, h5, ⟨u, h5⟩, tX (List.all_eq_true.1 hone x (List.mem_of_getElem? hx)) h4, h4⟩
theorem kX {α : Type} {f : α -> AV} {z : Nat} (h : ∀ a, ∃ l, f a = .agg l /\ l.length = z /\ l.all AV.one = true) (a : α) : (f a).cells.length = z /\ (f a).cells.all AV.one = true := by
 obtain ⟨l, e, h⟩ := h a
 rw [e]; exact h
theorem repL_of {W : World} {α : Type} {f : α -> AV} {z : Nat} (hagg : ∀ a, (f a).cells.length = z /\ (f a).cells.all AV.one = true) {b : Nat} : ∀ {l : List α} {o : Nat},
  (∀ i a, l[i]? = some a -> ∃ ci, W.cells? 0 ⟨b, o + i * z, none⟩ z = some ci /\ Reps env0 (allA W) (allG W) W (f a).cells ci) -> RepL env0 (allA W) (allG W) W z b o (l.map f)
 | [], _, _ => by simp [RepL]
 | a :: r, o, h => by
  obtain ⟨hl, ho⟩ := hagg a
  have ih := repL_of hagg (b := b) (l := r) (o := o + z) fun i x hx => by
   have := h (i + 1) x (by simpa using hx)
   rwa [Nat.add_mul, Nat.one_mul, Nat.add_comm (i * z), <- Nat.add_assoc] at this
  obtain ⟨ci, h1, h2⟩ := h 0 a rfl
  rw [Nat.zero_mul, Nat.add_zero] at h1
  rw [List.map_cons, bU]
  exact ⟨hl, repC_of ho (by rw [hl]; exact h1) h2, ih⟩
theorem gH {H : Type} {P : Program} {e : TypeId} {y : DataW H} {v : Nat} (hv : v ∈ y.weights P e) : ∀ {l : List (DataW H)}, y ∈ l -> v ∈ DataW.weightsAll P e l
 | d :: r, hy => by
  simp only [DataW.weightsAll, List.mem_append]
  rcases List.mem_cons.1 hy with rfl | hy
  ·exact .inl hv
  ·exact .inr (gH hv hy)
section
variable {H : Type} {enc' : TypeId × Value -> H} {P : Program} {W : World} {sp : Nat -> Bool} {held : Bool} {fuel : Nat} {t e : TypeId} {cs : List Value} {x : DataW H × List MemPlace}
theorem lL {z : Nat} (ht : P.underlying t = some (.slice e)) (hz : P.cellsOf e = z) (z0 : 0 < z) (hb : 1 <= P.bytesOf e) (h : DataW.trod enc' P W 0 sp held fuel t cs = some x) (hw : ∀ y ∈ x.1.weights P t, y <= reachBytes)
  {α : Type} (f : α -> AV) (Q : α -> Prop) (hagg : ∀ a, (f a).cells.length = z /\ (f a).cells.all AV.one = true)
  (hk : ∀ n ci y, fuel = n + 1 -> DataW.trod enc' P W 0 sp held n e ci = some y -> (∀ v ∈ y.1.weights P e, v <= reachBytes) -> ∃ a, Q a /\ Reps env0 (allA W) (allG W) W (f a).cells ci) :
  ∃ (c : Value) (l : List α), cs = [c] /\ Rep env0 (allA W) (allG W) W (.sl z (l.map f)) c /\ (∀ a ∈ l, Q a) /\ l.length <= 2 ^ 47 := by
 rcases DataW.trod_slice ht h with ⟨rfl, rfl⟩ | ⟨a, len, cap, elems, rest, n, rfl, rfl, rfl, h1, h2, h3, h4, h5, -, -⟩
 ·exact ⟨_, [], rfl, by simp only [Rep, List.map_nil]; exact ⟨none, 0, 0, rfl, rfl, Nat.le_refl _, by omega, .inl trivial⟩, fun _ h => by simp at h, by simp⟩
 ·rw [hz] at h5
  simp only [DataW.weights, ht] at hw
  have hsz : len <= 2 ^ 47 := by
   have := hw _ (List.mem_cons_self ..)
   simp only [List.length_map, reachBytes] at this
   have h6 : elems.length * 1 <= (elems.length + rest.length) * P.bytesOf e := Nat.mul_le_mul (by omega) hb
   omega
  have step : ∀ m, m <= len -> ∃ l : List α, l.length = m /\ (∀ a ∈ l, Q a) /\ ∀ i b, l[i]? = some b -> ∃ ci, W.cells? 0 (a.add (i * z)) z = some ci /\ Reps env0 (allA W) (allG W) W (f b).cells ci := by
   intro m
   induction m with
   | zero => intro _; exact ⟨[], rfl, fun _ h => by simp at h, fun i b h => by simp at h⟩
   | succ m ih =>
    intro hm
    obtain ⟨l, l1, l2, l3⟩ := ih (by omega)
    have h6 := h5 m (by omega)
    have hlt : m < elems.length := by omega
    rw [List.getElem?_eq_getElem hlt, Option.bind_eq_some_iff] at h6
    obtain ⟨ci, c1, c2⟩ := h6
    obtain ⟨b, b1, b2⟩ := hk n ci _ rfl c2 fun v hv => hw v (List.mem_cons_of_mem _ (List.mem_append.2 (.inl (gH hv (List.mem_map.2 ⟨_, List.getElem_mem hlt, rfl⟩)))))
    refine ⟨l ++ [b], by simp [l1], fun c hc => ?_, fun i c hc => ?_⟩
    ·rcases List.mem_append.1 hc with hc | hc
     ·exact l2 c hc
     ·rw [List.mem_singleton.1 hc]; exact b1
    ·by_cases hi : i < l.length
     ·rw [List.getElem?_append_left hi] at hc
      exact l3 i c hc
     ·rw [List.getElem?_append_right (by omega)] at hc
      have : i - l.length = 0 := by
       have := (List.getElem?_eq_some_iff.1 hc).1
       simp at this; omega
      have hi' : i = m := by omega
      rw [this] at hc
      simp at hc
      subst hc; subst hi'
      exact ⟨ci, c1, b2⟩
  obtain ⟨l, l1, l2, l3⟩ := step len (Nat.le_refl _)
  refine ⟨_, l, rfl, ?_, l2, by omega⟩
  simp only [Rep]
  refine ⟨_, _, _, rfl, by simp [l1], h2, by omega, ?_⟩
  by_cases hl : l = []
  ·exact .inl (by simp [hl])
  ·right
   obtain ⟨b0, r, rfl⟩ : ∃ b0 r, l = b0 :: r := by cases l with | nil => exact absurd rfl hl | cons b r => exact ⟨b, r, rfl⟩
   obtain ⟨ci, c1, -⟩ := l3 0 b0 rfl
   obtain ⟨c2, c3⟩ := qI c1
   have c4 := c3 0 z0
   rw [Nat.zero_mul] at c4
   have e0 : (a.add 0).add 0 = a := by simp [Addr.add]
   rw [e0, List.getElem?_eq_getElem (by omega)] at c4
   have ha := cell_spot c4
   refine ⟨a.block, a.off, by rw [<- ha], repL_of hagg fun i b hb => ?_⟩
   obtain ⟨ci, c1, c5⟩ := l3 i b hb
   rw [ha, addr_at] at c1
   exact ⟨ci, c1, c5⟩
theorem dE {v : Nat} : ∀ {ts : List TypeId} {ds : List (DataW H)} {i : Nat} {t : TypeId} {d : DataW H}, ts[i]? = some t -> ds[i]? = some d -> v ∈ d.weights P t -> v ∈ DataW.weightsEach P ts ds
 | [], _, i, _, _, h, _, _ => by simp at h
 | _ :: _, [], i, _, _, _, h, _ => by simp at h
 | t :: ts, d :: ds, 0, _, _, h, h', hv => by
  simp only [List.getElem?_cons_zero, Option.some.injEq] at h h'
  subst h h'
  exact List.mem_append.2 (.inl hv)
 | t :: ts, d :: ds, i + 1, _, _, h, h', hv => List.mem_append.2 (.inr (dE (by simpa using h) (by simpa using h') hv))
theorem kT {fs : Array Field} (ht : P.underlying t = some (.struct fs)) (hf : (P.cellsOf t == fs.size && (List.range fs.size).all fun i => fs[i]?.all fun (f : Field) => f.offset == i && P.cellsOf f.type == 1) = true)
  (h : DataW.trod enc' P W 0 sp held fuel t cs = some x) (hw : ∀ y ∈ x.1.weights P t, y <= reachBytes) :
  ∃ n, fuel = n + 1 /\ cs.length = fs.size /\ ∀ (i : Nat) (f : Field), fs[i]? = some f -> ∃ c y, cs[i]? = some c /\ DataW.trod enc' P W 0 sp held n f.type [c] = some y /\ ∀ v ∈ y.1.weights P f.type, v <= reachBytes := by
 simp only [Bool.and_eq_true, beq_iff_eq, List.all_eq_true, List.mem_range] at hf
 obtain ⟨hc, hf⟩ := hf
 obtain ⟨xs, n, rfl, rfl, h1, h2, h3⟩ := DataW.trod_struct ht h
 refine ⟨n, rfl, by rw [h1, hc], fun i f hi => ?_⟩
 have hlt : i < fs.size := (Array.getElem?_eq_some_iff.1 hi).1
 have h4 := hf i hlt
 rw [hi] at h4
 simp only [Option.all_some, Bool.and_eq_true, beq_iff_eq] at h4
 have h5 := h3 i f hi
 have hlc : i < cs.length := by omega
 have e : (cs.drop f.offset).take (P.cellsOf f.type) = [cs[i]] := by
  rw [h4.1, h4.2, List.drop_eq_getElem_cons hlc]; rfl
 have hlx : i < xs.length := by omega
 rw [e, List.getElem?_eq_getElem hlx] at h5
 refine ⟨cs[i], xs[i], List.getElem?_eq_getElem hlc, h5, fun v hv => hw v ?_⟩
 simp only [DataW.weights, ht]
 exact dE (i := i) (t := f.type) (d := xs[i].1) (by simp [hi]) (by simp [hlx]) hv
theorem oB {k : IntKind} {c : Value} (ht : P.underlying t = some (.int k)) (h : DataW.trod enc' P W 0 sp held fuel t [c] = some x) : ∃ n, c = .int k n := by
 obtain ⟨n, h1, -⟩ := DataW.trod_int ht h
 exact ⟨n, by simpa using h1⟩
theorem uN {c : Value} (ht : P.underlying t = some .string) (h : DataW.trod enc' P W 0 sp held fuel t [c] = some x) (hw : ∀ y ∈ x.1.weights P t, y <= reachBytes) : ∃ s : List UInt8, c = .string ⟨s.toArray⟩ /\ s.length <= 2 ^ 47 := by
 obtain ⟨s, h1, rfl, -⟩ := DataW.trod_string ht h
 refine ⟨s.data.toList, by simpa using h1, ?_⟩
 have := hw s.data.toList.length (by simp [DataW.weights])
 simp only [reachBytes] at this
 omega
end
theorem glob_strs {H : Type} {enc' : TypeId × Value -> H} {P : Program} {W : World} {sp : Nat -> Bool} {held : Bool} {fuel : Nat} {t e : TypeId} {cs : List Value} {x : DataW H × List MemPlace} {ss : List (List UInt8)}
  (ht : P.underlying t = some (.array ss.length e)) (he : P.underlying e = some .string) (hc : P.cellsOf e = 1) (h : DataW.trod enc' P W 0 sp held fuel t cs = some x) (hx : x.1 = .agg (ss.map fun s => .lit (.string s))) {i : Nat} {s : List UInt8} (hs : ss[i]? = some s) : cs[i]? = some (.string ⟨s.toArray⟩) := by
 obtain ⟨xs, m, rfl, rfl, h1, h2, h3⟩ := DataW.trod_array ht h
 simp only [DataW.agg.injEq] at hx
 have hi : i < ss.length := (List.getElem?_eq_some_iff.1 hs).1
 have h4 := h3 i hi
 have hix : i < xs.length := by omega
 rw [hc, Nat.mul_one, List.getElem?_eq_getElem hix] at h4
 obtain ⟨b, h5, h6, -⟩ := DataW.trod_string he h4
 have h7 := congrArg (fun l => l[i]?) hx
 simp only [List.getElem?_map, hs, Option.map_some, List.getElem?_eq_getElem hix, Option.some.injEq] at h7
 rw [h6] at h7
 simp only [DataW.lit.injEq, Lit.string.injEq] at h7
 have h8 : cs[i]? = ((cs.drop i).take 1)[0]? := by simp
 rw [h8, h5]
 subst h7
 simp
structure TmTy (P : Program) (tT tL tS tI : TypeId) : Prop where
 t : ∃ fs, P.underlying tT = some (.struct fs) /\ (P.cellsOf tT == fs.size && (List.range fs.size).all fun i => fs[i]?.all fun (f : Field) => f.offset == i && P.cellsOf f.type == 1) = true /\ fs.toList.map (·.type) = [tI, tI, tS, tL]
 c : P.cellsOf tT = 4
 l : P.underlying tL = some (.slice tT)
 s : P.underlying tS = some .string
 i : P.underlying tI = some (.int .i64)
 b : 1 <= P.bytesOf tT
theorem gN {fs : Array Field} {ts : List TypeId} (h : fs.toList.map (·.type) = ts) {i : Nat} {t : TypeId} (ht : ts[i]? = some t) : ∃ f, fs[i]? = some f /\ f.type = t := by
 subst h
 simp only [List.getElem?_map, Option.map_eq_some_iff, Array.getElem?_toList] at ht
 exact ht
theorem rQ (a : Tm) : ∃ l, enc a = .agg l /\ l.length = 4 /\ l.all AV.one = true := ⟨_, fC a, rfl, rfl⟩
mutual
def Tm.wid : Tm -> Prop
 | .mk _ _ s l => s.length <= 2 ^ 47 /\ l.length <= 2 ^ 47 /\ wids l
def wids : List Tm -> Prop
 | [] => True
 | t :: r => t.wid /\ wids r
end
theorem wid_eq (t : Tm) : t.wid ↔ t.s.length <= 2 ^ 47 /\ t.l.length <= 2 ^ 47 /\ wids t.l := by cases t; rfl
theorem kV : ∀ {l : List Tm}, wids l -> ∀ x ∈ l, x.wid
 | y :: r, h, x, hx => by
  rcases List.mem_cons.1 hx with rfl | hx
  ·exact h.1
  ·exact kV h.2 x hx
theorem nH : ∀ {l : List Tm}, (∀ x ∈ l, x.wid) -> wids l
 | [], _ => trivial
 | y :: _r, h => ⟨h y (List.mem_cons_self ..), nH fun x hx => h x (List.mem_cons_of_mem _ hx)⟩
theorem rep_tm {H : Type} {enc' : TypeId × Value -> H} {P : Program} {W : World} {sp : Nat -> Bool} {held : Bool} {tT tL tS tI : TypeId} (hP : TmTy P tT tL tS tI) : ∀ (fuel : Nat) (cs : List Value) (x : DataW H × List MemPlace),
  DataW.trod enc' P W 0 sp held fuel tT cs = some x -> (∀ y ∈ x.1.weights P tT, y <= reachBytes) -> ∃ t : Tm, t.wid /\ Reps env0 (allA W) (allG W) W (enc t).cells cs := by
 intro fuel
 induction fuel using Nat.strongRecOn with
 | _ fuel ih =>
 intro cs x h hw
 obtain ⟨fs, h1, h2, h3⟩ := hP.t
 obtain ⟨n, rfl, h4, h5⟩ := kT h1 h2 h hw
 have h6 : fs.size = 4 := by simpa using congrArg List.length h3
 obtain ⟨f0, a0, b0⟩ := gN h3 (i := 0) rfl
 obtain ⟨f1, a1, b1⟩ := gN h3 (i := 1) rfl
 obtain ⟨f2, a2, b2⟩ := gN h3 (i := 2) rfl
 obtain ⟨f3, a3, b3⟩ := gN h3 (i := 3) rfl
 obtain ⟨c0, y0, d0, e0, w0⟩ := h5 0 f0 a0
 obtain ⟨c1, y1, d1, e1, w1⟩ := h5 1 f1 a1
 obtain ⟨c2, y2, d2, e2, w2⟩ := h5 2 f2 a2
 obtain ⟨c3, y3, d3, e3, w3⟩ := h5 3 f3 a3
 rw [b0] at e0; rw [b1] at e1; rw [b2] at e2 w2; rw [b3] at e3 w3
 obtain ⟨k, rfl⟩ := oB hP.i e0
 obtain ⟨m, rfl⟩ := oB hP.i e1
 obtain ⟨s, rfl, hs⟩ := uN hP.s e2 w2
 obtain ⟨c, l, hc, hr, hq, hl⟩ := lL hP.l hP.c (by omega) hP.b e3 w3 enc Tm.wid (kX rQ) fun n' ci y hn hy hwy => ih n' (by omega) ci y hy hwy
 obtain rfl : c3 = c := by simpa using hc
 refine ⟨.mk k m s l, ⟨hs, hl, nH hq⟩, ?_⟩
 have e : cs = [.int .i64 k, .int .i64 m, .string ⟨s.toArray⟩, c3] := by
  match cs, h4, h6, d0, d1, d2, d3 with
  | [_, _, _, _], _, _, d0, d1, d2, d3 =>
   simp at d0 d1 d2 d3
   simp [d0, d1, d2, d3]
  | [], h4, h6, _, _, _, _ => simp at h4; omega
  | [_], h4, h6, _, _, _, _ => simp at h4; omega
  | [_, _], h4, h6, _, _, _, _ => simp at h4; omega
  | [_, _, _], h4, h6, _, _, _, _ => simp at h4; omega
  | _ :: _ :: _ :: _ :: _ :: _, h4, h6, _, _, _, _ => simp at h4; omega
 rw [e, eK]
 simp only [AV.cells, Reps]
 exact ⟨_, _, rfl, rfl, _, _, rfl, rfl, _, _, rfl, rfl, _, _, rfl, hr, rfl⟩
theorem vA {E : Env} {A : Nat -> Nat -> Prop} {G : Gd} {w : World} : ∀ {l : List AV} {vs : List Value}, l.all AV.one = true -> Reps E A G w l vs -> ∀ u ∈ vs, u.oneCell' = true
 | [], vs, _, h, u, hu => by simp only [Reps] at h; subst h; cases hu
 | x :: l, vs, ho, h, u, hu => by
  simp only [Reps] at h
  obtain ⟨u0, us, rfl, h1, h2⟩ := h
  simp only [List.all_cons, Bool.and_eq_true] at ho
  rcases List.mem_cons.1 hu with rfl | hu
  ·exact tX ho.1 h1
  ·exact vA ho.2 h2 u hu
theorem rep_agg {E : Env} {A : Nat -> Nat -> Prop} {G : Gd} {w : World} {l : List AV} {cs : Array Value} (ho : l.all AV.one = true) (h : Reps E A G w l cs.toList) : Rep E A G w (.agg l) (.agg cs) := by
 simp only [Rep]
 exact ⟨cs, rfl, vA ho h, h⟩
theorem iT {H : Type} {enc' : TypeId × Value -> H} {P : Program} (hl : laidOutB P = true) {W W' : World} {sp : Nat -> Bool} (hb : RowKit.Below W.heap.size W W') : ∀ {ts : List TypeId} {vs : List Value} {ds : List (DataW H)} {ps : List MemPlace},
  (ts.all fun t => P.readableRec t && decide (t < P.types.size)) = true -> DataW.TrodAll enc' P W 0 (fun _ => true) true ts vs ds ps -> (∀ p ∈ ps, p.block < W.heap.size) -> (∀ p ∈ ps, sp p.block = true) -> DataW.TrodAll enc' P W' 0 sp true ts vs ds ps
 | [], [], [], _, _, h, _, _ => h
 | t :: ts, v :: vs, d :: ds, ps, ht, h, hlt, hs => by
  simp only [List.all_cons, Bool.and_eq_true, decide_eq_true_eq] at ht
  obtain ⟨p, q, h1, h2, rfl⟩ := h
  refine ⟨p, q, WideElems.Trod_stays hl ht.1.1 ht.1.2 h1 (fun x hx => hb.same (hlt x (List.mem_append.2 (.inl hx)))) (fun x hx => hs x (List.mem_append.2 (.inl hx))), iT hl hb (by simpa using ht.2) h2 (fun x hx => hlt x (List.mem_append.2 (.inr hx))) (fun x hx => hs x (List.mem_append.2 (.inr hx))), rfl⟩
 | [], _ :: _, _, _, _, h, _, _ => h.elim
 | [], [], _ :: _, _, _, h, _, _ => h.elim
 | _ :: _, [], _, _, _, h, _, _ => h.elim
 | _ :: _, _ :: _, [], _, _, h, _, _ => h.elim
theorem post_true {H : Type} {enc' : TypeId × Value -> H} {P : Program} {f : Func} {s : ChangeSpec} {ds : List (DataW H)} {before : List MemPlace} {W W' : World} {args : Array Value} {tB : TypeId} (hW : DataW.Whole enc' P f.params.toList s.vars false W args.toList ds [] before) (hv : s.vars = [])
  (hfn : s.fn H ds = { results := [.lit (.bool true)], args := ds }) (hres : f.resultTypes = #[tB]) (hB : P.underlying tB = some .bool) (hl : laidOutB P = true) (hp : (f.params.toList.all fun t => P.readableRec t && decide (t < P.types.size)) = true) (hb : RowKit.Below W.heap.size W W') :
  s.post enc' P f false true false false W args (.bool true) W' := by
 have hlt : ∀ p ∈ before, p.block < W.heap.size := fun p hp => by simpa using hW.lt p hp
 obtain ⟨p, q, h1, h2, h3, h4, h5⟩ := hW
 rw [hv] at h2
 simp only [DataW.TrodVars] at h2
 subst h2 h3
 rw [List.append_nil] at *
 refine ⟨ds, [], p, [], p, [], ⟨p, [], h1, by rw [hv]; rfl, by simp, h4, h5⟩, ?_, ?_, ?_, ⟨hb.os, hb.output, fun i hi => ?_⟩, fun h => by cases h⟩
 ·rw [List.append_nil, hfn, hres]
  exact ChangeShapes.trodAll_mk1 (RowKit.shut_bool hB _)
 ·rw [List.append_nil, hfn]
  exact iT hl hb hp h1 hlt fun x hx => by simpa using hlt x hx
 ·rw [List.append_nil, hfn, hv]; rfl
 ·rw [hb.block i hi]
  split <;> simp_all
section
variable {H : Type} {enc' : TypeId × Value -> H} {P : Program} {W : World} {sp : Nat -> Bool} {held : Bool}
structure StTy (P : Program) (t : TypeId) (ts : List TypeId) : Prop where
 s : ∃ fs, P.underlying t = some (.struct fs) /\ (P.cellsOf t == fs.size && (List.range fs.size).all fun i => fs[i]?.all fun (f : Field) => f.offset == i && P.cellsOf f.type == 1) = true /\ fs.toList.map (·.type) = ts
def CellOk (enc' : TypeId × Value -> H) (P : Program) (W : World) (sp : Nat -> Bool) (held : Bool) (n : Nat) (t : TypeId) (c : Value) : Prop := ∃ y, DataW.trod enc' P W 0 sp held n t [c] = some y /\ ∀ v ∈ y.1.weights P t, v <= reachBytes
theorem gW {fuel : Nat} {t : TypeId} {ts : List TypeId} {cs : List Value} {x : DataW H × List MemPlace} (hS : StTy P t ts) (h : DataW.trod enc' P W 0 sp held fuel t cs = some x) (hw : ∀ y ∈ x.1.weights P t, y <= reachBytes) (Q : Nat -> AV -> Prop)
  (hr : ∀ (i : Nat) (tf : TypeId), ts[i]? = some tf -> ∀ n c, fuel = n + 1 -> CellOk enc' P W sp held n tf c -> ∃ a, Q i a /\ Rep env0 (allA W) (allG W) W a c) :
  ∃ l : List AV, l.length = ts.length /\ (∀ (i : Nat) (a : AV), l[i]? = some a -> Q i a) /\ Reps env0 (allA W) (allG W) W l cs := by
 obtain ⟨fs, h1, h2, h3⟩ := hS.s
 obtain ⟨n, rfl, h4, h5⟩ := kT h1 h2 h hw
 have hlen : ts.length = cs.length := by rw [h4, <- h3]; simp
 have step : ∀ m, m <= cs.length -> ∃ l : List AV, l.length = m /\ (∀ (i : Nat) (a : AV), l[i]? = some a -> Q i a) /\ Reps env0 (allA W) (allG W) W l (cs.take m) := by
  intro m
  induction m with
  | zero => intro _; exact ⟨[], rfl, fun i a h => by simp at h, by simp [Reps]⟩
  | succ m ih =>
   intro hm
   obtain ⟨l, l1, l2, l3⟩ := ih (by omega)
   have hmt : m < ts.length := by omega
   obtain ⟨f, f1, f2⟩ := gN h3 (i := m) (List.getElem?_eq_getElem hmt)
   obtain ⟨c, y, c1, c2, c3⟩ := h5 m f f1
   rw [f2] at c2 c3
   obtain ⟨a, a1, a2⟩ := hr m _ (List.getElem?_eq_getElem hmt) n c rfl ⟨y, c2, c3⟩
   have ec : cs[m] = c := by
    rw [List.getElem?_eq_getElem (by omega)] at c1
    exact Option.some.inj c1
   refine ⟨l ++ [a], by simp [l1], fun i b hb => ?_, ?_⟩
   ·rw [List.getElem?_append] at hb
    split at hb
    ·exact l2 i b hb
    ·rename_i hi
     have := (List.getElem?_eq_some_iff.1 hb).1
     simp at this
     have hi' : i = m := by omega
     subst hi'
     simp [l1] at hb
     subst hb
     exact a1
   ·rw [List.take_succ_eq_append_getElem (by omega), ec]
    exact l3.append (Reps.one a2)
 obtain ⟨l, l1, l2, l3⟩ := step cs.length (Nat.le_refl _)
 rw [List.take_length] at l3
 exact ⟨l, by rw [l1, hlen], l2, l3⟩
theorem pC {n : Nat} {t : TypeId} {c : Value} (ht : P.underlying t = some (.int .i64)) (h : CellOk enc' P W sp held n t c) : ∃ a, (∃ k, a = .i k) /\ Rep env0 (allA W) (allG W) W a c := by
 obtain ⟨y, h, -⟩ := h
 obtain ⟨k, rfl⟩ := oB ht h
 exact ⟨.i k, ⟨k, rfl⟩, by simp [Rep]⟩
theorem cell_str {n : Nat} {t : TypeId} {c : Value} (ht : P.underlying t = some .string) (h : CellOk enc' P W sp held n t c) : ∃ a, (∃ s : List UInt8, a = .str s /\ s.length <= 2 ^ 47) /\ Rep env0 (allA W) (allG W) W a c := by
 obtain ⟨y, h, hw⟩ := h
 obtain ⟨s, rfl, hs⟩ := uN ht h hw
 exact ⟨.str s, ⟨s, rfl, hs⟩, by simp [Rep]⟩
structure SlTy (P : Program) (t e : TypeId) (z : Nat) : Prop where
 t : P.underlying t = some (.slice e)
 c : P.cellsOf e = z
 z : 0 < z
 b : 1 <= P.bytesOf e
theorem sJ {n : Nat} {t e : TypeId} {z : Nat} {c : Value} (hS : SlTy P t e z) (h : CellOk enc' P W sp held n t c) {α : Type} (f : α -> AV) (Q : α -> Prop) (hagg : ∀ a, ∃ l, f a = .agg l /\ l.length = z /\ l.all AV.one = true)
  (hk : ∀ n' ci y, DataW.trod enc' P W 0 sp held n' e ci = some y -> (∀ v ∈ y.1.weights P e, v <= reachBytes) -> ∃ a, Q a /\ Reps env0 (allA W) (allG W) W (f a).cells ci) :
  ∃ a, (∃ l : List α, a = .sl z (l.map f) /\ (∀ x ∈ l, Q x) /\ l.length <= 2 ^ 47) /\ Rep env0 (allA W) (allG W) W a c := by
 obtain ⟨y, h, hw⟩ := h
 obtain ⟨c', l, hc, hr, hq, hl⟩ := lL hS.t hS.c hS.z hS.b h hw f Q (kX hagg) fun n' ci y _ hy hwy => hk n' ci y hy hwy
 obtain rfl : c = c' := by simpa using hc
 exact ⟨_, ⟨l, rfl, hq, hl⟩, hr⟩
def Cl.wid (c : Cl) : Prop := (wids c.head /\ c.head.length <= 2 ^ 47) /\ (wids c.guard /\ c.guard.length <= 2 ^ 47) /\ wids c.body /\ c.body.length <= 2 ^ 47
def Pr.wid (p : Pr) : Prop := p.name.length <= 2 ^ 47 /\ (∀ c ∈ p.clauses, c.wid) /\ p.clauses.length <= 2 ^ 47
def Pg.wid (p : Pg) : Prop := (∀ q ∈ p.procs, q.wid) /\ p.procs.length <= 2 ^ 47
def Qy.wid (q : Qy) : Prop := wids q.goals /\ q.goals.length <= 2 ^ 47
structure ClTy (P : Program) (tC tT tL tS tI : TypeId) : Prop where
 tm : TmTy P tT tL tS tI
 s : StTy P tC [tI, tI, tL, tL, tL]
structure PrTy (P : Program) (tP tLC tC tT tL tS tI : TypeId) : Prop where
 c : ClTy P tC tT tL tS tI
 l : SlTy P tLC tC 5
 s : StTy P tP [tS, tI, tLC]
structure PgTy (P : Program) (tG tLP tP tLC tC tT tL tS tI : TypeId) : Prop where
 p : PrTy P tP tLC tC tT tL tS tI
 l : SlTy P tLP tP 3
 s : StTy P tG [tLP]
variable {tG tLP tP tLC tC tT tL tS tI tQ : TypeId}
theorem TmTy.sl (hP : TmTy P tT tL tS tI) : SlTy P tL tT 4 := ⟨hP.l, hP.c, by omega, hP.b⟩
theorem nN {n : Nat} {c : Value} (hP : TmTy P tT tL tS tI) (h : CellOk enc' P W sp held n tL c) : ∃ a, (∃ l : List Tm, a = .sl 4 (l.map enc) /\ wids l /\ l.length <= 2 ^ 47) /\ Rep env0 (allA W) (allG W) W a c := by
 obtain ⟨a, ⟨l, h1, h2, h3⟩, hr⟩ := sJ hP.sl h enc Tm.wid rQ fun n' ci y hy hwy => rep_tm hP n' ci y hy hwy
 exact ⟨a, ⟨l, h1, nH h2, h3⟩, hr⟩
theorem encCl_one (a : Cl) : ∃ l, encCl a = .agg l /\ l.length = 5 /\ l.all AV.one = true := ⟨_, rfl, rfl, rfl⟩
theorem encPr_one (a : Pr) : ∃ l, encPr a = .agg l /\ l.length = 3 /\ l.all AV.one = true := ⟨_, rfl, rfl, rfl⟩
theorem rep_cl (hP : ClTy P tC tT tL tS tI) (fuel : Nat) (cs : List Value) (x : DataW H × List MemPlace) (h : DataW.trod enc' P W 0 sp held fuel tC cs = some x) (hw : ∀ y ∈ x.1.weights P tC, y <= reachBytes) :
  ∃ c : Cl, c.wid /\ Reps env0 (allA W) (allG W) W (encCl c).cells cs := by
 obtain ⟨l, h1, h2, h3⟩ := gW hP.s h hw (fun i a => (i < 2 -> ∃ k, a = .i k) /\ (2 <= i -> ∃ l : List Tm, a = .sl 4 (l.map enc) /\ wids l /\ l.length <= 2 ^ 47)) fun i tf hi n c _ hc => by
  match i, hi with
  | 0, hi => cases hi; obtain ⟨a, q, r⟩ := pC hP.tm.i hc; exact ⟨a, ⟨fun _ => q, fun h => absurd h (by omega)⟩, r⟩
  | 1, hi => cases hi; obtain ⟨a, q, r⟩ := pC hP.tm.i hc; exact ⟨a, ⟨fun _ => q, fun h => absurd h (by omega)⟩, r⟩
  | 2, hi => cases hi; obtain ⟨a, q, r⟩ := nN hP.tm hc; exact ⟨a, ⟨fun h => absurd h (by omega), fun _ => q⟩, r⟩
  | 3, hi => cases hi; obtain ⟨a, q, r⟩ := nN hP.tm hc; exact ⟨a, ⟨fun h => absurd h (by omega), fun _ => q⟩, r⟩
  | 4, hi => cases hi; obtain ⟨a, q, r⟩ := nN hP.tm hc; exact ⟨a, ⟨fun h => absurd h (by omega), fun _ => q⟩, r⟩
  | i + 5, hi => simp at hi
 match l, h1 with
 | [a0, a1, a2, a3, a4], _ =>
  obtain ⟨k0, rfl⟩ := (h2 0 a0 rfl).1 (by omega)
  obtain ⟨k1, rfl⟩ := (h2 1 a1 rfl).1 (by omega)
  obtain ⟨l2, rfl, w2⟩ := (h2 2 a2 rfl).2 (by omega)
  obtain ⟨l3, rfl, w3⟩ := (h2 3 a3 rfl).2 (by omega)
  obtain ⟨l4, rfl, w4⟩ := (h2 4 a4 rfl).2 (by omega)
  exact ⟨⟨k0, k1, l2, l3, l4⟩, ⟨w2, w3, w4⟩, h3⟩
theorem rep_pr (hP : PrTy P tP tLC tC tT tL tS tI) (fuel : Nat) (cs : List Value) (x : DataW H × List MemPlace) (h : DataW.trod enc' P W 0 sp held fuel tP cs = some x) (hw : ∀ y ∈ x.1.weights P tP, y <= reachBytes) :
  ∃ p : Pr, p.wid /\ Reps env0 (allA W) (allG W) W (encPr p).cells cs := by
 obtain ⟨l, h1, h2, h3⟩ := gW hP.s h hw (fun i a => (i = 0 -> ∃ s : List UInt8, a = .str s /\ s.length <= 2 ^ 47) /\ (i = 1 -> ∃ k, a = .i k) /\ (i = 2 -> ∃ l : List Cl, a = .sl 5 (l.map encCl) /\ (∀ x ∈ l, x.wid) /\ l.length <= 2 ^ 47)) fun i tf hi n c _ hc => by
  match i, hi with
  | 0, hi => cases hi; obtain ⟨a, q, r⟩ := cell_str hP.c.tm.s hc; exact ⟨a, ⟨fun _ => q, fun h => absurd h (by omega), fun h => absurd h (by omega)⟩, r⟩
  | 1, hi => cases hi; obtain ⟨a, q, r⟩ := pC hP.c.tm.i hc; exact ⟨a, ⟨fun h => absurd h (by omega), fun _ => q, fun h => absurd h (by omega)⟩, r⟩
  | 2, hi => cases hi; obtain ⟨a, q, r⟩ := sJ hP.l hc encCl Cl.wid encCl_one fun n' ci y hy hwy => rep_cl hP.c n' ci y hy hwy; exact ⟨a, ⟨fun h => absurd h (by omega), fun h => absurd h (by omega), fun _ => q⟩, r⟩
  | i + 3, hi => simp at hi
 match l, h1 with
 | [a0, a1, a2], _ =>
  obtain ⟨s, rfl, ws⟩ := (h2 0 a0 rfl).1 rfl
  obtain ⟨k1, rfl⟩ := (h2 1 a1 rfl).2.1 rfl
  obtain ⟨l2, rfl, w2⟩ := (h2 2 a2 rfl).2.2 rfl
  exact ⟨⟨s, k1, l2⟩, ⟨ws, w2⟩, h3⟩
theorem rep_pg (hP : PgTy P tG tLP tP tLC tC tT tL tS tI) (fuel : Nat) (cs : List Value) (x : DataW H × List MemPlace) (h : DataW.trod enc' P W 0 sp held fuel tG cs = some x) (hw : ∀ y ∈ x.1.weights P tG, y <= reachBytes) :
  ∃ p : Pg, p.wid /\ Reps env0 (allA W) (allG W) W (encPg p).cells cs := by
 obtain ⟨l, h1, h2, h3⟩ := gW hP.s h hw (fun i a => ∃ l : List Pr, a = .sl 3 (l.map encPr) /\ (∀ x ∈ l, x.wid) /\ l.length <= 2 ^ 47) fun i tf hi n c _ hc => by
  match i, hi with
  | 0, hi => cases hi; exact sJ hP.l hc encPr Pr.wid encPr_one fun n' ci y hy hwy => rep_pr hP.p n' ci y hy hwy
  | i + 1, hi => simp at hi
 match l, h1 with
 | [a0], _ =>
  obtain ⟨l, rfl, w⟩ := h2 0 a0 rfl
  exact ⟨⟨l⟩, w, h3⟩
variable {base : Nat} {r : Reach} {v : Value} {d : DataW H} {p : List MemPlace}
theorem arg_tms (hP : TmTy P tT tL tS tI) (hv : Value.okWide P W r base tL v) (h : DataW.Trod enc' P W 0 sp held tL v d p) (hw : ∀ y ∈ d.weights P tL, y <= reachBytes) :
  ∃ l : List Tm, (wids l /\ l.length <= 2 ^ 47) /\ Rep env0 (allA W) (allG W) W (.sl 4 (l.map enc)) v := by
 obtain ⟨a, len, cap, rfl⟩ := WideShapes.okWide_slice hP.l hv
 obtain ⟨fuel, h⟩ := h
 obtain ⟨c, l, hc, hr, hq, hl⟩ := lL hP.l hP.c (by omega) hP.b h hw enc Tm.wid (kX rQ) fun n ci y _ hy hwy => rep_tm hP n ci y hy hwy
 obtain rfl : .slice a len cap = c := by simpa [Value.cells] using hc
 exact ⟨l, ⟨nH hq, hl⟩, hr⟩
theorem arg_st {t : TypeId} {ts : List TypeId} (hS : StTy P t ts) (hv : Value.okWide P W r base t v) (h : DataW.Trod enc' P W 0 sp held t v d p) (hw : ∀ y ∈ d.weights P t, y <= reachBytes) {α : Type} {f : α -> AV} {Q : α -> Prop} (hagg : ∀ a, ∃ l, f a = .agg l /\ l.all AV.one = true)
  (hk : ∀ n' ci y, DataW.trod enc' P W 0 sp held n' t ci = some y -> (∀ v ∈ y.1.weights P t, v <= reachBytes) -> ∃ a, Q a /\ Reps env0 (allA W) (allG W) W (f a).cells ci) : ∃ a, Q a /\ Rep env0 (allA W) (allG W) W (f a) v := by
 obtain ⟨fs, h1, -, -⟩ := hS.s
 obtain ⟨cs, rfl, -⟩ := WideShapes.okWide_struct h1 hv
 obtain ⟨fuel, h⟩ := h
 obtain ⟨a, h2, h3⟩ := hk fuel _ _ h hw
 refine ⟨a, h2, ?_⟩
 obtain ⟨l, h4, h5⟩ := hagg a
 rw [h4] at h3 ⊢
 exact rep_agg h5 h3
theorem arg_pg (hP : PgTy P tG tLP tP tLC tC tT tL tS tI) (hv : Value.okWide P W r base tG v) (h : DataW.Trod enc' P W 0 sp held tG v d p) (hw : ∀ y ∈ d.weights P tG, y <= reachBytes) : ∃ c : Pg, c.wid /\ Rep env0 (allA W) (allG W) W (encPg c) v :=
 arg_st hP.s hv h hw (fun _ => ⟨_, rfl, rfl⟩) fun n' ci y hy hwy => rep_pg hP n' ci y hy hwy
end
end Go.Rip
