/- The arguments as they come: what a reading says, the machine's values say. -/
import Derived.ChangeArms
import Derived.ProofKit
import Derived.OpenShut
import Derived.Shelf.Vars
import Derived.HandedShaped
import Derived.Test.YtbndjohkaodecaaGreatDoorRipAK
namespace Go.Rip
open Go
def allA (W : World) : Nat -> Nat -> Prop := fun b o => ∃ v, W.cell? ⟨b, o, none⟩ = some v
def allG (W : World) : Gd := ⟨fun b => b < W.heap.size, fun _ => False⟩
def env0 : Env := ⟨0, fun _ => 0, fun _ => 0, fun _ => undef, fun _ => 0⟩
theorem wf0 {GL : Glob} {W : World} (hgl : ∀ n l, (n, l) ∈ GL -> GlR (allA W) (allG W) W n l) : Wf GL env0 (allA W) (allG W) [] W :=
 ⟨hgl, rfl, fun _ _ h => h, fun _ h => h, fun k x hx => by simp at hx, fun j k x y b hx => by simp at hx, fun b h => h.elim, fun k x b hx => by simp at hx⟩
theorem pF {P : Program} {GL : Glob} {f : FuncId} {c : ACode} {rs : List ARet} {n : Nat} (hk : Coded P f c rs n) {args : List AV} {b : Bool} (hp : Pure (AC P GL) f args (.v (.bool b))) {W : World} (hgl : ∀ n l, (n, l) ∈ GL -> GlR (allA W) (allG W) W n l)
  {vs : List Value} (hv : Reps env0 (allA W) (allG W) W args vs) : Calls P f vs.toArray W fun e W' => e = .returned (.bool b) /\ RowKit.Below W.heap.size W W' := by
 obtain ⟨fn, h1, h2, h3, rfl⟩ := hk
 have h4 := hp [] env0 (allA W) (allG W) W vs (wf0 hgl) hv
 unfold compFn at h3
 split at h3
 ·rename_i body hb
  rcases h4 with ⟨-, h4⟩ | ⟨v, w', h5, -⟩
  ·refine h4.mono fun e W' => ?_
   rintro ⟨E', A', G', r, h', g1, g2, g3, g4, rfl, rfl⟩
   refine ⟨?_, ⟨g2.os, g2.tape, g2.output, g2.size, fun k hk => g2.block k hk⟩⟩
   cases e with
   | panicked => exact g4.elim
   | outgrown => exact g4.elim
   | returned u => simp only [EndRep, Rep] at g4; rw [g4]
  ·rw [cZ h1 h2 hb] at h5
   cases h5
 ·cases h3
def AV.one : AV -> Bool
 | .v x => x.oneCell'
 | .str _ => true
 | .sl _ _ => true
 | _ => false
section
variable {H : Type} {enc' : TypeId × Value -> H} {P : Program} {W : World} {sp : Nat -> Bool} {held : Bool} {fuel : Nat} {t e : TypeId} {cs : List Value} {x : DataW H × List MemPlace}
theorem gJ {v : Nat} : ∀ {ts : List TypeId} {ds : List (DataW H)} {i : Nat} {t : TypeId} {d : DataW H}, ts[i]? = some t -> ds[i]? = some d -> v ∈ d.weights P t -> v ∈ DataW.weightsEach P ts ds
 | [], _, i, _, _, h, _, _ => by simp at h
 | _ :: _, [], i, _, _, _, h, _ => by simp at h
 | t :: ts, d :: ds, 0, _, _, h, h', hv => by
  simp only [List.getElem?_cons_zero, Option.some.injEq] at h h'
  subst h h'
  exact List.mem_append.2 (.inl hv)
 | t :: ts, d :: ds, i + 1, _, _, h, h', hv => List.mem_append.2 (.inr (gJ (by simpa using h) (by simpa using h') hv))
end
structure TmTy (P : Program) (tT tL tS tI : TypeId) : Prop where
 t : ∃ fs, P.underlying tT = some (.struct fs) /\ (P.cellsOf tT == fs.size && (List.range fs.size).all fun i => fs[i]?.all fun (f : Field) => f.offset == i && P.cellsOf f.type == 1) = true /\ fs.toList.map (·.type) = [tI, tI, tS, tL]
 c : P.cellsOf tT = 4
 l : P.underlying tL = some (.slice tT)
 s : P.underlying tS = some .string
 i : P.underlying tI = some (.int .i64)
 b : 1 <= P.bytesOf tT
mutual
def Tm.wid : Tm -> Prop
 | .mk _ _ s l => s.length <= 2 ^ 47 /\ l.length <= 2 ^ 47 /\ wids l
def wids : List Tm -> Prop
 | [] => True
 | t :: r => t.wid /\ wids r
end
theorem iT {H : Type} {enc' : TypeId × Value -> H} {P : Program} (hl : laidOutB P = true) {W W' : World} {sp : Nat -> Bool} (hb : RowKit.Below W.heap.size W W') : ∀ {ts : List TypeId} {vs : List Value} {ds : List (DataW H)} {ps : List MemPlace},
  (ts.all fun t => P.readableRec t && decide (t < P.types.size)) = true -> DataW.TrodAll enc' P W 0 (fun _ => true) true ts vs ds ps -> (∀ p ∈ ps, p.block < W.heap.size) -> (∀ p ∈ ps, sp p.block = true) -> DataW.TrodAll enc' P W' 0 sp true ts vs ds ps
 | [], [], [], _, _, h, _, _ => h
 | t :: ts, v :: vs, d :: ds, ps, ht, h, hlt, hs => by
  simp only [List.all_cons, Bool.and_eq_true, decide_eq_true_eq] at ht
  obtain ⟨p, q, h1, h2, rfl⟩ := h
  refine ⟨p, q, WideElems.Trod_stays hl ht.1.1 ht.1.2 h1 (fun x hx => hb.same (hlt x (List.mem_append.2 (.inl hx)))) (fun x hx => hs x (List.mem_append.2 (.inl hx))), iT hl hb (by simpa using ht.2) h2 (fun x hx => hlt x (List.mem_append.2 (.inr hx))) (fun x hx => hs x (List.mem_append.2 (.inr hx))), rfl⟩
 | [], _ :: _, _, _, _, h, _, _ => h.elim
 | [], [], _ :: _, _, _, h, _, _ => h.elim
 | _ :: _, [], _, _, _, h, _, _ => h.elim
 | _ :: _, _ :: _, [], _, _, h, _, _ => h.elim
theorem post_true {H : Type} {enc' : TypeId × Value -> H} {P : Program} {f : Func} {s : ChangeSpec} {ds : List (DataW H)} {before : List MemPlace} {W W' : World} {args : Array Value} {tB : TypeId} (hW : DataW.Whole enc' P f.params.toList s.vars false W args.toList ds [] before) (hv : s.vars = [])
  (hfn : s.fn H ds = { results := [.lit (.bool true)], args := ds }) (hres : f.resultTypes = #[tB]) (hB : P.underlying tB = some .bool) (hl : laidOutB P = true) (hp : (f.params.toList.all fun t => P.readableRec t && decide (t < P.types.size)) = true) (hb : RowKit.Below W.heap.size W W') :
  s.post enc' P f false true false false W args (.bool true) W' := by
 have hlt : ∀ p ∈ before, p.block < W.heap.size := fun p hp => by simpa using hW.lt p hp
 obtain ⟨p, q, h1, h2, h3, h4, h5⟩ := hW
 rw [hv] at h2
 simp only [DataW.TrodVars] at h2
 subst h2 h3
 rw [List.append_nil] at *
 refine ⟨ds, [], p, [], p, [], ⟨p, [], h1, by rw [hv]; rfl, by simp, h4, h5⟩, ?_, ?_, ?_, ⟨hb.os, hb.output, fun i hi => ?_⟩, fun h => by cases h⟩
 ·rw [List.append_nil, hfn, hres]
  exact ChangeShapes.trodAll_mk1 (RowKit.shut_bool hB _)
 ·rw [List.append_nil, hfn]
  exact iT hl hb hp h1 hlt fun x hx => by simpa using hlt x hx
 ·rw [List.append_nil, hfn, hv]; rfl
 ·rw [hb.block i hi]
  split <;> simp_all
section
variable {H : Type} {enc' : TypeId × Value -> H} {P : Program} {W : World} {sp : Nat -> Bool} {held : Bool}
structure SlTy (P : Program) (t e : TypeId) (z : Nat) : Prop where
 t : P.underlying t = some (.slice e)
 c : P.cellsOf e = z
 z : 0 < z
 b : 1 <= P.bytesOf e
def Cl.wid (c : Cl) : Prop := (wids c.head /\ c.head.length <= 2 ^ 47) /\ (wids c.guard /\ c.guard.length <= 2 ^ 47) /\ wids c.body /\ c.body.length <= 2 ^ 47
def Pr.wid (p : Pr) : Prop := p.name.length <= 2 ^ 47 /\ (∀ c ∈ p.clauses, c.wid) /\ p.clauses.length <= 2 ^ 47
def Pg.wid (p : Pg) : Prop := (∀ q ∈ p.procs, q.wid) /\ p.procs.length <= 2 ^ 47
def Qy.wid (q : Qy) : Prop := wids q.goals /\ q.goals.length <= 2 ^ 47
variable {tG tLP tP tLC tC tT tL tS tI tQ : TypeId}
theorem TmTy.sl (hP : TmTy P tT tL tS tI) : SlTy P tL tT 4 := ⟨hP.l, hP.c, by omega, hP.b⟩
variable {base : Nat} {r : Reach} {v : Value} {d : DataW H} {p : List MemPlace}
end
section
variable {H : Type} {enc' : TypeId × Value -> H} {P : Program} {W : World} {sp : Nat -> Bool} {held : Bool} {base : Nat} {r : Reach} {v : Value} {d : DataW H} {p : List MemPlace} {tS tI : TypeId}
theorem arg_str (ht : P.underlying tS = some .string) (hv : Value.okWide P W r base tS v) (h : DataW.Trod enc' P W 0 sp held tS v d p) (hw : ∀ y ∈ d.weights P tS, y <= reachBytes) :
  ∃ s : List UInt8, s.length <= 2 ^ 47 /\ Rep env0 (allA W) (allG W) W (.str s) v := by
 obtain ⟨fuel, h⟩ := h
 obtain ⟨s, hc, hd, -⟩ := DataW.trod_string ht h
 obtain ⟨s', rfl⟩ := WideShapes.okWide_string ht hv
 obtain rfl : s' = s := by simpa [Value.cells] using hc
 refine ⟨s'.data.toList, ?_, by simp [Rep]⟩
 cases hd
 have := hw _ (by rw [DataW.weights]; exact List.mem_singleton.2 rfl)
 have hr : reachBytes <= 2 ^ 47 := by decide
 omega
theorem glob_nums {fuel : Nat} {t e : TypeId} {k : IntKind} {cs : List Value} {x : DataW H × List MemPlace} {ns : List Int}
  (ht : P.underlying t = some (.array ns.length e)) (he : P.underlying e = some (.int k)) (hc : P.cellsOf e = 1) (h : DataW.trod enc' P W 0 sp held fuel t cs = some x) (hx : x.1 = .agg (ns.map fun n => .lit (.int k n))) {i : Nat} {n : Int} (hs : ns[i]? = some n) : cs[i]? = some (.int k n) := by
 obtain ⟨xs, m, rfl, rfl, h1, h2, h3⟩ := DataW.trod_array ht h
 simp only [DataW.agg.injEq] at hx
 have hi : i < ns.length := (List.getElem?_eq_some_iff.1 hs).1
 have h4 := h3 i hi
 have hix : i < xs.length := by omega
 rw [hc, Nat.mul_one, List.getElem?_eq_getElem hix] at h4
 obtain ⟨b, h5, h6, -⟩ := DataW.trod_int he h4
 have h7 := congrArg (fun l => l[i]?) hx
 simp only [List.getElem?_map, hs, Option.map_some, List.getElem?_eq_getElem hix, Option.some.injEq] at h7
 rw [h6] at h7
 simp only [DataW.lit.injEq, Lit.int.injEq, true_and] at h7
 have h8 : cs[i]? = ((cs.drop i).take 1)[0]? := by simp
 rw [h8, h5]
 subst h7
 simp
def isIf : TypeDesc -> Bool
 | .interface _ => true
 | _ => false
theorem oV {fuel : Nat} {t : TypeId} {cs : List Value} {x : DataW H × List MemPlace} {name : String} {y : DataW H}
  (ht : (P.underlying t).any isIf = true) (h : DataW.trod enc' P W 0 sp held fuel t cs = some x) (hx : x.1 = .iface name y) : ∃ u w, cs = [.iface u w] := by
 cases fuel with
 | zero => simp [DataW.trod] at h
 | succ m =>
  cases hu : P.underlying t with
  | none => rw [hu] at ht; cases ht
  | some td =>
   rw [hu] at ht
   cases td <;> simp [isIf] at ht
   unfold DataW.trod at h
   rw [hu] at h
   split at h <;> simp_all
   all_goals (subst h; cases hx)
end
theorem eS {H : Type} {enc : TypeId × Value -> H} {a : Assume} {C : Checked} {os : Os} {f : FuncId} {fn : Func} {s : ChangeSpec} {conds : List PathCond} {apart fresh handsOn again : Bool} {X : World -> Array Value -> Prop}
  (hX : ∀ (w w' : World) (args : Array Value), w.heap = w'.heap -> X w args -> X w' args)
  (own : ownKnob C.prog.godebug = none) (started : os.Started) (noInit : C.prog.inits.idxOf? f = none) (hfn : C.prog.funcs[f]? = some fn)
  (witness : ∃ (w : World) (tape : Tape) (i : Input), w.os = os /\ (w.forCall tape i).Shaped C.prog /\ i.vars = [] /\ Input.okWide C.prog (w.forCall tape i) .any w.heap.size f i /\
   ((s.pre enc C.prog fn conds apart (w.forCall tape i).memory i.args /\ X (w.forCall tape i).memory i.args) /\ sizedMet enc C.prog fn (OpenSpec.ofChange s) apart (w.forCall tape i).memory i.args) /\ a.holds C.prog (lone (Frame.enter C.prog f i.args .normal) [] (w.forCall tape i)))
  (contract : ∀ (W : World) (base : Nat) (args : Array Value) (ds gs : List (DataW H)) (before : List MemPlace),
   (∀ (j : Nat) t v, fn.params[j]? = some t -> args[j]? = some v -> Value.okWide C.prog W .any base t v) ->
   DataW.Whole enc C.prog fn.params.toList s.vars apart W args.toList ds gs before ->
   (DataW.weightsEach C.prog (fn.params.toList ++ s.plain.varTypes C.prog) (ds ++ gs)).all (· <= reachBytes) = true -> X W args -> W.ShapedOpen C.prog ->
   Calls C.prog f args W fun e W' => ∃ v, e = .returned v /\ s.post enc C.prog fn apart fresh handsOn again W args v W') :
  ReturnsInHanded a C os f .any (fun w args => (s.pre enc C.prog fn conds apart w args /\ X w args) /\ sizedMet enc C.prog fn (OpenSpec.ofChange s) apart w args) (s.post enc C.prog fn apart fresh handsOn again) := by
 refine returnsInHanded_of_calls own started noInit witness ?_
 intro w tape i _ hsh _ hok hpre _
 obtain ⟨_, _, _, fn', hfn', _, _, _, _, hval⟩ := hok
 have e : fn' = fn := Option.some.inj (hfn'.symm.trans hfn)
 subst e
 obtain ⟨⟨⟨ds, gs, before, hw, _⟩, hx⟩, hz⟩ := hpre
 have hw' := DataW.Whole.of_heap (w' := w.forCall tape i) (by rfl) hw
 refine (contract (w.forCall tape i) w.heap.size i.args ds gs before hval hw' (hz.weights hw) (hX _ _ _ (by rfl) hx) hsh).mono fun e W' ⟨v, he, hp⟩ => ?_
 subst he
 exact ChangeSpec.post_blind hp
end Go.Rip
