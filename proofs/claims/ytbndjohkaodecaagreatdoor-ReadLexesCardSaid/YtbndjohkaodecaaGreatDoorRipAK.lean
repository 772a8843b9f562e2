/- Loops with an invariant, states picked, slices that grow from none. -/
import Derived.Laws.RangeAny
import Derived.Laws.RangeString
import Derived.Test.YtbndjohkaodecaaGreatDoorRipAJ
namespace Go.Rip
open Go
def sel (ks : List Nat) (τ : List (Nat × AV)) : List (Nat × AV) := ks.map fun k => (k, tget τ k)
theorem sel_nil (τ : List (Nat × AV)) : sel [] τ = [] := rfl
theorem sel_cons (k : Nat) (ks : List Nat) (τ : List (Nat × AV)) : sel (k :: ks) τ = (k, tget τ k) :: sel ks τ := rfl
theorem Wk.trans {GL : Glob} {m : Nat} {τ τ' τ'' : List (Nat × AV)} {h h' h'' : List AObj} (a : Wk GL m τ h τ' h') (b : Wk GL m τ' h' τ'' h'') : Wk GL m τ h τ'' h'' := by
 intro E A G w f hW hf
 obtain ⟨E', A', G', a1, a2, a3, a4, a5⟩ := a E A G w f hW hf
 obtain ⟨E'', A'', G'', b1, b2, b3, b4, b5⟩ := b E' A' G' w f a1 a2
 exact ⟨E'', A'', G'', b1, b2, a3.trans b3, b4, fun k hk => by
  obtain ⟨c1, c2, c3, c4⟩ := a5 k hk
  obtain ⟨d1, d2, d3, d4⟩ := b5 k hk
  exact ⟨d1.trans c1, d2.trans c2, d3.trans c3, d4.trans c4⟩⟩
def kforI (GL : Glob) (m : Nat) (Inv : Nat -> Prop) (S : Nat -> List (Nat × AV)) (H : Nat -> List AObj) (N j : Nat) (Q : Post) : Post := fun e τ h => match e with
 | .normal => j < N /\ Inv (j + 1) /\ Wk GL m τ h (S (j + 1)) (H (j + 1))
 | .exit id => Q (.exit id) τ h
 | .ret => Q .ret τ h
section
variable {GL : Glob} {m : Nat} {Inv : Nat -> Prop} {S : Nat -> List (Nat × AV)} {H : Nat -> List AObj} {N j : Nat} {Q : Post} {τ : List (Nat × AV)} {h : List AObj}
end
theorem w_forI {GL : Glob} {C : Calling} (hC : C.Mono) {m : Nat} {b : ACode} {Q : Post} {Pn : AV -> List AObj -> Prop} {τ : List (Nat × AV)} {h : List AObj} (Inv : Nat -> Prop) (S : Nat -> List (Nat × AV)) (H : Nat -> List AObj) (N : Nat)
  (hi : Inv 0) (h0 : Wk GL m τ h (S 0) (H 0)) (hs : ∀ j, j <= N -> Inv j -> wpA GL C m b (kforI GL m Inv S H N j Q) Pn (S j) (H j)) : wpA GL C m (.loop b) Q Pn τ h := by
 refine ⟨fun τ h n => ∃ j, j <= N /\ Inv j /\ τ = S j /\ h = H j /\ n = N - j, ⟨S 0, H 0, N, h0, 0, Nat.zero_le _, hi, rfl, rfl, rfl⟩, ?_⟩
 rintro τ h n ⟨j, hj, hij, rfl, rfl, rfl⟩
 refine dC hC (fun _ _ h => h) b ?_ _ _ (hs j hj hij)
 intro e τ h he
 cases e <;> simp only [kforI, kloop] at he ⊢
 ·exact ⟨_, _, N - (j + 1), by omega, he.2.2, j + 1, by omega, he.2.1, rfl, rfl, rfl⟩
 ·exact he
 ·exact he
attribute [go_sem] sel_nil sel_cons
def gdO (t : Bool) (GL : Glob) (C : Calling) (d : Option Nat) (op : AOp) (os : List AEnt) (τ : List (Nat × AV)) (h : List AObj) (K : List (Nat × AV) -> List AObj -> Prop) (Pn : AV -> List AObj -> Prop) : Prop :=
 condP t (opsA GL C ((d, none, op) :: os) τ h K Pn) (opsA GL C os (aput τ d (.v undef)) h K Pn)
def pkO (t : Bool) (GL : Glob) (C : Calling) (d : Option Nat) (x y : AV) (os : List AEnt) (τ : List (Nat × AV)) (h : List AObj) (K : List (Nat × AV) -> List AObj -> Prop) (Pn : AV -> List AObj -> Prop) : Prop :=
 condP t (opsA GL C os (aput τ d x) h K Pn) (opsA GL C os (aput τ d y) h K Pn)
def cdO (t : Bool) (GL : Glob) (C : Calling) (m : Nat) (a b : ACode) (Q : Post) (Pn : AV -> List AObj -> Prop) (τ : List (Nat × AV)) (h : List AObj) : Prop :=
 condP t (wpA GL C m a Q Pn τ h) (wpA GL C m b Q Pn τ h)
section
variable {GL : Glob} {C : Calling} {os : List AEnt} {τ : List (Nat × AV)} {h : List AObj} {K : List (Nat × AV) -> List AObj -> Prop} {Pn : AV -> List AObj -> Prop} {d : Option Nat} {op : AOp} {x y : AV} {m : Nat} {Q : Post} {c c' : ACode} {t : Bool}
theorem gdO_true : gdO true GL C d op os τ h K Pn = opsA GL C ((d, none, op) :: os) τ h K Pn := eX _ _
theorem gdO_false : gdO false GL C d op os τ h K Pn = opsA GL C os (aput τ d (.v undef)) h K Pn := dZ _ _
theorem bF (h1 : t = true -> gdO true GL C d op os τ h K Pn) (h2 : t = false -> gdO false GL C d op os τ h K Pn) : gdO t GL C d op os τ h K Pn := by cases t; exact h2 rfl; exact h1 rfl
theorem pkO_true : pkO true GL C d x y os τ h K Pn = opsA GL C os (aput τ d x) h K Pn := eX _ _
theorem pkO_false : pkO false GL C d x y os τ h K Pn = opsA GL C os (aput τ d y) h K Pn := dZ _ _
theorem bD (h1 : t = true -> pkO true GL C d x y os τ h K Pn) (h2 : t = false -> pkO false GL C d x y os τ h K Pn) : pkO t GL C d x y os τ h K Pn := by cases t; exact h2 rfl; exact h1 rfl
theorem cdO_true : cdO true GL C m c c' Q Pn τ h = wpA GL C m c Q Pn τ h := eX _ _
theorem cdO_false : cdO false GL C m c c' Q Pn τ h = wpA GL C m c' Q Pn τ h := dZ _ _
theorem bA (h1 : t = true -> cdO true GL C m c c' Q Pn τ h) (h2 : t = false -> cdO false GL C m c c' Q Pn τ h) : cdO t GL C m c c' Q Pn τ h := by cases t; exact h2 rfl; exact h1 rfl
theorem g_guard {j : Nat} {b : Bool} : opsA GL C ((d, some (j, b), op) :: os) τ h K Pn = match gdW (tget τ j) b with
  | some t => gdO t GL C d op os τ h K Pn
  | none => False := rfl
theorem g_pick {c a b : AOpd} : opsA GL C ((d, none, .pick c a b) :: os) τ h K Pn = (match aeval GL τ c with
  | .v (.bool t) => pkO t GL C d (aeval GL τ a) (aeval GL τ b) os τ h K Pn
  | _ => False) := rfl
theorem g_cond {c : AOpd} {a b : ACode} : wpA GL C m (.cond c a b) Q Pn τ h = match aeval GL τ c with
  | .v (.bool t) => cdO t GL C m a b Q Pn τ h
  | _ => False := rfl
end
inductive Fr where
 | sq (b : ACode)
 | bl (id : Nat)
 | lp (I : List (Nat × AV) -> List AObj -> Prop)
def klp (I : List (Nat × AV) -> List AObj -> Prop) (Q : Post) : Post := fun e τ h => match e with
 | .normal => I τ h
 | .exit id => Q (.exit id) τ h
 | .ret => Q .ret τ h
def pst (GL : Glob) (C : Calling) (m : Nat) (Pn : AV -> List AObj -> Prop) : List Fr -> Post -> Post
 | [], Q => Q
 | .sq b :: r, Q => kseq (wpA GL C m b (pst GL C m Pn r Q) Pn) (pst GL C m Pn r Q)
 | .bl id :: r, Q => kblock id (pst GL C m Pn r Q)
 | .lp I :: r, Q => klp I (pst GL C m Pn r Q)
section
variable {GL : Glob} {C : Calling} {m : Nat} {Pn : AV -> List AObj -> Prop} {s : List Fr} {Q : Post} {τ : List (Nat × AV)} {h : List AObj} {a b : ACode} {id id' : Nat} {I : List (Nat × AV) -> List AObj -> Prop}
theorem s_seq : wpA GL C m (.seq a b) (pst GL C m Pn s Q) Pn τ h = wpA GL C m a (pst GL C m Pn (.sq b :: s) Q) Pn τ h := rfl
theorem s_block : wpA GL C m (.block id b) (pst GL C m Pn s Q) Pn τ h = wpA GL C m b (pst GL C m Pn (.bl id :: s) Q) Pn τ h := rfl
theorem s_skip : wpA GL C m .skip (pst GL C m Pn s Q) Pn τ h = pst GL C m Pn s Q .normal τ h := rfl
theorem s_exit : wpA GL C m (.exit id) (pst GL C m Pn s Q) Pn τ h = pst GL C m Pn s Q (.exit id) τ h := rfl
theorem s_ret : wpA GL C m .ret (pst GL C m Pn s Q) Pn τ h = pst GL C m Pn s Q .ret τ h := rfl
theorem s_region {ops : List AEnt} : wpA GL C m (.region ops) (pst GL C m Pn s Q) Pn τ h = opsA GL C ops τ h (pst GL C m Pn s Q .normal) Pn := rfl
theorem p_nil {e : AExit} : pst GL C m Pn [] Q e τ h = Q e τ h := rfl
theorem p_sq_n : pst GL C m Pn (.sq b :: s) Q .normal τ h = wpA GL C m b (pst GL C m Pn s Q) Pn τ h := rfl
theorem p_sq_e : pst GL C m Pn (.sq b :: s) Q (.exit id) τ h = pst GL C m Pn s Q (.exit id) τ h := rfl
theorem p_sq_r : pst GL C m Pn (.sq b :: s) Q .ret τ h = pst GL C m Pn s Q .ret τ h := rfl
theorem p_bl_n : pst GL C m Pn (.bl id :: s) Q .normal τ h = pst GL C m Pn s Q .normal τ h := rfl
theorem p_bl_e : pst GL C m Pn (.bl id :: s) Q (.exit id') τ h = match Nat.beq id' id with
  | true => pst GL C m Pn s Q .normal τ h
  | false => pst GL C m Pn s Q (.exit id') τ h := rfl
theorem p_bl_r : pst GL C m Pn (.bl id :: s) Q .ret τ h = pst GL C m Pn s Q .ret τ h := rfl
theorem p_lp_n : pst GL C m Pn (.lp I :: s) Q .normal τ h = I τ h := rfl
theorem p_lp_e : pst GL C m Pn (.lp I :: s) Q (.exit id) τ h = pst GL C m Pn s Q (.exit id) τ h := rfl
theorem p_lp_r : pst GL C m Pn (.lp I :: s) Q .ret τ h = pst GL C m Pn s Q .ret τ h := rfl
theorem s_body {c : ACode} {rs : List ARet} {args : List AV} {R : ARes -> List AObj -> Prop} :
  bodyA GL C c rs args h R = wpA GL C h.length c (pst GL C h.length (kpanic GL h.length R) [] (kret GL h.length rs R)) (kpanic GL h.length R) (args0 0 args) h := rfl
theorem s_for (hC : C.Mono) (Inv : Nat -> Prop) (S : Nat -> List (Nat × AV)) (H : Nat -> List AObj) (N : Nat)
  (hi : Inv 0) (h0 : Wk GL m τ h (S 0) (H 0)) (hs : ∀ j, j <= N -> Inv j -> wpA GL C m b (pst GL C m Pn (.lp (fun τ h => j < N /\ Inv (j + 1) /\ Wk GL m τ h (S (j + 1)) (H (j + 1))) :: s) Q) Pn (S j) (H j)) :
  wpA GL C m (.loop b) (pst GL C m Pn s Q) Pn τ h := by
 refine w_forI hC Inv S H N hi h0 fun j hj hij => dC hC (fun _ _ h => h) b ?_ _ _ (hs j hj hij)
 intro e τ h he
 cases e <;> exact he
theorem aC (hC : C.Mono) {f : FuncId} {args : List AV} {v : AV} (hp : Pure C f args v) {R : ARes -> List AObj -> Prop} (hR : R (.val v) h) : C (.fn f) args h R :=
 hC (.fn f) args h _ _ (fun r h' e => by rw [e.1, e.2]; exact hR) (hp h)
end
def Coded (P : Program) (f : FuncId) (c : ACode) (rs : List ARet) (n : Nat) : Prop := ∃ fn, P.funcs[f]? = some fn /\ (fn.name == "runtime.NumGoroutine") = false /\ compFn P fn = some (c, rs) /\ fn.ntmps = n
theorem Coded.call {P : Program} {GL : Glob} {f : FuncId} {c : ACode} {rs : List ARet} {n : Nat} (hc : Coded P f c rs n) {args : List AV} {h : List AObj} {R : ARes -> List AObj -> Prop} (ha : args.length <= n)
  (hs : bodyA GL (AC P GL) c rs args h R) : ACall P GL f args h R := by
 obtain ⟨fn, h1, h2, h3, rfl⟩ := hc
 exact iO h1 h2 h3 ha hs
theorem Coded.pure {P : Program} {GL : Glob} {f : FuncId} {c : ACode} {rs : List ARet} {n : Nat} (hc : Coded P f c rs n) {args : List AV} {v : AV} (ha : args.length <= n) (hb : bds 0 args) (hv : bd 0 v)
  (hs : bodyA GL (AC P GL) c rs args [] fun r h => h = [] /\ r = .val v) : Pure (AC P GL) f args v := aN hb hv (hc.call ha hs)
theorem dJ {α : Type} {l : List α} {j : Nat} (h : j < l.length) : l.take (j + 1) = l.take j ++ [l[j]] := by simp
theorem jS {α : Type} {f : α -> AV} {l : List α} {j : Nat} (h : j < l.length) : (l.map f).getD j .any = f l[j] := by simp [List.getD, h]
attribute [go_sem ↓] gdO_true gdO_false pkO_true pkO_false cdO_true cdO_false g_guard g_pick g_cond s_seq s_block s_skip s_exit s_ret s_region p_nil p_sq_n p_sq_e p_sq_r p_bl_n p_bl_e p_bl_r p_lp_n p_lp_e p_lp_r s_body
attribute [go_sem] List.length_map
def mkT (P : Program) : Tab := fun f => match P.funcs[f]? with
 | some fn => match fn.name == "runtime.NumGoroutine", compFn P fn with
  | false, some (c, r) => some (c, r, fn.ntmps)
  | _, _ => none
 | none => none
theorem mkT_ok (P : Program) : TabOk P (mkT P) := by
 intro f c rs n h
 unfold mkT at h
 split at h
 ·rename_i fn hf
  split at h
  ·rename_i c' r' h1 h2
   cases h
   exact ⟨fn, hf, h1, h2, rfl⟩
  ·cases h
 ·cases h
def mkKC (P : Program) : CompF := fun n c => comp P (n, []) c
theorem mkKC_ok (P : Program) : KOk P (mkKC P) := fun _ _ _ h => h
def mkK (P : Program) : KTab := fun g => match P.funcs[g]? with
 | some fn => match fn.name == "runtime.NumGoroutine", compRec P fn, fn.results.toList, fn.body with
  | false, some (r, x, c), [], some _ => some (r, x, c, fn.ntmps)
  | _, _, _, _ => none
 | none => none
theorem mkK_ok (P : Program) : ∀ g r x c n, mkK P g = some (r, x, c, n) -> ∃ gfn, P.funcs[g]? = some gfn /\ (gfn.name == "runtime.NumGoroutine") = false /\ compRec P gfn = some (r, x, c) /\ gfn.results = #[] /\ (∃ c, gfn.body = some c) /\ n = gfn.ntmps := by
 intro g r x c n h
 unfold mkK at h
 split at h
 ·rename_i fn hf
  split at h
  ·rename_i r' x' c' b h1 h2 h3 h4
   cases h
   exact ⟨fn, hf, h1, h2, by rw [<- Array.toList_inj, h3], ⟨b, h4⟩, rfl⟩
  ·cases h
 ·cases h
def splitLast : List Oper -> Option (List Oper × Oper)
 | [] => none
 | [o] => some ([], o)
 | o :: r => match splitLast r with
  | some (l, x) => some (o :: l, x)
  | none => none
theorem gV : ∀ {l a : List Oper} {x : Oper}, splitLast l = some (a, x) -> l = a ++ [x]
 | [], a, x, h => by simp [splitLast] at h
 | [o], a, x, h => by simp only [splitLast, Option.some.injEq, Prod.mk.injEq] at h; obtain ⟨rfl, rfl⟩ := h; rfl
 | o :: o' :: r, a, x, h => by
  rw [splitLast] at h
  split at h
  ·rename_i l y hl
   cases h
   have := gV hl
   rw [this]; rfl
  ·cases h
  ·simp
def isDefer (o : Oper) : Option Nat :=
 match o.op, o.guard, o.dst with
 | .defer ⟨.value (.tmp t), as, _⟩, none, none => match as.toList with
  | [] => some t
  | _ => none
 | _, _, _ => none
theorem qT {o : Oper} {t : Nat} (h : isDefer o = some t) : (∃ ats, o.op = .defer ⟨.value (.tmp t), #[], ats⟩) /\ o.guard = none /\ o.dst = none := by
 unfold isDefer at h
 split at h
 ·rename_i t' as ats h1 h2 h3
  split at h
  ·rename_i h4
   cases h
   have : as = #[] := by rw [<- Array.toList_inj, h4]
   subst this
   exact ⟨⟨ats, h1⟩, h2, h3⟩
  ·cases h
 ·cases h
def splitDefer : Code -> Option (List Code × Nat × Array Oper × List Oper × Oper × Nat × Code)
 | .seq (.region id ops false) rest => match splitLast ops.toList with
  | some (init, od) => match isDefer od with
   | some t => some ([], id, ops, init, od, t, rest)
   | none => match splitDefer rest with
    | some (pre, r) => some (.region id ops false :: pre, r)
    | none => none
  | none => none
 | .seq a rest => match splitDefer rest with
  | some (pre, r) => some (a :: pre, r)
  | none => none
 | _ => none
theorem mH : ∀ (c : Code) {pre : List Code} {id : Nat} {ops : Array Oper} {init : List Oper} {od : Oper} {t : Nat} {rest : Code}, splitDefer c = some (pre, id, ops, init, od, t, rest) ->
  c = spineCode pre (.seq (.region id ops false) rest) /\ ops.toList = init ++ [od] /\ isDefer od = some t := by
 intro c
 fun_induction splitDefer c with
 | case1 rest id ops init od hl t ht =>
  intro pre id ops init od t rest h
  cases h
  exact ⟨rfl, gV hl, ht⟩
 | case2 rest id ops init od hl ht pre r hs ih =>
  intro pre id ops init od t rest h
  cases h
  obtain ⟨h1, h2, h3⟩ := ih hs
  exact ⟨by rw [h1]; rfl, h2, h3⟩
 | case3 => intro _ _ _ _ _ _ _ h; cases h
 | case4 => intro _ _ _ _ _ _ _ h; cases h
 | case5 a rest _ pre r hs ih =>
  intro pre id ops init od t rest h
  cases h
  obtain ⟨h1, h2, h3⟩ := ih hs
  exact ⟨by rw [h1]; rfl, h2, h3⟩
 | case6 => intro _ _ _ _ _ _ _ h; cases h
 | case7 => intro _ _ _ _ _ _ _ h; cases h
def mkD (P : Program) : FuncId -> Option DFn := fun f => match P.funcs[f]? with
 | some fn => match fn.name == "runtime.NumGoroutine", fn.body with
  | false, some c => match splitDefer c with
   | some (pre, _, ops, init, _, t, rest) => match compPre P (fn.ntmps, []) pre, compOps P (fn.ntmps, []) ops init, comp P (fn.ntmps, fn.results.toList.map resT) rest, compRets P fn.results.toList with
    | some as, some es, some c2, some rs => match noRF c2 with
     | true => some ⟨as, es, t, c2, rs, fn.ntmps⟩
     | false => none
    | _, _, _, _ => none
   | none => none
  | _, _ => none
 | none => none
theorem mkD_ok (P : Program) (GL : Glob) : DeferOk P GL (mkK P) (mkD P) := by
 intro f d h args hh R ha hs
 unfold mkD at h
 split at h
 ·rename_i fn hf
  split at h
  ·rename_i c h1 h2
   split at h
   ·rename_i pre id ops init od t rest h3
    split at h
    ·rename_i as es c2 rs h4 h5 h6 h7
     split at h
     ·rename_i h8
      cases h
      obtain ⟨g1, g2, g3⟩ := mH c h3
      obtain ⟨⟨ats, g4⟩, g5, g6⟩ := qT g3
      exact oJ (K := mkK P) (mkK_ok P) hf h1 (by rw [h2, g1]) g2 g4 g5 g6 h4 h5 h6 h8 h7 (fun x hx => List.mem_map.2 ⟨x, hx, rfl⟩) ha hs
     ·cases h
    ·cases h
   ·cases h
  ·cases h
 ·cases h
def withD (P : Program) (GL : Glob) (N : CallF) : ExF -> CallF := fun ex f args h => match N f args h with
 | some r => some r
 | none => runDefer GL ex (fun _ _ _ => none) (mkK P) (mkD P) f args h
theorem lV {P : Program} {GL : Glob} {N : CallF} (hN : SoundC P GL N) : SoundX P GL (withD P GL N) := by
 intro ex hex f args h r h' he R hR
 unfold withD at he
 split at he
 ·rename_i p hp
  cases he
  exact hN _ _ _ _ _ hp R hR
 ·exact nQ hex (fun _ _ _ _ _ h => by cases h) (mkD_ok P GL) _ _ _ _ _ he R hR
theorem reckon {P : Program} {GL : Glob} {N : CallF} (hN : SoundC P GL N) {n : Nat} {f : FuncId} {args : List AV} {h h' : List AObj} {r : ARes} (he : evCall GL (mkT P) (mkKC P) (withD P GL N) n (.fn f) args h = some (r, h')) {R : ARes -> List AObj -> Prop} (hR : R r h') : ACall P GL f args h R :=
 lW (fZ (mkT_ok P) (mkKC_ok P) (lV hN) (ev_sound (mkT_ok P) (mkKC_ok P) (lV hN) n)) (.fn f) args h r h' he R hR
section
variable (φ : Nat -> Nat -> Nat -> AV)
mutual
def fzG : AV -> AV
 | .agg l => .agg (fzGs l)
 | .tup l => .tup (fzGs l)
 | .sl sz l => .sl sz (fzGs l)
 | .own _ sz l => .sl sz (fzGs l)
 | .pel l => .pel (fzGs l)
 | .imp ks vs => .imp (fzGs ks) (fzGs vs)
 | .fn f a b => .fn f (fzGs a) (fzGs b)
 | .iface t x => .iface t (fzG x)
 | .vec k sz m => φ k sz m
 | .any => .any
 | .v x => .v x
 | .str l => .str l
 | .ref k o => .ref k o
 | .eref k i o => .eref k i o
 | .view k sz a m => .view k sz a m
 | .mp k => .mp k
 | .yld k => .yld k
def fzGs : List AV -> List AV
 | [] => []
 | x :: xs => fzG x :: fzGs xs
end
end
def Cell1 (φ : Nat -> Nat -> Nat -> AV) : Prop := ∀ k s m, (φ k s m).cells = [φ k s m]
theorem dW {φ : Nat -> Nat -> Nat -> AV} : ∀ l, (fzGs φ l).length = l.length
 | [] => rfl
 | x :: xs => by simp [fzGs, dW xs]
theorem kX {φ : Nat -> Nat -> Nat -> AV} (hφ : Cell1 φ) (x : AV) : (fzG φ x).cells = fzGs φ x.cells := by cases x <;> first | exact hφ _ _ _ | simp [fzG, fzGs, AV.cells]
theorem nI {φ : Nat -> Nat -> Nat -> AV} : ∀ l, fzGs φ l = l.map (fzG φ)
 | [] => rfl
 | x :: xs => by simp [fzGs, nI xs]
abbrev fz : AV -> AV := fzG fun k s m => .vec k s m
abbrev fzs : List AV -> List AV := fzGs fun k s m => .vec k s m
section
variable {E : Env} {A : Nat -> Nat -> Prop} {G : Gd} {w : World} {φ : Nat -> Nat -> Nat -> AV}
mutual
theorem Rep.fzG (h1φ : Cell1 φ) (hφ : ∀ k s m v, Rep E A G w (.vec k s m) v -> Rep E A G w (φ k s m) v) : ∀ (x : AV) (v : Value), Rep E A G w x v -> Rep E A G w (fzG φ x) v
 | .any, _, _ => by simp [fzG, Rep]
 | .v x, _, h => by simpa [fzG, Rep] using h
 | .str l, _, h => by simpa [fzG, Rep] using h
 | .agg l, _, h => by
  simp only [fzG, Rep] at h ⊢
  obtain ⟨cs, rfl, ho, h⟩ := h
  exact ⟨cs, rfl, ho, Reps.fzG h1φ hφ l _ h⟩
 | .tup l, _, h => by
  simp only [fzG, Rep] at h ⊢
  obtain ⟨cs, rfl, h⟩ := h
  exact ⟨cs, rfl, Reps.fzG h1φ hφ l _ h⟩
 | .sl sz l, _, h => by
  simp only [fzG, Rep] at h ⊢
  obtain ⟨p, n, c, rfl, h1, h2, h3, h⟩ := h
  refine ⟨p, n, c, rfl, by rw [h1, dW], h2, h3, ?_⟩
  rcases h with h | ⟨b, o, hp, h⟩
  ·subst h; exact .inl rfl
  ·exact .inr ⟨b, o, hp, RepL.fzG h1φ hφ sz l b o h⟩
 | .own k sz l, _, h => by
  simp only [fzG, Rep] at h ⊢
  obtain ⟨_, _, p, n, c, rfl, h1, h2, h3, h⟩ := h
  refine ⟨p, n, c, rfl, by rw [h1, dW], h2, h3, ?_⟩
  rcases h with h | ⟨b, o, hp, h⟩
  ·subst h; exact .inl rfl
  ·exact .inr ⟨b, o, hp, RepL.fzG h1φ hφ sz l b o h⟩
 | .pel l, _, h => by
  simp only [fzG, Rep] at h ⊢
  obtain ⟨b, o, rfl, h⟩ := h
  exact ⟨b, o, rfl, RepC.fzG h1φ hφ l b o h⟩
 | .ref .., _, h => by simpa [fzG] using h
 | .eref .., _, h => by simpa [fzG] using h
 | .view .., _, h => by simpa [fzG] using h
 | .vec k s m, v, h => by simpa [fzG] using hφ k s m v h
 | .mp _, _, h => by simpa [fzG] using h
 | .yld _, _, h => by simpa [fzG] using h
 | .imp ks vs, _, h => by
  simp only [fzG, Rep] at h ⊢
  obtain ⟨b, es, cl, rfl, hg, hb, h1, h2⟩ := h
  exact ⟨b, es, cl, rfl, hg, hb, Reps.fzG h1φ hφ ks _ h1, Reps.fzG h1φ hφ vs _ h2⟩
 | .fn f first cap, _, h => by
  simp only [fzG, Rep] at h ⊢
  obtain ⟨a, b, rfl, h1, h2⟩ := h
  exact ⟨a, b, rfl, Reps.fzG h1φ hφ first _ h1, Reps.fzG h1φ hφ cap _ h2⟩
 | .iface t x, _, h => by
  simp only [fzG, Rep] at h ⊢
  obtain ⟨u, rfl, h⟩ := h
  exact ⟨u, rfl, Rep.fzG h1φ hφ x u h⟩
theorem Reps.fzG (h1φ : Cell1 φ) (hφ : ∀ k s m v, Rep E A G w (.vec k s m) v -> Rep E A G w (φ k s m) v) : ∀ (l : List AV) (vs : List Value), Reps E A G w l vs -> Reps E A G w (fzGs φ l) vs
 | [], _, h => by simpa [fzGs, Reps] using h
 | x :: xs, _, h => by
  simp only [fzGs, Reps] at h ⊢
  obtain ⟨u, us, rfl, h1, h2⟩ := h
  exact ⟨u, us, rfl, Rep.fzG h1φ hφ x u h1, Reps.fzG h1φ hφ xs us h2⟩
theorem RepC.fzG (h1φ : Cell1 φ) (hφ : ∀ k s m v, Rep E A G w (.vec k s m) v -> Rep E A G w (φ k s m) v) : ∀ (l : List AV) (b o : Nat), RepC E A G w b o l -> RepC E A G w b o (fzGs φ l)
 | [], _, _, _ => by simp [fzGs, RepC]
 | x :: xs, b, o, h => by
  simp only [fzGs, RepC] at h ⊢
  obtain ⟨⟨u, hc, ha, ho, h1⟩, h2⟩ := h
  exact ⟨⟨u, hc, ha, ho, Rep.fzG h1φ hφ x u h1⟩, RepC.fzG h1φ hφ xs b (o + 1) h2⟩
theorem RepL.fzG (h1φ : Cell1 φ) (hφ : ∀ k s m v, Rep E A G w (.vec k s m) v -> Rep E A G w (φ k s m) v) (sz : Nat) : ∀ (l : List AV) (b o : Nat), RepL E A G w sz b o l -> RepL E A G w sz b o (fzGs φ l)
 | [], _, _, _ => by simp [fzGs, RepL]
 | .agg cs :: xs, b, o, h => by
  simp only [fzGs, fzG, RepL, dW] at h ⊢
  exact ⟨h.1, RepC.fzG h1φ hφ cs b o h.2.1, RepL.fzG h1φ hφ sz xs b (o + sz) h.2.2⟩
 | .any :: xs, b, o, h | .v _ :: xs, b, o, h | .str _ :: xs, b, o, h | .tup _ :: xs, b, o, h | .sl _ _ :: xs, b, o, h | .own _ _ _ :: xs, b, o, h | .pel _ :: xs, b, o, h
 | .ref _ _ :: xs, b, o, h | .eref _ _ _ :: xs, b, o, h | .vec _ _ _ :: xs, b, o, h | .view _ _ _ _ :: xs, b, o, h | .mp _ :: xs, b, o, h | .imp _ _ :: xs, b, o, h | .fn _ _ _ :: xs, b, o, h
 | .yld _ :: xs, b, o, h | .iface _ _ :: xs, b, o, h => by
  have hx := h
  rw [fzGs, cG, kX h1φ, dW]
  rw [cG] at hx
  simp only [AV.cells, fzGs, RepC] at hx ⊢
  exact ⟨hx.1, ⟨⟨hx.2.1.1.choose, hx.2.1.1.choose_spec.1, hx.2.1.1.choose_spec.2.1, hx.2.1.1.choose_spec.2.2.1, Rep.fzG h1φ hφ _ _ hx.2.1.1.choose_spec.2.2.2⟩, trivial⟩, RepL.fzG h1φ hφ sz xs b (o + sz) hx.2.2⟩
end
end
theorem Rep.fz {E : Env} {A : Nat -> Nat -> Prop} {G : Gd} {w : World} (x : AV) (v : Value) (h : Rep E A G w x v) : Rep E A G w (fz x) v := Rep.fzG (fun _ _ _ => rfl) (fun _ _ _ _ h => h) x v h
theorem Reps.fz {E : Env} {A : Nat -> Nat -> Prop} {G : Gd} {w : World} (l : List AV) (vs : List Value) (h : Reps E A G w l vs) : Reps E A G w (fzs l) vs := Reps.fzG (fun _ _ _ => rfl) (fun _ _ _ _ h => h) l vs h
def fzN (h : List AObj) : Nat -> AV -> AV
 | 0 => fz
 | n + 1 => fzG fun k s m => match h[k]? with
  | some (.buf _ _s' l) => match Nat.ble m l.length with
   | true => .sl s ((l.take m).map (fzN h n))
   | false => .vec k s m
  | _ => .vec k s m
theorem fzN_cells (h : List AObj) : ∀ (n : Nat) (x : AV), (fzN h n x).cells = x.cells.map (fzN h n)
 | 0, x => by
  show (fzG _ x).cells = _
  rw [kX (fun _ _ _ => rfl), nI]; rfl
 | n + 1, x => by
  show (fzG _ x).cells = _
  rw [kX, nI]
  ·rfl
  ·intro k s m
   dsimp only
   split
   ·split <;> rfl
   ·rfl
def bufA (h : List AObj) (E : Env) (A : Nat -> Nat -> Prop) : Nat -> Nat -> Prop := fun b o => A b o ∨ ∃ k T s l, h[k]? = some (.buf T s l) /\ b = E.blk k /\ o < l.length * s
theorem sZ {GL : Glob} {E : Env} {A : Nat -> Nat -> Prop} {G : Gd} {w : World} {h : List AObj} (hW : Wf GL E A G h w) : Ext A G w (bufA h E A) G w :=
 ⟨fun _ _ => .inl, fun _ h => h, fun _ _ _ => rfl, fun _ _ => rfl, Nat.le_refl _, rfl, rfl, rfl, fun _ => Iff.rfl, fun b hb => ⟨rfl, fun o ho => ho.resolve_right (by
  rintro ⟨k, T, s, l, hk, rfl, _⟩
  exact hW.ho k _ _ hk rfl hb), id⟩⟩
theorem iN {w : World} {b o : Nat} {cs : Array Value} {T : TypeId} (hb : w.heap[b]? = some (.cells cs T (0, 0))) {u : Value} (hu : cs.toList[o]? = some u) : w.cell? ⟨b, o, none⟩ = some u := by
 rw [cell_of_row _ _ o cs T (0, 0) hb]
 simpa using hu
theorem tJ {s : Nat} : ∀ {l : List AV} (_ : ∀ x ∈ l, x.cells.length = s) {i j : Nat} {x c : AV}, l[i]? = some x -> x.cells[j]? = some c -> (l.flatMap AV.cells)[i * s + j]? = some c
 | [], _, i, j, x, c, hx, _ => by simp at hx
 | y :: ys, hl, 0, j, x, c, hx, hc => by
  simp at hx; subst hx
  rw [List.flatMap_cons, Nat.zero_mul, Nat.zero_add, List.getElem?_append_left (List.getElem?_eq_some_iff.1 hc).1]
  exact hc
 | y :: ys, hl, i + 1, j, x, c, hx, hc => by
  rw [List.flatMap_cons, List.getElem?_append_right (by rw [hl y (by simp), Nat.add_mul]; omega), hl y (by simp)]
  rw [show (i + 1) * s + j - s = i * s + j by rw [Nat.add_mul]; omega]
  exact tJ (fun x hx => hl x (by simp [hx])) (by simpa using hx) hc
theorem Rep.fzN {GL : Glob} {E : Env} {A : Nat -> Nat -> Prop} {G : Gd} {w : World} {h : List AObj} (hW : Wf GL E A G h w) : ∀ (n : Nat) (x : AV) (v : Value), Rep E (bufA h E A) G w x v -> Rep E (bufA h E A) G w (fzN h n x) v
 | 0, x, v, hr => Rep.fz x v hr
 | n + 1, x, v, hr => by
  refine Rep.fzG (fun k s m => ?_) (fun k s m v hv => ?_) x v hr
  ·split
   ·split <;> rfl
   ·rfl
  split
  ·rename_i T s' l hk
   split
   ·rename_i hm
    have hm := Nat.le_of_ble_eq_true hm
    obtain ⟨cs, g1, g2, g3, g4, g5, g6, g7, g8, g9⟩ := hW.o k _ hk
    simp only [Rep] at hv ⊢
    obtain ⟨hkn, hwid, rfl, h1, h2, h3⟩ := hv
    have hs : s' = s := by rw [<- g3, hwid]
    subst hs
    refine ⟨_, _, _, rfl, by simp; omega, h1, h2, .inr ⟨_, _, rfl, RepL.of_get fun i y hy => ?_⟩⟩
    rw [List.getElem?_map, Option.map_eq_some_iff] at hy
    obtain ⟨z, hz, rfl⟩ := hy
    have hlt : i < (l.take m).length := (List.getElem?_eq_some_iff.1 hz).1
    have hzl : l[i]? = some z := by
     rw [List.getElem?_take] at hz
     split at hz
     ·exact hz
     ·cases hz
    have hzm := g6 z (List.mem_of_getElem? hzl)
    rw [fzN_cells, List.length_map]
    refine ⟨hzm, RepC.of_get fun j c hc => ?_⟩
    rw [List.getElem?_map, Option.map_eq_some_iff] at hc
    obtain ⟨c0, hc0, rfl⟩ := hc
    obtain ⟨u, hu, hru⟩ := g7.get (tJ g6 hzl hc0)
    rw [List.getElem?_take] at hu
    split at hu
    ·rename_i hlt2
     rw [Nat.zero_add]
     exact ⟨u, iN g1 hu, .inr ⟨k, T, s', l, hk, rfl, hlt2⟩, g2 u (List.mem_of_getElem? hu), Rep.fzN hW n c0 u (hru.mono E.le_refl (sZ hW))⟩
    ·cases hu
   ·exact hv
  ·exact hv
theorem ACall.wk {P : Program} {GL : Glob} {f : FuncId} {args : List AV} {h : List AObj} {R : ARes -> List AObj -> Prop} (hc : ACall P GL f args h fun r h' => ∃ x y h'', r = .val x /\ Wk GL h.length [(0, x)] h' [(0, y)] h'' /\ R (.val y) h'') : ACall P GL f args h R := by
 intro E A G w vs hW ha
 refine (hc E A G w vs hW ha).mono fun e w' => ?_
 rintro ⟨E', A', G', r, h', g1, g2, g3, g4, x, y, h'', rfl, g5, g6⟩
 cases e with
 | panicked => exact g4.elim
 | outgrown => exact g4.elim
 | returned v =>
  obtain ⟨E2, A2, G2, k1, k2, k3, k4, k5⟩ := g5 E' A' G' w' (fun i => if i = 0 then v else undef) g1 (fun i => by
   simp only [tget]
   split
   ·rename_i hb; rw [if_pos (Nat.eq_of_beq_eq_true hb)]; exact g4
   ·simp [Rep])
  refine ⟨E2, A2, G2, .val y, h'', k1, g2.trans k3, ⟨by rw [hW.n]; exact k4, fun k hk => ?_⟩, by simpa [tget, EndRep] using k2 0, g6⟩
  obtain ⟨a1, a2, a3, a4⟩ := k5 k (by rw [<- hW.n]; exact hk)
  obtain ⟨b1, b2, b3, b4⟩ := g3.2 k hk
  exact ⟨a1.trans b1, a2.trans b2, a3.trans b3, a4.trans b4⟩
theorem ACall.fzArgs {P : Program} {GL : Glob} {f : FuncId} {args : List AV} {h : List AObj} {R : ARes -> List AObj -> Prop} (hc : ACall P GL f (fzs args) h R) : ACall P GL f args h R :=
 fun E A G w vs hW ha => hc E A G w vs hW (Reps.fz args vs ha)
abbrev Memo := List (FuncId × List AV × AV)
def MemoOk (P : Program) (GL : Glob) (M : Memo) : Prop := ∀ f k v, (f, k, v) ∈ M -> Pure (AC P GL) f k v
theorem MemoOk.cons {P : Program} {GL : Glob} {M : Memo} (hM : MemoOk P GL M) {f : FuncId} {k : List AV} {v : AV} (hp : Pure (AC P GL) f k v) : MemoOk P GL ((f, k, v) :: M) := by
 intro g k' v' h
 rcases List.mem_cons.1 h with h | h
 ·cases h; exact hp
 ·exact hM g k' v' h
theorem MemoOk.nil {P : Program} {GL : Glob} : MemoOk P GL [] := fun _ _ _ h => by cases h
def PureOn (C : Calling) (f : FuncId) (args : List AV) (v : AV) (h : List AObj) : Prop := C (.fn f) args h fun r h' => h' = h /\ r = .val v
theorem lift {P : Program} {GL : Glob} {f : FuncId} {args : List AV} {v : AV} {h1 : List AObj} (hv : bd 0 v) (hb : bds h1.length args) (hbo : ∀ (i : Nat) (x : AObj), h1[i]? = some x -> bdO h1.length x) (hc : PureOn (AC P GL) f args v h1)
  (κ : Nat -> Nat) {H : List AObj} (hκ : ∀ (i : Nat) (x : AObj), h1[i]? = some x -> H[κ i]? = some (renO κ x)) (hinj : ∀ i j, i < h1.length -> j < h1.length -> κ i = κ j -> i = j) : PureOn (AC P GL) f (rens κ args) v H := by
 intro E A G w vs hW ha
 have hlt : ∀ i, i < h1.length -> κ i < E.n := fun i hi => by
  rw [hW.n]
  exact (List.getElem?_eq_some_iff.1 (hκ i _ (List.getElem?_eq_getElem hi))).1
 let E0 : Env := ⟨h1.length, fun i => E.blk (κ i), fun i => E.cap (κ i), fun i => E.tok (κ i), fun i => E.wid (κ i)⟩
 let G0 : Gd := ⟨G.i, fun b => G.h b ∨ ∃ k x, H[k]? = some x /\ obk E k x = some b /\ ∀ i, i < h1.length -> κ i ≠ k⟩
 have hE : ∀ k, k < E0.n -> κ k < E.n -> E0.blk k = E.blk (κ k) /\ E0.cap k = E.cap (κ k) /\ E0.tok k = E.tok (κ k) /\ E0.wid k = E.wid (κ k) := fun k _ _ => ⟨rfl, rfl, rfl, rfl⟩
 have hil : ∀ {i : Nat} {x : AObj}, h1[i]? = some x -> i < h1.length := fun hx => (List.getElem?_eq_some_iff.1 hx).1
 have hob : ∀ {i : Nat} {x : AObj}, h1[i]? = some x -> obk E0 i x = obk E (κ i) (renO κ x) := fun hx => mO (E' := E0) (hil hx) (hlt _ (hil hx)) hE _
 have hW0 : Wf GL E0 A G0 h1 w := by
  refine ⟨fun n l hl => GlR.hands (G := G) (G' := G0) (fun _ h => h) (hW.gl n l hl), rfl, hW.a, hW.g, fun i x hx => ?_, fun i j x y b hx hy hbx hby => ?_, fun b hb => ?_, fun i x b hx hbx hbh => ?_⟩
  ·exact ORel.hands1 (G := G) (G' := G0) (fun _ => Iff.rfl) (ORel.ren (E' := E0) (hil hx) (hlt _ (hil hx)) hE (hbo i x hx) (hW.o _ _ (hκ i x hx)))
  ·rw [hob hx] at hbx
   rw [hob hy] at hby
   exact hinj _ _ (hil hx) (hil hy) (hW.d _ _ _ _ b (hκ i x hx) (hκ j y hy) hbx hby)
  ·rcases hb with hb | ⟨k, x, hx, hb, _⟩
   ·exact hW.hf b hb
   ·exact cJ (hW.o k x hx) hb
  ·rw [hob hx] at hbx
   rcases hbh with hbh | ⟨k, y, hy, hby, hne⟩
   ·exact hW.ho _ _ b (hκ i x hx) hbx hbh
   ·exact hne i (hil hx) (hW.d _ _ _ _ b (hκ i x hx) hy hbx hby)
 have ha0 : Reps E0 A G0 w args vs := Reps.hands1 (G := G) (G' := G0) (fun _ h => h) _ _ (Reps.ren (E := E) (E' := E0) hE args vs hb ha)
 refine (hc E0 A G0 w vs hW0 ha0).mono fun e w' => ?_
 rintro ⟨E1, A1, G1, r, h0, g1, g2, g3, g4, rfl, rfl⟩
 let G2 : Gd := ⟨G1.i, G.h⟩
 have hn1 : E1.n = h0.length := g1.n
 have hfw : Fwd E1 E κ := fun k hk => by
  have hk' : k < E0.n := by rw [hn1] at hk; exact hk
  obtain ⟨a1, a2, a3, a4⟩ := g3.2 k hk'
  exact ⟨hlt k hk', a1.symm, a2.symm, a3.symm, a4.symm⟩
 have hX : Ext A G w A1 G2 w' := ⟨g2.a, g2.g, g2.cell, g2.block, g2.size, g2.os, g2.output, g2.tape, fun _ => Iff.rfl, fun b hb => g2.off b (.inl hb)⟩
 have hh1 : ∀ b, G1.h b ↔ G0.h b := g2.hh
 -- an object of H is one of those that were spoken of, or not
 have hcase : ∀ (k : Nat) (x : AObj), H[k]? = some x -> (∃ i y, h0[i]? = some y /\ k = κ i /\ x = renO κ y) ∨ ∀ i, i < h0.length -> κ i ≠ k := by
  intro k x hx
  by_cases hk : ∃ i, i < h0.length /\ κ i = k
  ·obtain ⟨i, hi, rfl⟩ := hk
   have := hκ i _ (List.getElem?_eq_getElem hi)
   rw [hx] at this
   cases this
   exact .inl ⟨i, _, List.getElem?_eq_getElem hi, rfl, rfl⟩
  ·exact .inr fun i hi e => hk ⟨i, hi, e⟩
 have hWf : Wf GL E A1 G2 H w' := by
  refine ⟨fun n l hl => GlR.hands (G := G1) (G' := G2) (fun _ h => h) (g1.gl n l hl), hW.n, g1.a, g1.g, fun k x hx => ?_, fun j k x y b hx hy hbx hby => ?_, fun b hb => g1.hf b ((hh1 b).2 (.inl hb)), fun k x b hx hbx hbh => ?_⟩
  ·rcases hcase k x hx with ⟨i, y, hy, rfl, rfl⟩ | hne
   ·exact ORel.fwd (G := G1) (G' := G2) hfw (fun _ => Iff.rfl) (by rw [hn1]; exact hil hy) (g1.o i y hy)
   ·exact (hW.o k x hx).mono E.le_refl (by rw [hW.n]; exact (List.getElem?_eq_some_iff.1 hx).1) hX fun b hb => g2.off b (.inr ⟨k, x, hx, hb, hne⟩)
  ·rcases hcase j x hx with ⟨i, x', hx', rfl, rfl⟩ | hne <;> rcases hcase k y hy with ⟨i', y', hy', rfl, rfl⟩ | hne'
   ·rw [dT hfw (by rw [hn1]; exact hil hx')] at hbx
    rw [dT hfw (by rw [hn1]; exact hil hy')] at hby
    rw [g1.d _ _ _ _ b hx' hy' hbx hby]
   ·rw [dT hfw (by rw [hn1]; exact hil hx')] at hbx
    exact absurd ((hh1 b).2 (.inr ⟨k, y, hy, hby, hne'⟩)) (g1.ho _ _ _ hx' hbx)
   ·rw [dT hfw (by rw [hn1]; exact hil hy')] at hby
    exact absurd ((hh1 b).2 (.inr ⟨j, x, hx, hbx, hne⟩)) (g1.ho _ _ _ hy' hby)
   ·exact hW.d _ _ _ _ b hx hy hbx hby
  ·rcases hcase k x hx with ⟨i, y, hy, rfl, rfl⟩ | hne
   ·rw [dT hfw (by rw [hn1]; exact hil hy)] at hbx
    exact g1.ho _ _ _ hy hbx ((hh1 b).2 (.inl hbh))
   ·exact hW.ho _ _ _ hx hbx hbh
 refine ⟨E, A1, G2, .val v, H, hWf, hX, E.le_refl, ?_, rfl, rfl⟩
 cases e with
 | panicked => exact g4.elim
 | outgrown => exact g4.elim
 | returned u =>
  have := Rep.fwd (G := G1) (G' := G2) hfw (fun _ h => h) _ _ g4
  rwa [eO _ hv] at this
theorem dX {P : Program} {GL : Glob} {f : FuncId} {args : List AV} {v : AV} {h1 : List AObj} (hv : bd 0 v) (hb : bds h1.length args) (hbo : ∀ (i : Nat) (x : AObj), h1[i]? = some x -> bdO h1.length x) (hc : PureOn (AC P GL) f args v h1)
  (ex : List AObj) : PureOn (AC P GL) f args v (h1 ++ ex) := by
 have := lift hv hb hbo hc (fun k => k) (H := h1 ++ ex) (fun i x hx => by rw [rD, List.getElem?_append_left (List.getElem?_eq_some_iff.1 hx).1]; exact hx) (fun _ _ _ _ e => e)
 rwa [cM] at this
theorem bB {C : Calling} (hC : C.Mono) {f : FuncId} {args : List AV} {v : AV} {h : List AObj} (hp : PureOn C f args v h) {R : ARes -> List AObj -> Prop} (hR : R (.val v) h) : C (.fn f) args h R :=
 hC (.fn f) args h _ _ (fun r h' e => by rw [e.1, e.2]; exact hR) hp
theorem Pure.on {C : Calling} {f : FuncId} {args : List AV} {v : AV} (hp : Pure C f args v) (h : List AObj) : PureOn C f args v h := hp h
abbrev MV (d : Nat) (x : AOpd) : AEnt := (some d, none, .move x)
abbrev LD (x : AOpd) : AOp := .load false 1 x
abbrev LT (n : Nat) (x : AOpd) : AOp := .load true n x
abbrev FA (n : Nat) (x : AOpd) : AOp := .fieldAddr n x
abbrev IA (n : Nat) (x i : AOpd) : AOp := .indexAddr n x i
abbrev RG (l : List AEnt) (k : ACode) : ACode := .seq (.region l) k
abbrev T0 : AOpd := .t 0
abbrev T1 : AOpd := .t 1
abbrev T2 : AOpd := .t 2
abbrev T3 : AOpd := .t 3
abbrev T4 : AOpd := .t 4
abbrev T5 : AOpd := .t 5
abbrev T6 : AOpd := .t 6
abbrev T7 : AOpd := .t 7
abbrev T8 : AOpd := .t 8
abbrev T9 : AOpd := .t 9
abbrev T10 : AOpd := .t 10
abbrev T11 : AOpd := .t 11
abbrev T12 : AOpd := .t 12
abbrev T13 : AOpd := .t 13
abbrev T14 : AOpd := .t 14
abbrev T15 : AOpd := .t 15
abbrev T16 : AOpd := .t 16
abbrev T17 : AOpd := .t 17
abbrev T18 : AOpd := .t 18
abbrev T19 : AOpd := .t 19
abbrev T20 : AOpd := .t 20
abbrev T21 : AOpd := .t 21
abbrev T22 : AOpd := .t 22
abbrev T23 : AOpd := .t 23
abbrev T24 : AOpd := .t 24
abbrev T25 : AOpd := .t 25
abbrev T26 : AOpd := .t 26
abbrev T27 : AOpd := .t 27
abbrev T28 : AOpd := .t 28
abbrev T29 : AOpd := .t 29
abbrev T30 : AOpd := .t 30
abbrev T31 : AOpd := .t 31
abbrev T32 : AOpd := .t 32
abbrev T33 : AOpd := .t 33
abbrev T34 : AOpd := .t 34
abbrev T35 : AOpd := .t 35
abbrev T36 : AOpd := .t 36
abbrev T37 : AOpd := .t 37
abbrev T38 : AOpd := .t 38
abbrev T39 : AOpd := .t 39
abbrev T40 : AOpd := .t 40
abbrev T41 : AOpd := .t 41
abbrev T42 : AOpd := .t 42
abbrev T43 : AOpd := .t 43
abbrev T44 : AOpd := .t 44
abbrev T45 : AOpd := .t 45
abbrev T46 : AOpd := .t 46
abbrev T47 : AOpd := .t 47
abbrev T48 : AOpd := .t 48
abbrev T49 : AOpd := .t 49
abbrev T50 : AOpd := .t 50
abbrev T51 : AOpd := .t 51
abbrev T52 : AOpd := .t 52
abbrev T53 : AOpd := .t 53
abbrev T54 : AOpd := .t 54
abbrev T55 : AOpd := .t 55
abbrev T56 : AOpd := .t 56
abbrev T57 : AOpd := .t 57
abbrev T58 : AOpd := .t 58
abbrev T59 : AOpd := .t 59
abbrev T60 : AOpd := .t 60
abbrev T61 : AOpd := .t 61
abbrev T62 : AOpd := .t 62
abbrev T63 : AOpd := .t 63
abbrev T64 : AOpd := .t 64
abbrev T65 : AOpd := .t 65
abbrev T66 : AOpd := .t 66
abbrev T67 : AOpd := .t 67
abbrev T68 : AOpd := .t 68
abbrev T69 : AOpd := .t 69
abbrev T70 : AOpd := .t 70
abbrev T71 : AOpd := .t 71
abbrev T72 : AOpd := .t 72
abbrev T73 : AOpd := .t 73
abbrev T74 : AOpd := .t 74
abbrev T75 : AOpd := .t 75
abbrev T76 : AOpd := .t 76
abbrev T77 : AOpd := .t 77
abbrev T78 : AOpd := .t 78
abbrev T79 : AOpd := .t 79
abbrev T80 : AOpd := .t 80
abbrev T81 : AOpd := .t 81
abbrev T82 : AOpd := .t 82
abbrev T83 : AOpd := .t 83
abbrev T84 : AOpd := .t 84
abbrev T85 : AOpd := .t 85
abbrev T86 : AOpd := .t 86
abbrev T87 : AOpd := .t 87
abbrev T88 : AOpd := .t 88
abbrev T89 : AOpd := .t 89
abbrev T90 : AOpd := .t 90
abbrev T91 : AOpd := .t 91
abbrev T92 : AOpd := .t 92
abbrev T93 : AOpd := .t 93
abbrev T94 : AOpd := .t 94
abbrev T95 : AOpd := .t 95
abbrev T96 : AOpd := .t 96
abbrev T97 : AOpd := .t 97
abbrev T98 : AOpd := .t 98
abbrev T99 : AOpd := .t 99
abbrev T100 : AOpd := .t 100
abbrev T101 : AOpd := .t 101
abbrev T102 : AOpd := .t 102
abbrev T103 : AOpd := .t 103
abbrev T104 : AOpd := .t 104
abbrev T105 : AOpd := .t 105
abbrev T106 : AOpd := .t 106
abbrev T107 : AOpd := .t 107
abbrev T108 : AOpd := .t 108
abbrev T109 : AOpd := .t 109
abbrev T110 : AOpd := .t 110
abbrev T111 : AOpd := .t 111
abbrev T112 : AOpd := .t 112
abbrev T113 : AOpd := .t 113
abbrev T114 : AOpd := .t 114
abbrev T115 : AOpd := .t 115
abbrev T116 : AOpd := .t 116
abbrev T117 : AOpd := .t 117
abbrev T118 : AOpd := .t 118
abbrev T119 : AOpd := .t 119
abbrev T120 : AOpd := .t 120
abbrev T121 : AOpd := .t 121
abbrev T122 : AOpd := .t 122
abbrev T123 : AOpd := .t 123
abbrev T124 : AOpd := .t 124
abbrev T125 : AOpd := .t 125
abbrev T126 : AOpd := .t 126
abbrev T127 : AOpd := .t 127
def Keep (K : Nat -> AObj -> Prop) (h h' : List AObj) : Prop := h.length <= h'.length /\ ∀ (i : Nat) (o : AObj), h[i]? = some o -> ¬ K i o -> h'[i]? = some o
abbrev All : Nat -> AObj -> Prop := fun _ _ => False
theorem Keep.refl (K : Nat -> AObj -> Prop) (h : List AObj) : Keep K h h := ⟨Nat.le_refl _, fun _ _ e _ => e⟩
theorem Keep.trans {K : Nat -> AObj -> Prop} {h h' h'' : List AObj} (a : Keep K h h') (b : Keep K h' h'') : Keep K h h'' := ⟨Nat.le_trans a.1 b.1, fun i o e n => b.2 i o (a.2 i o e n) n⟩
theorem Keep.trans' {K K' : Nat -> AObj -> Prop} {h h' h'' : List AObj} (a : Keep K h h') (b : Keep K' h' h'') (hk : ∀ i o, h[i]? = some o -> K' i o -> K i o) : Keep K h h'' :=
 ⟨Nat.le_trans a.1 b.1, fun i o e n => b.2 i o (a.2 i o e n) fun q => n (hk i o e q)⟩
theorem Keep.mono {K K' : Nat -> AObj -> Prop} {h h' : List AObj} (a : Keep K h h') (hk : ∀ i o, h[i]? = some o -> K i o -> K' i o) : Keep K' h h' := ⟨a.1, fun i o e n => a.2 i o e fun x => n (hk i o e x)⟩
theorem Keep.get {K : Nat -> AObj -> Prop} {h h' : List AObj} (a : Keep K h h') {i : Nat} {o : AObj} (hi : h[i]? = some o) (hn : ¬ K i o) : h'[i]? = some o := a.2 i o hi hn
theorem Keep.got {h h' : List AObj} (a : Keep All h h') {i : Nat} {o : AObj} (hi : h[i]? = some o) : h'[i]? = some o := a.2 i o hi id
theorem Keep.of_all {K : Nat -> AObj -> Prop} {h h' : List AObj} (a : Keep All h h') : Keep K h h' := ⟨a.1, fun i o e _ => a.2 i o e id⟩
theorem Keep.nil {K : Nat -> AObj -> Prop} {h : List AObj} : Keep K [] h := ⟨Nat.zero_le _, fun i o hi => by simp at hi⟩
theorem aL {h : List AObj} {k : Nat} {o : AObj} (hk : h[k]? = some o) : k < h.length := (List.getElem?_eq_some_iff.1 hk).1
theorem dG (h l : List AObj) : (h ++ l)[h.length]? = l[0]? := by rw [List.getElem?_append_right (Nat.le_refl _), Nat.sub_self]
theorem aQ (h l : List AObj) (i : Nat) : (h ++ l)[h.length + i]? = l[i]? := by rw [List.getElem?_append_right (Nat.le_add_right _ _), Nat.add_sub_cancel_left]
theorem aF {h l : List AObj} {k : Nat} {o : AObj} (hk : h[k]? = some o) : (h ++ l)[k]? = some o := by rw [List.getElem?_append_left (aL hk), hk]
theorem set_at (h l : List AObj) (o : AObj) : (h ++ l).set h.length o = h ++ l.set 0 o := by rw [List.set_append_right _ _ (Nat.le_refl _), Nat.sub_self]
theorem aS (h l : List AObj) (i : Nat) (o : AObj) : (h ++ l).set (h.length + i) o = h ++ l.set i o := by rw [List.set_append_right _ _ (Nat.le_add_right _ _), Nat.add_sub_cancel_left]
theorem aG {h l : List AObj} {k : Nat} {x : AObj} (hk : h[k]? = some x) (o : AObj) : (h ++ l).set k o = h.set k o ++ l := List.set_append_left _ _ (aL hk)
theorem aH {h : List AObj} {k : Nat} {x o : AObj} (hk : h[k]? = some x) : (h.set k o)[k]? = some o := List.getElem?_set_self (aL hk)
theorem aD {h l : List AObj} {k : Nat} {x o : AObj} (hk : h[k]? = some x) : (h.set k o ++ l)[k]? = some o := aF (aH hk)
theorem aE {h : List AObj} {k j : Nat} {o : AObj} (hk : k ≠ j) : (h.set k o)[j]? = h[j]? := List.getElem?_set_ne hk
theorem cH {h l : List AObj} {i : Nat} {o : AObj} (hi : i < h.length) : (h ++ l).set i o = h.set i o ++ l := List.set_append_left _ _ hi
theorem bY {h l : List AObj} {i : Nat} (hi : i < h.length) : (h ++ l)[i]? = h[i]? := List.getElem?_append_left hi
theorem aZ {h l : List AObj} {i : Nat} (hi : h.length <= i) : (h ++ l)[i]? = l[i - h.length]? := List.getElem?_append_right hi
theorem aM {h l : List AObj} {k : Nat} {o : AObj} (hk : h[k]? = some o) : (h ++ l)[k]? = some o := aF hk
theorem Keep.app (K : Nat -> AObj -> Prop) (h l : List AObj) : Keep K h (h ++ l) := ⟨by simp, fun _ _ e _ => aF e⟩
theorem Keep.left {K : Nat -> AObj -> Prop} {h l h' : List AObj} (a : Keep K (h ++ l) h') : Keep K h h' := (Keep.app K h l).trans a
theorem Keep.set {K : Nat -> AObj -> Prop} {h : List AObj} {k : Nat} {x : AObj} (o : AObj) (hx : h[k]? = some x) (hk : K k x) : Keep K h (h.set k o) :=
 ⟨by simp, fun i y hi hn => by
  by_cases e : k = i
  ·subst e; rw [hx] at hi; cases hi; exact absurd hk hn
  ·rw [List.getElem?_set_ne e]; exact hi⟩
theorem Keep.turn {h h' : List AObj} (a : Keep All h h') {k : Nat} (o : AObj) {x : AObj} (hx : h'[k]? = some x) (hk : h.length <= k) : Keep All h (h'.set k o) :=
 a.trans' (K' := fun i _ => i = k) (Keep.set o hx rfl) fun i o' hi e => by have := aL hi; omega
def Picks (τ : List (Nat × AV)) : List (Nat × AV) -> Prop
 | [] => True
 | (i, x) :: r => tget τ i = x /\ Picks τ r
theorem picks_nil (τ : List (Nat × AV)) : Picks τ [] = True := rfl
theorem vY (τ : List (Nat × AV)) (i : Nat) (x : AV) (r : List (Nat × AV)) : Picks τ ((i, x) :: r) = (tget τ i = x /\ Picks τ r) := rfl
theorem Picks.get {τ : List (Nat × AV)} : ∀ {r : List (Nat × AV)}, Picks τ r -> ∀ i, tget r i = tget τ i ∨ tget r i = .any
 | [], _, i => .inr rfl
 | (j, x) :: r, h, i => by
  simp only [Picks] at h
  simp only [tget]
  split
  ·rename_i hb
   have := Nat.eq_of_beq_eq_true hb
   subst this
   exact .inl h.1.symm
  ·exact Picks.get h.2 i
theorem Wk.pick {GL : Glob} {m : Nat} {τ τ' : List (Nat × AV)} {h : List AObj} (hm : m <= h.length) (hp : Picks τ τ') : Wk GL m τ h τ' h := by
 intro E A G w f hW hf
 refine ⟨E, A, G, hW, fun i => ?_, Ext.refl _ _ _, by rw [hW.n]; exact hm, fun _ _ => ⟨rfl, rfl, rfl, rfl⟩⟩
 rcases hp.get i with e | e
 ·rw [e]; exact hf i
 ·rw [e]; simp [Rep]
theorem cK {α : Type} {GL : Glob} {C : Calling} {m : Nat} {Pn : AV -> List AObj -> Prop} {s : List Fr} {Q : Post} {τ : List (Nat × AV)} {h : List AObj} {b : ACode} (hC : C.Mono) (S : Nat -> α -> List (Nat × AV)) (Φ : Nat -> α -> List AObj -> Prop) (N : Nat)
  (h0 : ∃ a h', Wk GL m τ h (S 0 a) h' /\ Φ 0 a h')
  (hs : ∀ j a h, j <= N -> Φ j a h -> wpA GL C m b (pst GL C m Pn (.lp (fun τ' h' => j < N /\ ∃ a' h'', Wk GL m τ' h' (S (j + 1) a') h'' /\ Φ (j + 1) a' h'') :: s) Q) Pn (S j a) h) :
  wpA GL C m (.loop b) (pst GL C m Pn s Q) Pn τ h := by
 obtain ⟨a0, h1, w0, f0⟩ := h0
 refine ⟨fun τ h n => ∃ j a, j <= N /\ τ = S j a /\ Φ j a h /\ n = N - j, ⟨S 0 a0, h1, N, w0, 0, a0, Nat.zero_le _, rfl, f0, rfl⟩, ?_⟩
 rintro τ h n ⟨j, a, hj, rfl, hf, rfl⟩
 refine dC hC (fun _ _ h => h) b ?_ _ _ (hs j a h hj hf)
 intro e τ h he
 cases e
 ·obtain ⟨q1, a', h'', q2, q3⟩ := he
  exact ⟨_, _, N - (j + 1), by omega, q2, j + 1, a', by omega, rfl, q3, rfl⟩
 ·exact he
 ·exact he
def Gives (C : Calling) (f : FuncId) (args : List AV) (h : List AObj) (Φ : AV -> List AObj -> Prop) : Prop := C (.fn f) args h fun r h' => ∃ x, r = .val x /\ Φ x h'
theorem aI {C : Calling} (hC : C.Mono) {f : FuncId} {args : List AV} {h : List AObj} {Φ : AV -> List AObj -> Prop} (hp : Gives C f args h Φ) {R : ARes -> List AObj -> Prop} (hR : ∀ x h', Φ x h' -> R (.val x) h') : C (.fn f) args h R :=
 hC (.fn f) args h _ _ (fun r h' ⟨x, e, f⟩ => by rw [e]; exact hR x h' f) hp
theorem aJ {C : Calling} (hC : C.Mono) {c : CId} {args : List AV} {h : List AObj} {R0 R : ARes -> List AObj -> Prop} (hp : C c args h R0) (hR : ∀ r h', R0 r h' -> R r h') : C c args h R := hC c args h _ _ hR hp
theorem aT {GL : Glob} {m : Nat} {x : AV} {h : List AObj} {Φ : AV -> List AObj -> Prop} (hm : m <= h.length) (hf : Φ x h) : ∃ y h', Wk GL m [(0, x)] h [(0, y)] h' /\ ∃ z, ARes.val y = ARes.val z /\ Φ z h' := ⟨x, h, Wk.refl hm, x, rfl, hf⟩
theorem Coded.gives {P : Program} {GL : Glob} {f : FuncId} {c : ACode} {rs : List ARet} {n : Nat} (hc : Coded P f c rs n) {args : List AV} {h : List AObj} {Φ : AV -> List AObj -> Prop} (ha : args.length <= n)
  (hs : bodyA GL (AC P GL) c rs args h fun r h' => ∃ x, r = .val x /\ Φ x h') : Gives (AC P GL) f args h Φ := hc.call ha hs
theorem Coded.gen {P : Program} {GL : Glob} {f : FuncId} {c : ACode} {rs : List ARet} {n : Nat} (hc : Coded P f c rs n) {args : List AV} {h : List AObj} {R : ARes -> List AObj -> Prop} (ha : args.length <= n)
  (hs : bodyA GL (AC P GL) c rs args h R) : AC P GL (.gen f) args h R := by
 obtain ⟨fn, h1, h2, h3, rfl⟩ := hc
 exact gI h1 h2 h3 ha hs
def kbeginP (GL : Glob) (C : Calling) (k m : Nat) (aB : ACode) (R : ARes -> List AObj -> Prop) : Post := fun e τ1 h1 => match e with
 | .normal => match h1[k]? with
  | some (.loop τ n ps ac bd .ready pd) => wpA GL C m aB (pst GL C m (fun _ _ => False) [] (kround GL k m R)) (fun _ _ => False) τ1 (h1.set k (.loop τ n ps ac bd .busy pd))
  | _ => False
 | _ => False
section
variable {GL : Glob} {C : Calling} {k m : Nat} {aB : ACode} {R : ARes -> List AObj -> Prop} {τ1 : List (Nat × AV)} {h1 : List AObj}
theorem k_begin_n : kbeginP GL C k m aB R .normal τ1 h1 = match h1[k]? with
  | some (.loop τ n ps ac bd .ready pd) => wpA GL C m aB (pst GL C m (fun _ _ => False) [] (kround GL k m R)) (fun _ _ => False) τ1 (h1.set k (.loop τ n ps ac bd .busy pd))
  | _ => False := rfl
theorem k_round_n : kround GL k m R .normal τ1 h1 = match h1[k]? with
  | some (.loop τ n ps ac bd _ _) => ∃ h', Wk GL m [] (h1.set k (.loop τ n ps ac bd .ready none)) [] h' /\ R (.val (.v (.bool true))) h'
  | _ => False := rfl
theorem k_range_v {Q : Post} {Pn : AV -> List AObj -> Prop} {x : AV} : krange k Q Pn τ1 (.val x) h1 = match h1[k]? with
  | some (.loop _ _ _ _ _ .ready none) => Q .normal τ1 (h1.set k .dead)
  | some (.loop _ _ _ _ _ .done (some (.exit id))) => Q (.exit id) τ1 (h1.set k .dead)
  | some (.loop _ _ _ _ _ .done (some .ret)) => Q .ret τ1 (h1.set k .dead)
  | _ => False := rfl
theorem sN {Pn : AV -> List AObj -> Prop} {s : List Fr} {Q : Post} {n : Nat} {f : AOpd} {ps : List Nat} {as bd : Code} : wpA GL C m (.rangeFunc n f ps as bd) (pst GL C m Pn s Q) Pn τ1 h1 = match aeval GL τ1 f with
  | .fn (.func g) first cap => C (.gen g) (first ++ [.yld h1.length] ++ cap) (h1 ++ [.loop τ1 n ps as bd .ready none]) (krange h1.length (pst GL C m Pn s Q) Pn τ1)
  | _ => False := rfl
end
section
variable {GL : Glob} {C : Calling} {os : List AEnt} {τ : List (Nat × AV)} {h : List AObj} {K : List (Nat × AV) -> List AObj -> Prop} {Pn : AV -> List AObj -> Prop} {d : Option Nat}
theorem o_cap : ∀ x, opsA GL C ((d, none, .cap x) :: os) τ h K Pn = (match aeval GL τ x with
  | .v (.slice none 0 0) => opsA GL C os (aput τ d (.v (.int .i64 0))) h K Pn
  | _ => False) := fun _ => rfl
theorem o_appendZ : ∀ T sz bytes z a n, opsA GL C ((d, none, .appendZ T sz bytes z a n) :: os) τ h K Pn = (match aeval GL τ a, intOfA (aeval GL τ n) with
  | .v (.slice none 0 0), some n => (0 < n /\ n * bytes <= 2 ^ 47) /\ opsA GL C os (aput τ d (.vec h.length sz n.toNat)) (h ++ [.buf T sz (List.replicate n.toNat z)]) K Pn
  | _, _ => False) := fun _ _ _ _ _ _ => rfl
end
attribute [go_sem ↓] o_cap o_appendZ sN k_begin_n k_round_n k_range_v
attribute [go_sem] bindsA
attribute [go_sem] picks_nil vY dG set_at
theorem Wk.freeze {GL : Glob} {m k s n : Nat} {T : TypeId} {s' : Nat} {l : List AV} {h : List AObj} (hk : h[k]? = some (.buf T s' l)) (hm : m <= h.length) (hn : n <= l.length) :
  Wk GL m [(0, .vec k s n)] h [(0, .sl s (l.take n))] (h.set k .dead ++ [.spare T s]) := by
 intro E A G w f hW hf
 have h0 := hf 0
 simp only [tget, Rep] at h0
 obtain ⟨hkn, hwid, hv, hmc, h50, hcm⟩ := h0
 obtain ⟨E', A', g1, g2, g3, g4⟩ := jH hW hk hkn hwid (b := n) hn hcm h50
 refine ⟨E', A', G, g3, fun i => ?_, g2, by have := g1.1; rw [hW.n] at this; omega, fun j hj => g1.2 j (by rw [hW.n]; omega)⟩
 simp only [tget]
 split
 ·rename_i hi
  have hi := Nat.eq_of_beq_eq_true hi
  subst hi
  rw [hv]
  simp only [Rep] at g4 ⊢
  obtain ⟨_, _, g4⟩ := g4
  exact g4
 ·simp [Rep]
theorem Keep.freeze {K : Nat -> AObj -> Prop} {h h' : List AObj} (a : Keep K h h') {k : Nat} (x y : AObj) (hk : h.length <= k) : Keep K h (h'.set k x ++ [y]) := by
 refine ⟨by have := a.1; simp; omega, fun i o hi hn => ?_⟩
 have hlt := aL hi
 have hlt' := aL (a.2 i o hi hn)
 rw [List.getElem?_append_left (by simpa using hlt'), List.getElem?_set_ne (by omega)]
 exact a.2 i o hi hn
theorem Wk.weak {GL : Glob} {m : Nat} {x y : AV} {h : List AObj} (hm : m <= h.length) (hw : wkr x y) : Wk GL m [(0, x)] h [(0, y)] h := by
 intro E A G w f hW hf
 refine ⟨E, A, G, hW, fun i => ?_, Ext.refl _ _ _, by rw [hW.n]; exact hm, fun _ _ => ⟨rfl, rfl, rfl, rfl⟩⟩
 have := hf i
 simp only [tget] at this ⊢
 split
 ·rename_i hi
  simp only [hi] at this
  exact Rep.wk _ _ _ hw this
 ·simp [Rep]
theorem cS {GL : Glob} {m : Nat} {x y : AV} {h : List AObj} {Φ : AV -> List AObj -> Prop} (hm : m <= h.length) (hw : wkr x y) (hf : Φ y h) : ∃ y h', Wk GL m [(0, x)] h [(0, y)] h' /\ ∃ z, ARes.val y = ARes.val z /\ Φ z h' := ⟨y, h, Wk.weak hm hw, y, rfl, hf⟩
theorem aU {h : List AObj} {i j : Nat} {x y : AObj} (hi : h[i]? = some x) (hj : h[j]? = some y) (hn : x ≠ y) : i ≠ j := by
 rintro rfl
 exact hn (Option.some.inj (hi.symm.trans hj))
theorem dB (h l : List AObj) (k : Nat) (o : AObj) : (h.set k o ++ l)[h.length]? = l[0]? := by rw [List.getElem?_append_right (by simp)]; simp
theorem bP (h l : List AObj) (k i : Nat) (o : AObj) : (h.set k o ++ l)[h.length + i]? = l[i]? := by rw [List.getElem?_append_right (by simp)]; simp
theorem sat_set (h l : List AObj) (k : Nat) (o x : AObj) : (h.set k o ++ l).set h.length x = h.set k o ++ l.set 0 x := by rw [List.set_append_right _ _ (by simp)]; simp
theorem fG (h l : List AObj) (k i : Nat) (o x : AObj) : (h.set k o ++ l).set (h.length + i) x = h.set k o ++ l.set i x := by rw [List.set_append_right _ _ (by simp)]; simp
structure Wd (x y : AV) : Prop where
 l : y.cells.length = x.cells.length
 r : ∀ E A G w v, Rep E A G w x v -> Rep E A G w y v
 c : ∀ E A G w b o, RepC E A G w b o x.cells -> RepC E A G w b o y.cells
theorem Wd.rfl (x : AV) : Wd x x := ⟨Eq.refl _, fun _ _ _ _ _ h => h, fun _ _ _ _ _ _ h => h⟩
theorem Wd.one {x y : AV} (hx : x.cells = [x]) (hy : y.cells = [y]) (h : ∀ E A G w v, Rep E A G w x v -> Rep E A G w y v) : Wd x y :=
 ⟨by rw [hx, hy]; exact Eq.refl _, h, fun E A G w b o => by
  rw [hx, hy]
  simp only [RepC, and_true]
  rintro ⟨u, h1, h2, h3, h4⟩
  exact ⟨u, h1, h2, h3, h _ _ _ _ _ h4⟩⟩
def Wds : List AV -> List AV -> Prop
 | [], [] => True
 | x :: xs, y :: ys => Wd x y /\ Wds xs ys
 | _, _ => False
theorem Wds.rfl : ∀ l, Wds l l
 | [] => trivial
 | x :: xs => ⟨Wd.rfl x, Wds.rfl xs⟩
theorem Wds.app : ∀ {a a' b b' : List AV}, Wds a a' -> Wds b b' -> Wds (a ++ b) (a' ++ b')
 | [], [], _, _, _, h => h
 | _ :: _, _ :: _, _, _, h, k => ⟨h.1, Wds.app h.2 k⟩
 | [], _ :: _, _, _, h, _ => h.elim
 | _ :: _, [], _, _, h, _ => h.elim
theorem Wds.len : ∀ {l l' : List AV}, Wds l l' -> l'.length = l.length
 | [], [], _ => Eq.refl _
 | _ :: _, _ :: _, h => by simp [Wds.len h.2]
 | [], _ :: _, h => h.elim
 | _ :: _, [], h => h.elim
section
variable {E : Env} {A : Nat -> Nat -> Prop} {G : Gd} {w : World}
theorem Wds.reps : ∀ {l l' : List AV} {vs : List Value}, Wds l l' -> Reps E A G w l vs -> Reps E A G w l' vs
 | [], [], _, _, h => h
 | _ :: _, _ :: _, _, h, k => by
  simp only [Reps] at k ⊢
  obtain ⟨u, us, rfl, h1, h2⟩ := k
  exact ⟨u, us, Eq.refl _, h.1.r _ _ _ _ _ h1, Wds.reps h.2 h2⟩
 | [], _ :: _, _, h, _ => h.elim
 | _ :: _, [], _, h, _ => h.elim
theorem Wds.repC : ∀ {l l' : List AV} {b o : Nat}, Wds l l' -> RepC E A G w b o l -> RepC E A G w b o l'
 | [], [], _, _, _, h => h
 | _ :: _, _ :: _, _, _, h, k => by
  simp only [RepC] at k ⊢
  obtain ⟨⟨u, h1, h2, h3, h4⟩, h5⟩ := k
  exact ⟨⟨u, h1, h2, h3, h.1.r _ _ _ _ _ h4⟩, Wds.repC h.2 h5⟩
 | [], _ :: _, _, _, h, _ => h.elim
 | _ :: _, [], _, _, h, _ => h.elim
theorem Wds.repL {sz : Nat} : ∀ {l l' : List AV} {b o : Nat}, Wds l l' -> RepL E A G w sz b o l -> RepL E A G w sz b o l'
 | [], [], _, _, _, h => h
 | _ :: _, _ :: _, _, _, h, k => by
  rw [cG] at k ⊢
  exact ⟨h.1.l.trans k.1, h.1.c _ _ _ _ _ _ k.2.1, Wds.repL h.2 k.2.2⟩
 | [], _ :: _, _, _, h, _ => h.elim
 | _ :: _, [], _, _, h, _ => h.elim
theorem Wds.slice {l l' : List AV} {sz n c : Nat} {p : Option Addr} (h : Wds l l') (k : n = l.length /\ n <= c /\ n <= 2 ^ 50 /\ (l = [] ∨ ∃ b o, p = some ⟨b, o, none⟩ /\ RepL E A G w sz b o l)) :
  n = l'.length /\ n <= c /\ n <= 2 ^ 50 /\ (l' = [] ∨ ∃ b o, p = some ⟨b, o, none⟩ /\ RepL E A G w sz b o l') := by
 obtain ⟨h1, h2, h3, h4⟩ := k
 refine ⟨h1.trans h.len.symm, h2, h3, ?_⟩
 rcases h4 with rfl | ⟨b, o, hp, hr⟩
 ·exact .inl (List.eq_nil_of_length_eq_zero (by rw [h.len]; exact Eq.refl _))
 ·exact .inr ⟨b, o, hp, h.repL hr⟩
end
theorem Wd.sl {sz : Nat} {l l' : List AV} (h : Wds l l') : Wd (.sl sz l) (.sl sz l') := Wd.one (Eq.refl _) (Eq.refl _) fun E A G w v k => by
 simp only [Rep] at k ⊢
 obtain ⟨p, n, c, e, k⟩ := k
 exact ⟨p, n, c, e, h.slice k⟩
theorem Wd.own {j sz : Nat} {l l' : List AV} (h : Wds l l') : Wd (.own j sz l) (.own j sz l') := Wd.one (Eq.refl _) (Eq.refl _) fun E A G w v k => by
 simp only [Rep] at k ⊢
 obtain ⟨k1, k2, p, n, c, e, k⟩ := k
 exact ⟨k1, k2, p, n, c, e, h.slice k⟩
theorem Wd.fz {j sz : Nat} {l l' : List AV} (h : Wds l l') : Wd (.own j sz l) (.sl sz l') := Wd.one (Eq.refl _) (Eq.refl _) fun E A G w v k => by
 simp only [Rep] at k ⊢
 obtain ⟨_, _, p, n, c, e, k⟩ := k
 exact ⟨p, n, c, e, h.slice k⟩
theorem Wd.nil {sz : Nat} : Wd (.v (.slice none 0 0)) (.sl sz []) := Wd.one (Eq.refl _) (Eq.refl _) fun E A G w v k => by
 simp only [Rep] at k ⊢
 subst k
 exact ⟨none, 0, 0, Eq.refl _, Eq.refl _, Nat.le_refl _, by decide, .inl trivial⟩
theorem Wd.agg {l l' : List AV} (h : Wds l l') : Wd (.agg l) (.agg l') := ⟨h.len, fun E A G w v k => by
 simp only [Rep] at k ⊢
 obtain ⟨cs, e, ho, k⟩ := k
 exact ⟨cs, e, ho, h.reps k⟩, fun E A G w b o k => h.repC k⟩
theorem Wd.tup {l l' : List AV} (h : Wds l l') : Wd (.tup l) (.tup l') := Wd.one (Eq.refl _) (Eq.refl _) fun E A G w v k => by
 simp only [Rep] at k ⊢
 obtain ⟨cs, e, k⟩ := k
 exact ⟨cs, e, h.reps k⟩
def PicksW (τ : List (Nat × AV)) : List (Nat × AV) -> Prop
 | [] => True
 | (i, x) :: r => Wd (tget τ i) x /\ PicksW τ r
theorem PicksW.get {τ : List (Nat × AV)} : ∀ {r : List (Nat × AV)}, PicksW τ r -> ∀ i, Wd (tget τ i) (tget r i) ∨ tget r i = .any
 | [], _, i => .inr (Eq.refl _)
 | (j, x) :: r, h, i => by
  simp only [PicksW] at h
  simp only [tget]
  split
  ·rename_i hb
   have := Nat.eq_of_beq_eq_true hb
   subst this
   exact .inl h.1
  ·exact PicksW.get h.2 i
theorem Wk.pickW {GL : Glob} {m : Nat} {τ τ' : List (Nat × AV)} {h : List AObj} (hm : m <= h.length) (hp : PicksW τ τ') : Wk GL m τ h τ' h := by
 intro E A G w f hW hf
 refine ⟨E, A, G, hW, fun i => ?_, Ext.refl _ _ _, by rw [hW.n]; exact hm, fun _ _ => ⟨Eq.refl _, Eq.refl _, Eq.refl _, Eq.refl _⟩⟩
 rcases hp.get i with e | e
 ·exact e.r _ _ _ _ _ (hf i)
 ·rw [e]; simp [Rep]
theorem Reps.fzN {GL : Glob} {E : Env} {A : Nat -> Nat -> Prop} {G : Gd} {w : World} {h : List AObj} (hW : Wf GL E A G h w) (n : Nat) : ∀ (l : List AV) (vs : List Value), Reps E (bufA h E A) G w l vs -> Reps E (bufA h E A) G w (l.map (fzN h n)) vs
 | [], [], _ => by simp [Reps]
 | [], _ :: _, hr => by simp [Reps] at hr
 | x :: xs, vs, hr => by
  simp only [Reps] at hr
  obtain ⟨u, us, rfl, h1, h2⟩ := hr
  simp only [List.map_cons, Reps]
  exact ⟨u, us, rfl, Rep.fzN hW n x u h1, Reps.fzN hW n xs us h2⟩
theorem ACall.frozen {P : Program} {GL : Glob} {f : FuncId} {args : List AV} {v : AV} {h : List AObj} (n : Nat) (hb : bds 0 (args.map (fzN h n)))
  (hpl : ∀ E A G w E' A' G' w' u, Rep E A G w v u -> Rep E' A' G' w' v u) (hc : ACall P GL f (args.map (fzN h n)) [] fun r h' => h' = [] /\ r = .val v) : ACall P GL f args h fun r h' => r = .val v /\ h' = h := by
 intro E A G w vs hW ha
 have hX0 := sZ hW
 let E0 : Env := ⟨0, E.blk, E.cap, E.tok, E.wid⟩
 let G0 : Gd := ⟨G.i, fun b => G.h b ∨ ∃ k x, h[k]? = some x /\ obk E k x = some b⟩
 have hW0 : Wf GL E0 (bufA h E A) G0 [] w := by
  refine ⟨fun n l hl => GlR.hands (G := G) (G' := G0) (fun _ h => h) ((hW.gl n l hl).mono hX0), rfl, fun b o ha => ?_, hW.g, fun k x hx => by simp at hx, fun j k x y b hx => by simp at hx, fun b hb => ?_, fun k x b hx => by simp at hx⟩
  ·rcases ha with ha | ⟨k, T, s, l, hk, rfl, ho⟩
   ·exact hW.a b o ha
   ·obtain ⟨cs, g1, g2, g3, g4, g5, _⟩ := hW.o k _ hk
    have : o < cs.size := by rw [g5]; exact Nat.lt_of_lt_of_le ho (Nat.mul_le_mul_right s g4)
    exact ⟨cs[o], iN g1 (by simp [this])⟩
  ·rcases hb with hb | ⟨k, x, hx, hb⟩
   ·exact hW.hf b hb
   ·exact cJ (hW.o k x hx) hb
 have ha0 : Reps E0 (bufA h E A) G0 w (args.map (fzN h n)) vs := by
  have h0 := Reps.fzN hW n _ _ (ha.mono E.le_refl hX0)
  have h1 := Reps.hands (G := G) (G' := G0) (fun _ h => h) h0
  exact Reps.ren (κ := fun k => k) (E := E) (E' := E0) (fun k hk => absurd hk (Nat.not_lt_zero k)) _ vs hb (by rw [cM]; exact h1)
 refine (hc E0 (bufA h E A) G0 w vs hW0 ha0).mono fun e w' => ?_
 rintro ⟨E1, A1, G1, r0, h0, g1, g2, g3, g4, rfl, rfl⟩
 let G2 : Gd := ⟨G1.i, G.h⟩
 have hX : Ext A G w A G2 w' := ⟨fun _ _ h => h, g2.g, fun b o h => g2.cell b o (.inl h), g2.block, g2.size, g2.os, g2.output, g2.tape, fun _ => Iff.rfl, fun b hb => ⟨(g2.off b (.inl hb)).1, fun _ h => h, (g2.off b (.inl hb)).2.2⟩⟩
 have hWf : Wf GL E A G2 h w' := by
  refine ⟨fun n l hl => (hW.gl n l hl).mono hX, hW.n, fun b o ha => ?_, g1.g, fun k x hx => ?_, hW.d, fun b hb => g1.hf b ((g2.hh b).2 (.inl hb)), hW.ho⟩
  ·obtain ⟨c, hc⟩ := hW.a b o ha
   exact ⟨c, by rw [hX.cell b o ha]; exact hc⟩
  ·exact (hW.o k x hx).mono E.le_refl (by rw [hW.n]; exact (List.getElem?_eq_some_iff.1 hx).1) hX fun b hb => by
    have := g2.off b (.inr ⟨k, x, hx, hb⟩)
    exact ⟨this.1, fun _ h => h, this.2.2⟩
 refine ⟨E, A, G2, .val v, h, hWf, hX, E.le_refl, ?_, rfl, rfl⟩
 cases e with
 | _ => first | exact hpl _ _ _ _ _ _ _ _ _ g4 | exact g4.elim
inductive Frz (k s n : Nat) (y : AV) : List AV -> List AV -> Prop where
 | here (b : List AV) : Frz k s n y (.vec k s n :: b) (y :: b)
 | inn (x z b : List AV) : Frz k s n y (.agg (x ++ .vec k s n :: z) :: b) (.agg (x ++ y :: z) :: b)
 | there (x : AV) {a b : List AV} (h : Frz k s n y a b) : Frz k s n y (x :: a) (x :: b)
section
variable {E E' : Env} {A A' : Nat -> Nat -> Prop} {G : Gd} {w : World}
theorem Reps.mid {y y' : AV} (hE : E.le E') (hX : Ext A G w A' G w) (hy : ∀ v, Rep E A G w y v -> Rep E' A' G w y' v) : ∀ (x z : List AV) (vs : List Value), Reps E A G w (x ++ y :: z) vs -> Reps E' A' G w (x ++ y' :: z) vs
 | [], z, vs, h => by
  simp only [List.nil_append, Reps] at h ⊢
  obtain ⟨u, us, rfl, h1, h2⟩ := h
  exact ⟨u, us, rfl, hy _ h1, Reps.mono hE hX _ _ h2⟩
 | a :: x, z, vs, h => by
  simp only [List.cons_append, Reps] at h ⊢
  obtain ⟨u, us, rfl, h1, h2⟩ := h
  exact ⟨u, us, rfl, Rep.mono hE hX _ _ h1, Reps.mid hE hX hy x z us h2⟩
theorem Reps.frz {k s n : Nat} {y : AV} (hE : E.le E') (hX : Ext A G w A' G w) (hy : ∀ v, Rep E A G w (.vec k s n) v -> Rep E' A' G w y v) {a b : List AV} (hf : Frz k s n y a b) : ∀ {vs : List Value}, Reps E A G w a vs -> Reps E' A' G w b vs := by
 induction hf with
 | here b => exact fun h => Reps.mid hE hX hy [] b _ h
 | inn x z b =>
  intro vs h
  simp only [Reps] at h ⊢
  obtain ⟨u, us, rfl, h1, h2⟩ := h
  refine ⟨u, us, rfl, ?_, Reps.mono hE hX _ _ h2⟩
  simp only [Rep] at h1 ⊢
  obtain ⟨cs, rfl, ho, h1⟩ := h1
  exact ⟨cs, rfl, ho, Reps.mid hE hX hy x z _ h1⟩
 | there x _ ih =>
  intro vs h
  simp only [Reps] at h ⊢
  obtain ⟨u, us, rfl, h1, h2⟩ := h
  exact ⟨u, us, rfl, Rep.mono hE hX _ _ h1, ih h2⟩
end
theorem ACall.freeze {P : Program} {GL : Glob} {f : FuncId} {a b : List AV} {k s n : Nat} {T : TypeId} {l : List AV} {h : List AObj} {R : ARes -> List AObj -> Prop} (hk : h[k]? = some (.buf T s l)) (hn : n <= l.length)
  (hf : Frz k s n (.sl s (l.take n)) a b) (hc : ACall P GL f b (h.set k .dead ++ [.spare T s]) R) : ACall P GL f a h R := by
 intro E A G w vs hW ha
 have hv : ∃ v, Rep E A G w (.vec k s n) v := by
  clear hc
  induction hf generalizing vs with
  | here b => simp only [Reps] at ha; obtain ⟨u, us, _, h1, _⟩ := ha; exact ⟨u, h1⟩
  | inn x z b =>
   simp only [Reps] at ha
   obtain ⟨u, us, _, h1, _⟩ := ha
   simp only [Rep] at h1
   obtain ⟨cs, _, _, h1⟩ := h1
   have : ∀ (x : List AV) (vs : List Value), Reps E A G w (x ++ .vec k s n :: z) vs -> ∃ v, Rep E A G w (.vec k s n) v := by
    intro x
    induction x with
    | nil => intro vs h; simp only [List.nil_append, Reps] at h; obtain ⟨u, us, _, h1, _⟩ := h; exact ⟨u, h1⟩
    | cons a x ih => intro vs h; simp only [List.cons_append, Reps] at h; obtain ⟨u, us, _, _, h2⟩ := h; exact ih us h2
   exact this x _ h1
  | there x _ ih => simp only [Reps] at ha; obtain ⟨u, us, _, _, h2⟩ := ha; exact ih us h2
 obtain ⟨v0, hv0⟩ := hv
 simp only [Rep] at hv0
 obtain ⟨hkn, hwid, _, hmc, h50, hcm⟩ := hv0
 obtain ⟨E', A', g1, g2, g3, g4⟩ := jH hW hk hkn hwid (b := n) hn hcm h50
 have hy : ∀ v, Rep E A G w (.vec k s n) v -> Rep E' A' G w (.sl s (l.take n)) v := by
  intro v hv
  simp only [Rep] at hv g4 ⊢
  obtain ⟨_, _, rfl, _⟩ := hv
  exact g4.2.2
 refine (hc E' A' G w vs g3 (Reps.frz g1 g2 hy hf ha)).mono fun e w' => ?_
 rintro ⟨E1, A1, G1, r, h1, q1, q2, q3, q4, q5⟩
 exact ⟨E1, A1, G1, r, h1, q1, g2.trans q2, Env.le_trans g1 q3, q4, q5⟩
section
variable {GL : Glob} {E : Env} {A : Nat -> Nat -> Prop} {G : Gd} {h : List AObj} {w : World}
end
inductive Tm where
 | mk (kind n : Int) (s : List UInt8) (l : List Tm)
 deriving Inhabited
def Tm.kind : Tm -> Int | .mk k _ _ _ => k
def Tm.n : Tm -> Int | .mk _ n _ _ => n
def Tm.s : Tm -> List UInt8 | .mk _ _ s _ => s
def Tm.l : Tm -> List Tm | .mk _ _ _ l => l
theorem Tm.kind_mk {k n : Int} {s : List UInt8} {l : List Tm} : (Tm.mk k n s l).kind = k := rfl
theorem Tm.n_mk {k n : Int} {s : List UInt8} {l : List Tm} : (Tm.mk k n s l).n = n := rfl
theorem Tm.s_mk {k n : Int} {s : List UInt8} {l : List Tm} : (Tm.mk k n s l).s = s := rfl
theorem Tm.l_mk {k n : Int} {s : List UInt8} {l : List Tm} : (Tm.mk k n s l).l = l := rfl
mutual
def enc : Tm -> AV
 | .mk k n s l => .agg [.v (.int .i64 k), .v (.int .i64 n), .str s, .sl 4 (encs l)]
def encs : List Tm -> List AV
 | [] => []
 | t :: r => enc t :: encs r
end
theorem tH : ∀ l, encs l = l.map enc
 | [] => rfl
 | t :: r => by simp [encs, tH r]
theorem wN (k n s l) : enc (.mk k n s l) = .agg [.v (.int .i64 k), .v (.int .i64 n), .str s, .sl 4 (l.map enc)] := by rw [enc, tH]
theorem cT (t : Tm) : enc t = .agg [.v (.int .i64 t.kind), .v (.int .i64 t.n), .str t.s, .sl 4 (t.l.map enc)] := by cases t; rw [wN]; rfl
theorem bC (t : Tm) : AV.agg [.v (.int .i64 t.kind), .v (.int .i64 t.n), .str t.s, .sl 4 (t.l.map enc)] = enc t := (cT t).symm
theorem enc_cells (t : Tm) : (enc t).cells = [.v (.int .i64 t.kind), .v (.int .i64 t.n), .str t.s, .sl 4 (t.l.map enc)] := by rw [cT]; rfl
theorem solid_enc (t : Tm) : (enc t).solid = true := by rw [cT]; rfl
mutual
theorem qK (κ : Nat -> Nat) : ∀ t, ren κ (enc t) = enc t
 | .mk k n s l => by simp only [enc, ren, rens, nX κ l]
theorem nX (κ : Nat -> Nat) : ∀ l, rens κ (encs l) = encs l
 | [] => rfl
 | t :: r => by simp only [encs, rens, qK κ t, nX κ r]
end
mutual
theorem vO (n : Nat) : ∀ t, bd n (enc t) = True
 | .mk k _ s l => by simp only [enc, bd, bds, pP n l, and_self]
theorem pP (n : Nat) : ∀ l, bds n (encs l) = True
 | [] => rfl
 | t :: r => by simp only [encs, bds, vO n t, pP n r, and_self]
end
def Free {α : Type} (f : α -> AV) : Prop := (∀ κ a, ren κ (f a) = f a) /\ ∀ n a, bd n (f a) = True
theorem free_enc : Free enc := ⟨qK, vO⟩
theorem Free.rens {α : Type} {f : α -> AV} (h : Free f) (κ : Nat -> Nat) : ∀ l : List α, rens κ (l.map f) = l.map f
 | [] => rfl
 | x :: r => by simp only [List.map_cons, Rip.rens, h.1, Free.rens h κ r]
theorem Free.bds {α : Type} {f : α -> AV} (h : Free f) (n : Nat) : ∀ l : List α, bds n (l.map f) = True
 | [] => rfl
 | x :: r => by simp only [List.map_cons, Rip.bds, h.2, Free.bds h n r, and_self]
theorem lB (κ : Nat -> Nat) (l : List Tm) : rens κ (l.map enc) = l.map enc := free_enc.rens κ l
theorem nU (n : Nat) (l : List Tm) : bds n (l.map enc) = True := free_enc.bds n l
structure Cl where
 mark : Int
 vars : Int
 head : List Tm
 guard : List Tm
 body : List Tm
 deriving Inhabited
def encCl (c : Cl) : AV := .agg [.v (.int .i64 c.mark), .v (.int .i64 c.vars), .sl 4 (c.head.map enc), .sl 4 (c.guard.map enc), .sl 4 (c.body.map enc)]
theorem free_encCl : Free encCl := ⟨fun κ a => by simp only [encCl, ren, rens, lB], fun n a => by simp only [encCl, bd, bds, nU, and_self]⟩
structure Pr where
 name : List UInt8
 arity : Int
 clauses : List Cl
 deriving Inhabited
def encPr (p : Pr) : AV := .agg [.str p.name, .v (.int .i64 p.arity), .sl 5 (p.clauses.map encCl)]
theorem free_encPr : Free encPr := ⟨fun κ a => by simp only [encPr, ren, rens, free_encCl.rens], fun n a => by simp only [encPr, bd, bds, free_encCl.bds, and_self]⟩
structure Pg where
 procs : List Pr
 deriving Inhabited
def encPg (p : Pg) : AV := .agg [.sl 3 (p.procs.map encPr)]
theorem free_encPg : Free encPg := ⟨fun κ a => by simp only [encPg, ren, rens, free_encPr.rens], fun n a => by simp only [encPg, bd, bds, free_encPr.bds, and_self]⟩
structure Qy where
 vars : Int
 goals : List Tm
 deriving Inhabited
def encQy (q : Qy) : AV := .agg [.v (.int .i64 q.vars), .sl 4 (q.goals.map enc)]
theorem free_encQy : Free encQy := ⟨fun κ a => by simp only [encQy, ren, rens, lB], fun n a => by simp only [encQy, bd, bds, nU, and_self]⟩
structure Sym where
 name : List UInt8
 arity : Int
 deriving Inhabited, DecidableEq
def encSym (s : Sym) : AV := .agg [.str s.name, .v (.int .i64 s.arity)]
theorem free_encSym : Free encSym := ⟨fun κ a => by simp only [encSym, ren, rens], fun n a => by simp only [encSym, bd, bds, and_self]⟩
def encI (n : Int) : AV := .v (.int .i64 n)
theorem free_encI : Free encI := ⟨fun κ a => by simp only [encI, ren], fun n a => by simp only [encI, bd]⟩
mutual
theorem qW {n m : Nat} (h : n <= m) : ∀ (x : AV), bd n x -> bd m x
 | .any, _ | .v _, _ | .str _, _ => by simp [bd]
 | .agg l, hb | .tup l, hb | .sl _ l, hb | .pel l, hb => by simp only [bd] at hb ⊢; exact eR h l hb
 | .own k _ l, hb => by simp only [bd] at hb ⊢; exact ⟨by omega, eR h l hb.2⟩
 | .ref k _, hb | .eref k _ _, hb | .vec k _ _, hb | .view k _ _ _, hb | .mp k, hb | .yld k, hb => by simp only [bd] at hb ⊢; omega
 | .imp ks vs, hb => by simp only [bd] at hb ⊢; exact ⟨eR h ks hb.1, eR h vs hb.2⟩
 | .fn _ a b, hb => by simp only [bd] at hb ⊢; exact ⟨eR h a hb.1, eR h b hb.2⟩
 | .iface _ x, hb => by simp only [bd] at hb ⊢; exact qW h x hb
theorem eR {n m : Nat} (h : n <= m) : ∀ (l : List AV), bds n l -> bds m l
 | [], _ => by simp [bds]
 | x :: xs, hb => by simp only [bds] at hb ⊢; exact ⟨qW h x hb.1, eR h xs hb.2⟩
end
theorem aO {GL : Glob} {x v : AV} {h : List AObj} (hw : wkr x v) (hb : bd 0 v) : ∃ y h', Wk GL 0 [(0, x)] h [(0, y)] h' /\ h' = [] /\ ARes.val y = ARes.val v :=
 ⟨v, [], Wk.ren (fun k => k) (Nat.le_refl _) (fun _ _ => rfl) (fun _ _ _ _ e => e) (by simp only [SlotsOk, tget]; exact ⟨by rw [lD]; exact hw, hb, trivial⟩) trivial, rfl, rfl⟩
theorem aK (n : Int) (h : -9223372036854775808 <= n /\ n <= 9223372036854775807) : IntKind.i64.wrap n = n := IntWalk.i64_in n h
section
variable (κ : Nat -> Nat) (n : Nat)
theorem ren_encCl (c : Cl) : ren κ (encCl c) = encCl c := free_encCl.1 κ c
theorem bd_encCl (c : Cl) : bd n (encCl c) = True := free_encCl.2 n c
theorem rU (l : List Cl) : rens κ (l.map encCl) = l.map encCl := free_encCl.rens κ l
theorem vF (l : List Cl) : bds n (l.map encCl) = True := free_encCl.bds n l
theorem ren_encPr (c : Pr) : ren κ (encPr c) = encPr c := free_encPr.1 κ c
theorem bd_encPr (c : Pr) : bd n (encPr c) = True := free_encPr.2 n c
theorem rX (l : List Pr) : rens κ (l.map encPr) = l.map encPr := free_encPr.rens κ l
theorem vP (l : List Pr) : bds n (l.map encPr) = True := free_encPr.bds n l
theorem ren_encPg (c : Pg) : ren κ (encPg c) = encPg c := free_encPg.1 κ c
theorem bd_encPg (c : Pg) : bd n (encPg c) = True := free_encPg.2 n c
theorem ren_encQy (c : Qy) : ren κ (encQy c) = encQy c := free_encQy.1 κ c
theorem bd_encQy (c : Qy) : bd n (encQy c) = True := free_encQy.2 n c
theorem vW (c : Sym) : ren κ (encSym c) = encSym c := free_encSym.1 κ c
theorem bd_encSym (c : Sym) : bd n (encSym c) = True := free_encSym.2 n c
theorem qH (l : List Sym) : rens κ (l.map encSym) = l.map encSym := free_encSym.rens κ l
theorem sQ (l : List Sym) : bds n (l.map encSym) = True := free_encSym.bds n l
theorem wL (l : List Int) : rens κ (l.map encI) = l.map encI := free_encI.rens κ l
theorem bds_encIs (l : List Int) : bds n (l.map encI) = True := free_encI.bds n l
end
attribute [go_sem] enc_cells solid_enc bC qK lB vO nU ren_encCl bd_encCl rU vF ren_encPr bd_encPr rX vP ren_encPg bd_encPg ren_encQy bd_encQy vW bd_encSym qH sQ wL bds_encIs
section
variable {E : Env} {A : Nat -> Nat -> Prop} {G : Gd} {w : World}
end
theorem eE {GL : Glob} {C : Calling} {m : Nat} {Pn : AV -> List AObj -> Prop} {s : List Fr} {Q : Post} {τ : List (Nat × AV)} {h : List AObj} {b : ACode} (hC : C.Mono) (Inv : Nat -> Prop) (S : Nat -> List (Nat × AV)) (live : List Nat) (N : Nat)
  (hi : Inv 0) (h0 : Wk GL m τ h (S 0 ++ sel live τ) h) (hs : ∀ j, j <= N -> Inv j -> wpA GL C m b (pst GL C m Pn (.lp (fun τ' h' => j < N /\ Inv (j + 1) /\ Wk GL m τ' h' (S (j + 1) ++ sel live τ) h) :: s) Q) Pn (S j ++ sel live τ) h) :
  wpA GL C m (.loop b) (pst GL C m Pn s Q) Pn τ h := s_for hC Inv (fun j => S j ++ sel live τ) (fun _ => h) N hi h0 hs
theorem Wk.slots {GL : Glob} {m : Nat} {τ τ' : List (Nat × AV)} {h h' : List AObj} (hm : m <= h'.length) (hs : SlotsOk τ (fun k => k) h'.length τ') (ho : ObjsOk h (fun k => k) h'.length 0 h') : Wk GL m τ h τ' h' :=
 Wk.ren (fun k => k) hm (fun _ _ => rfl) (fun _ _ _ _ e => e) hs ho
mutual
def Tm.size : Tm -> Nat
 | .mk _ _ _ l => sizes l + 1
def sizes : List Tm -> Nat
 | [] => 0
 | t :: r => t.size + sizes r
end
mutual
def Tm.deep : Tm -> Nat
 | .mk _ _ _ l => deeps l + 1
def deeps : List Tm -> Nat
 | [] => 0
 | t :: r => max t.deep (deeps r)
end
theorem cO (t : Tm) : t.size = sizes t.l + 1 := by cases t; rfl
theorem deep_eq (t : Tm) : t.deep = deeps t.l + 1 := by cases t; rfl
theorem kV : ∀ a b, sizes (a ++ b) = sizes a + sizes b
 | [], b => by simp [sizes]
 | x :: r, b => by simp only [List.cons_append, sizes, kV r b]; omega
theorem qA : ∀ a b, deeps (a ++ b) = max (deeps a) (deeps b)
 | [], b => by simp [deeps]
 | x :: r, b => by simp only [List.cons_append, deeps, qA r b]; omega
theorem cF (t : Tm) : 0 < t.size := by rw [cO]; omega
theorem eG : ∀ l : List Tm, l.length <= sizes l
 | [] => Nat.le_refl _
 | t :: r => by have := eG r; have := cF t; simp only [List.length_cons, sizes]; omega
theorem iU (l : List Tm) (j : Nat) : sizes (l.take j) <= sizes l := by
 conv => rhs; rw [<- List.take_append_drop j l, kV]
 omega
theorem iZ {l : List Tm} {j : Nat} (h : j < l.length) : sizes (l.take (j + 1)) = sizes (l.take j) + l[j].size := by
 rw [dJ h, kV]; simp [sizes]
theorem mT {l : List Tm} {j : Nat} (h : j < l.length) : deeps (l.take (j + 1)) = max (deeps (l.take j)) l[j].deep := by
 rw [dJ h, qA]; simp [deeps]
theorem kM {l : List Tm} {j : Nat} (h : j < l.length) : l[j].size <= sizes l := by
 have h1 := iZ h
 have h2 := iU l (j + 1)
 omega
theorem size_lt {t : Tm} {x : Tm} (h : x ∈ t.l) : x.size < t.size := by
 obtain ⟨j, hj, rfl⟩ := List.mem_iff_getElem.1 h
 have := kM hj
 have := cO t
 omega
theorem wM {p : Tm -> Prop} (h : ∀ t, (∀ x ∈ t.l, p x) -> p t) : ∀ t, p t := by
 intro t
 generalize hn : t.size = n
 induction n using Nat.strongRecOn generalizing t with
 | _ n ih => exact h t fun x hx => ih x.size (by rw [<- hn]; exact size_lt hx) x rfl
theorem eJ {a b : Nat} (h : decide ((a : Int) < b) = true) : a < b := by simpa using h
theorem eF {a b : Nat} (h : decide ((a : Int) < b) = false) : b <= a := by simpa using h
theorem eV {α : Type} {l : List α} {j : Nat} (h : l.length <= j) : l.take j = l := List.take_of_length_le h
def nxO (t : Bool) (GL : Glob) (C : Calling) (d : Option Nat) (s : ByteArray) (pos k : Nat) (os : List AEnt) (τ : List (Nat × AV)) (h : List AObj) (K : List (Nat × AV) -> List AObj -> Prop) (Pn : AV -> List AObj -> Prop) : Prop :=
 condP t (opsA GL C os (aput τ d (.tup [.v (.bool true), .v (.int .i64 pos), .v (.int .i32 (Utf8.decode s pos).1)])) (h.set k (.siter s (pos + (Utf8.decode s pos).2))) K Pn) (opsA GL C os (aput τ d (.tup [.v (.bool false)])) h K Pn)
section
variable {GL : Glob} {C : Calling} {os : List AEnt} {τ : List (Nat × AV)} {h : List AObj} {K : List (Nat × AV) -> List AObj -> Prop} {Pn : AV -> List AObj -> Prop} {d : Option Nat} {s : ByteArray} {pos k : Nat} {t : Bool}
theorem g_nextStr {x : AOpd} : opsA GL C ((d, none, .nextStr x) :: os) τ h K Pn = (match aeval GL τ x with
  | .ref k 0 => match h[k]? with
   | some (.siter s pos) => nxO (Nat.blt pos s.size) GL C d s pos k os τ h K Pn
   | _ => False
  | _ => False) := rfl
theorem nxO_true : nxO true GL C d s pos k os τ h K Pn = opsA GL C os (aput τ d (.tup [.v (.bool true), .v (.int .i64 pos), .v (.int .i32 (Utf8.decode s pos).1)])) (h.set k (.siter s (pos + (Utf8.decode s pos).2))) K Pn := eX _ _
theorem nxO_false : nxO false GL C d s pos k os τ h K Pn = opsA GL C os (aput τ d (.tup [.v (.bool false)])) h K Pn := dZ _ _
theorem nxO_and (h1 : t = true -> nxO true GL C d s pos k os τ h K Pn) (h2 : t = false -> nxO false GL C d s pos k os τ h K Pn) : nxO t GL C d s pos k os τ h K Pn := by cases t; exact h2 rfl; exact h1 rfl
end
attribute [go_sem ↓] g_nextStr nxO_true nxO_false
def byteOk (b : UInt8) : Bool := decide (32 <= b.toNat) && decide (b.toNat <= 126)
def nameOk (s : List UInt8) : Bool := decide (1 <= s.length) && (decide (s.length <= 32) && s.all byteOk)
theorem decode_ok {l : List UInt8} {j : Nat} (h : j < l.length) (hb : byteOk l[j] = true) : Utf8.decode ⟨l.toArray⟩ j = (l[j].toNat, 1) := by
 have hs : j < (ByteArray.mk l.toArray).size := by show j < l.toArray.size; simpa using h
 have hg : ((ByteArray.mk l.toArray)[j]'hs) = l[j] := by show l.toArray[j] = l[j]; simp
 simp only [byteOk, Bool.and_eq_true, decide_eq_true_eq] at hb
 rw [decode_ascii _ j hs (by rw [hg]; omega), hg]
theorem vQ {l : List UInt8} {j : Nat} (h : j < l.length) (hb : byteOk l[j] = false) : (Utf8.decode ⟨l.toArray⟩ j).1 < 32 ∨ 126 < (Utf8.decode ⟨l.toArray⟩ j).1 := by
 have hs : j < (ByteArray.mk l.toArray).size := by show j < l.toArray.size; simpa using h
 have hg : ((ByteArray.mk l.toArray)[j]'hs) = l[j] := by show l.toArray[j] = l[j]; simp
 by_cases h128 : l[j].toNat < 128
 ·rw [decode_ascii _ j hs (by rw [hg]; exact h128), hg]
  simp only [byteOk, Bool.and_eq_false_iff, decide_eq_false_iff_not] at hb
  show l[j].toNat < 32 ∨ 126 < l[j].toNat
  omega
 ·have := (decode_high _ j hs (by rw [hg]; omega)).1
  right; omega
def firstBad (s : List UInt8) : Int := match s.findIdx? (fun b => !byteOk b) with
 | some i => i
 | none => -1
theorem oX {s : List UInt8} (h : s.all byteOk = true) : firstBad s = -1 := by
 have : s.findIdx? (fun b => !byteOk b) = none := by
  rw [List.findIdx?_eq_none_iff]
  intro x hx
  simp [List.all_eq_true.1 h x hx]
 rw [firstBad, this]
theorem oZ {s : List UInt8} {j : Nat} (hj : j < s.length) (h1 : (s.take j).all byteOk = true) (h2 : byteOk s[j] = false) : firstBad s = j := by
 have : s.findIdx? (fun b => !byteOk b) = some j := by
  rw [List.findIdx?_eq_some_iff_getElem]
  refine ⟨hj, by simp [h2], fun i hi => ?_⟩
  have : s[i] ∈ s.take j := by rw [List.mem_iff_getElem]; exact ⟨i, by simp; omega, by simp⟩
  simp [List.all_eq_true.1 h1 _ this]
 rw [firstBad, this]
theorem rJ (s : List UInt8) : decide (firstBad s < 0) = s.all byteOk := by
 unfold firstBad
 cases h : s.findIdx? (fun b => !byteOk b) with
 | none =>
  rw [List.findIdx?_eq_none_iff] at h
  have : s.all byteOk = true := List.all_eq_true.2 fun x hx => by simpa using h x hx
  rw [this]; rfl
 | some i =>
  rw [List.findIdx?_eq_some_iff_getElem] at h
  obtain ⟨hi, h1, _⟩ := h
  have : s.all byteOk = false := by
   rw [Bool.eq_false_iff]
   intro ha
   have := List.all_eq_true.1 ha _ (List.getElem_mem hi)
   rw [this] at h1; cases h1
  rw [this]
  simp
theorem all_snoc {α : Type} {l : List α} {j : Nat} (h : j < l.length) (p : α -> Bool) : (l.take (j + 1)).all p = ((l.take j).all p && p l[j]) := by rw [dJ h, List.all_append]; simp
end Go.Rip
