/- One operation, dispatched. -/
import Derived.OrdersIn
import Derived.Test.YtndcajdameofjaaGreatDoorRipAC
namespace Go.Rip
open Go
section
variable {P : Program} {GL : Glob} {E : Env} {A : Nat -> Nat -> Prop} {G : Gd} {h : List AObj} {w : World} {τ : List (Nat × AV)} {ρ : Operand -> Value} {K : AV -> List AObj -> Prop}
theorem step_ok {o : Oper} {ao : AOp} (hc : compOp P o = some ao) (hW : Wf GL E A G h w) (hρ : Opds GL E A G w τ ρ) (hs : stepA GL ao τ h K) : OpOk P GL E A G w (execOp ρ o) K := by
 have hc0 := hc
 cases ho : o.op with
 | move x | assign x =>
  simp only [compOp, ho, Option.some.injEq] at hc
  subst hc
  simp only [execOp, ho]
  exact ok_move hW hρ hs
 | pick c x y =>
  simp only [compOp, ho, Option.some.injEq] at hc
  subst hc
  simp only [execOp, ho]
  exact ok_pick hW hρ hs
 | alloc T =>
  simp only [compOp, ho] at hc
  split at hc
  ·rename_i z hz
   cases hc
   simp only [execOp, ho]
   exact ok_alloc hW hz hs
  ·cases hc
 | box T x =>
  simp only [compOp, ho, Option.some.injEq] at hc
  subst hc
  simp only [execOp, ho]
  exact ok_box hW hρ hs
 | build t ps =>
  simp only [execOp, ho]
  exact ok_build hW hρ ho hc0 hs
 | buildSlice t len ps =>
  simp only [compOp, ho] at hc
  split at hc
  ·rename_i e hu
   split at hc
   ·rename_i s z hsz hz
    split at hc
    ·rename_i hb
     cases hc
     simp only [Bool.and_eq_true] at hb
     simp only [execOp, ho]
     exact ok_buildSlice hW hρ hu hsz hz (Nat.le_of_ble_eq_true hb.1) (Nat.le_of_ble_eq_true hb.2) hs
    ·cases hc
   ·cases hc
  ·cases hc
 | load t a =>
  simp only [execOp, ho]
  exact ok_load hW hρ ho hc0 hs
 | store t a x =>
  simp only [execOp, ho]
  exact ok_store hW hρ ho hc0 hs
 | nilCheck x =>
  simp only [compOp, ho, Option.some.injEq] at hc
  subst hc
  exact ok_nilCheck hW hρ ho hs
 | binOp op t x y yt =>
  simp only [execOp, ho]
  exact ok_bin hW hρ ho hc0 hs
 | unOp op t x =>
  simp only [compOp, ho, Option.some.injEq] at hc
  subst hc
  simp only [execOp, ho]
  exact ok_un hW hρ hs
 | convert src dst x =>
  simp only [execOp, ho]
  exact ok_conv hW hρ ho hc0 hs
 | makeInterface t x =>
  simp only [execOp, ho]
  exact ok_mkIface hW hρ ho hc0 hs
 | makeFunc fn a b =>
  cases fn with
  | func f =>
   simp only [compOp, ho, Option.some.injEq] at hc
   subst hc
   simp only [execOp, ho]
   exact ok_mkFunc hW hρ hs
  | _ => simp [compOp, ho] at hc
 | makeMap t r =>
  cases r with
  | none =>
   simp only [compOp, ho, Option.some.injEq] at hc
   subst hc
   simp only [execOp, ho]
   exact ok_mkMap hW hs
  | some r => simp [compOp, ho] at hc
 | makeSlice t l c =>
  simp only [compOp, ho] at hc
  split at hc
  ·rename_i e hu
   split at hc
   ·rename_i s b z hsz hby hz
    split at hc
    ·rename_i hb
     cases hc
     simp only [Bool.and_eq_true] at hb
     simp only [execOp, ho]
     exact ok_mkSlice hW hρ hu hsz hby hz (Nat.le_of_ble_eq_true hb.1) (Nat.le_of_ble_eq_true hb.2) hs
    ·cases hc
   ·cases hc
  ·cases hc
 | slice t x lo hi mx =>
  simp only [compOp, ho] at hc
  simp only [execOp, ho]
  split at hc
  ·rename_i hu
   cases mx with
   | none =>
    simp only [Option.some.injEq] at hc
    subst hc
    exact ok_sliceStr hW hρ hu hs
   | some m => cases hc
  ·rename_i e hu
   split at hc
   ·rename_i s hsz
    split at hc
    ·cases hc
     exact ok_sliceV hW hρ hu hsz hs
    ·cases hc
     exact ok_slice hW hρ hu hsz hs
   ·cases hc
  ·rename_i n e hu
   split at hc
   ·rename_i s hsz
    split at hc
    ·rename_i hb
     cases hc
     exact ok_sliceArr hW hρ hu hsz (by have := Nat.le_of_ble_eq_true hb; omega) hs
    ·cases hc
   ·cases hc
  ·cases hc
 | fieldAddr s x f =>
  simp only [execOp, ho]
  exact ok_fieldAddr hW hρ ho hc0 hs
 | field s x f =>
  simp only [execOp, ho]
  exact ok_field hW hρ ho hc0 hs
 | indexAddr t x i =>
  simp only [execOp, ho]
  exact ok_indexAddr hW hρ ho hc0 hs
 | index t x i =>
  simp only [execOp, ho]
  exact ok_indexArr hW hρ ho hc0 hs
 | lookup t x i ok =>
  simp only [compOp, ho] at hc
  split at hc
  ·rename_i k e hu
   split at hc
   ·rename_i q z hq hz
    cases hc
    simp only [execOp, ho]
    exact ok_lookup hW hρ hu hq hz hs
   ·cases hc
  ·cases hc
 | mapUpdate t m k x | insert t m k x =>
  simp only [compOp, ho] at hc
  split at hc
  ·rename_i kt e hu
   split at hc
   ·rename_i q hq
    cases hc
    simp only [execOp, ho]
    exact ok_mapUpdate hW hρ hu hq hs
   ·cases hc
  ·cases hc
 | extract x i =>
  simp only [compOp, ho, Option.some.injEq] at hc
  subst hc
  simp only [execOp, ho]
  exact ok_extract hW hρ hs
 | range t x =>
  simp only [compOp, ho] at hc
  split at hc
  ·rename_i hu
   cases hc
   simp only [execOp, ho]
   exact ok_rangeStr hW hρ hu hs
  ·cases hc
 | next it b =>
  cases b with
  | true =>
   simp only [compOp, ho, Option.some.injEq] at hc
   subst hc
   simp only [execOp, ho]
   exact ok_nextStr hW hρ hs
  | false => simp [compOp, ho] at hc
 | typeAssert x xt T ok =>
  simp only [compOp, ho] at hc
  split at hc
  ·cases hc
  ·rename_i d hn hu
   split at hc
   ·rename_i z hz
    cases hc
    simp only [execOp, ho]
    exact ok_tyAssert hW hρ hu (fun ms e => hn ms (by rw [e])) hz hs
   ·cases hc
  ·cases hc
 | panic x =>
  simp only [compOp, ho, Option.some.injEq] at hc
  subst hc
  exact hs.elim
 | call c =>
  obtain ⟨callee, args, ats⟩ := c
  cases callee with
  | value f => cases f <;> (simp only [compOp, ho, Option.some.injEq] at hc; subst hc; exact hs.elim)
  | invoke r n => simp [compOp, ho] at hc
  | builtin b =>
   simp only [execOp, ho, resolve, pure_bind, invoke, builtin]
   simp only [compOp, ho] at hc
   split at hc
   ·rename_i x t ha hat
    obtain rfl : args = #[x] := by rw [<- Array.toList_inj, ha]
    obtain rfl : ats = #[t] := by rw [<- Array.toList_inj, hat]
    have fin : ∀ q, (match P.underlying t with | some .string => q = .str | some (.slice _) => q = .sl | some (.map _ _) => q = .mp | _ => False) -> ao = .len q (compOpd x) -> OpOk P GL E A G w (do pure (.value (<- Builtin.len_ #[t] o.type #[ρ x]))) K := by
     intro q hq he
     subst he
     exact ok_len hW hρ hq hs
    simp only [List.map_toArray, List.map_cons, List.map_nil]
    split at hc
    ·rename_i hu
     cases hc
     exact fin .str (by rw [hu]) rfl
    ·rename_i e hu
     cases hc
     exact fin .sl (by rw [hu]) rfl
    ·rename_i k e hu
     cases hc
     exact fin .mp (by rw [hu]) rfl
    ·cases hc
   ·rename_i x t ha hat
    obtain rfl : args = #[x] := by rw [<- Array.toList_inj, ha]
    obtain rfl : ats = #[t] := by rw [<- Array.toList_inj, hat]
    split at hc
    ·rename_i e hu
     cases hc
     simp only [List.map_toArray, List.map_cons, List.map_nil]
     exact ok_cap hW hρ hu hs
    ·cases hc
   ·rename_i x t ha hat
    obtain rfl : args = #[x] := by rw [<- Array.toList_inj, ha]
    obtain rfl : ats = #[t] := by rw [<- Array.toList_inj, hat]
    split at hc
    ·rename_i e hu
     split at hc
     ·rename_i s z hsz hz
      split at hc
      ·rename_i hb
       cases hc
       simp only [List.map_toArray, List.map_cons, List.map_nil]
       exact ok_clear hW hρ hu hsz hz (Nat.le_of_ble_eq_true hb) hs
      ·cases hc
     ·cases hc
    ·cases hc
   ·rename_i x y t u ha hat
    obtain rfl : args = #[x, y] := by rw [<- Array.toList_inj, ha]
    obtain rfl : ats = #[t, u] := by rw [<- Array.toList_inj, hat]
    split at hc
    ·rename_i e kk hu hu'
     split at hc
     ·rename_i s y' z hsz hby hz
      split at hc
      ·rename_i hb
       cases hc
       simp only [Bool.and_eq_true] at hb
       simp only [List.map_toArray, List.map_cons, List.map_nil]
       exact ok_appendZ hW hρ hu hu' hsz hby hz (Nat.le_of_ble_eq_true hb.1) (Nat.le_of_ble_eq_true hb.2) hs
      ·cases hc
     ·cases hc
    ·rename_i e e' hu hu'
     split at hc
     ·rename_i s y' z hsz hby hz htu
      have htu := eq_of_beq htu
      subst htu
      split at hc
      ·rename_i hb
       simp only [Bool.and_eq_true] at hb
       simp only [List.map_toArray, List.map_cons, List.map_nil]
       split at hc
       ·cases hc
        exact ok_appendM hW hρ hu hsz hby hz (Nat.le_of_ble_eq_true hb.1) (Nat.le_of_ble_eq_true hb.2) hs
       cases hc
       exact ok_append hW hρ hu hsz hby hz (Nat.le_of_ble_eq_true hb.1) (Nat.le_of_ble_eq_true hb.2) hs
      ·cases hc
     ·cases hc
    ·cases hc
   ·rename_i x y ha
    obtain rfl : args = #[x, y] := by rw [<- Array.toList_inj, ha]
    cases hc
    simp only [List.map_toArray, List.map_cons, List.map_nil]
    exact ok_max hW hρ hs
   ·rename_i x y ha
    obtain rfl : args = #[x, y] := by rw [<- Array.toList_inj, ha]
    cases hc
    simp only [List.map_toArray, List.map_cons, List.map_nil]
    exact ok_min hW hρ hs
   ·cases hc
 | _ => simp [compOp, ho] at hc
def CompOk (P : Program) (o : Oper) (a : AOp) : Prop := ∃ b, compOp P o = some b /\ (a = b ∨ a = frz b)
theorem compOp_buildSlice {o : Oper} {T : TypeId} {sz : Nat} {z : AV} {n : Nat} {ps : List (Nat × AOpd)} (hc : compOp P o = some (.buildSlice T sz z n ps)) :
  ∃ t qs, o.op = .buildSlice t n qs /\ P.underlying t = some (.slice T) /\ tySize P T = some sz /\ tyZero P T = some z /\ 0 < sz /\ n * sz <= 2 ^ 24 /\ ps = qs.toList.map fun (i, x) => (i, compOpd x) := by
 cases ho : o.op
 case buildSlice t len qs =>
  simp only [compOp, ho] at hc
  split at hc
  ·rename_i e hu
   split at hc
   ·rename_i s z' hsz hz
    split at hc
    ·rename_i hb
     cases hc
     simp only [Bool.and_eq_true] at hb
     exact ⟨t, qs, rfl, hu, hsz, hz, Nat.le_of_ble_eq_true hb.1, Nat.le_of_ble_eq_true hb.2, rfl⟩
    ·cases hc
   ·cases hc
  ·cases hc
 case makeFunc fn a b => cases fn <;> simp [compOp, ho] at hc
 case makeMap t r => cases r <;> simp [compOp, ho] at hc
 case next it b => cases b <;> simp [compOp, ho] at hc
 case call c =>
  obtain ⟨callee, args, ats⟩ := c
  cases callee with
  | value f => cases f <;> simp [compOp, ho] at hc
  | invoke r n => simp [compOp, ho] at hc
  | builtin b =>
   simp only [compOp, ho] at hc
   repeat' split at hc
   all_goals cases hc
 all_goals (simp only [compOp, ho] at hc; try (first | cases hc | skip))
 all_goals (repeat' split at hc)
 all_goals (first | cases hc | skip)
theorem compOp_slice {o : Oper} {sz : Nat} {x : AOpd} {lo hi mx : Option AOpd} (hc : compOp P o = some (.slice sz x lo hi mx)) :
  ∃ t e y l h m, o.op = .slice t y l h m /\ P.underlying t = some (.slice e) /\ tySize P e = some sz /\ x = compOpd y /\ lo = l.map compOpd /\ hi = h.map compOpd /\ mx = m.map compOpd := by
 cases ho : o.op
 case slice t y l h m =>
  simp only [compOp, ho] at hc
  split at hc
  ·cases m <;> simp at hc
  ·rename_i e hu
   split at hc
   ·rename_i s hsz
    split at hc
    ·cases hc
    ·cases hc
     exact ⟨t, e, y, l, h, m, rfl, hu, hsz, rfl, rfl, rfl, rfl⟩
   ·cases hc
  ·split at hc
   ·split at hc <;> cases hc
   ·cases hc
  ·cases hc
 case makeFunc fn a b => cases fn <;> simp [compOp, ho] at hc
 case makeMap t r => cases r <;> simp [compOp, ho] at hc
 case next it b => cases b <;> simp [compOp, ho] at hc
 case call c =>
  obtain ⟨callee, args, ats⟩ := c
  cases callee with
  | value f => cases f <;> simp [compOp, ho] at hc
  | invoke r n => simp [compOp, ho] at hc
  | builtin b =>
   simp only [compOp, ho] at hc
   repeat' split at hc
   all_goals cases hc
 all_goals (simp only [compOp, ho] at hc; try (first | cases hc | skip))
 all_goals (repeat' split at hc)
 all_goals (first | cases hc | skip)
theorem step_okF {o : Oper} {ao : AOp} (hc : CompOk P o ao) (hW : Wf GL E A G h w) (hρ : Opds GL E A G w τ ρ) (hs : stepA GL ao τ h K) : OpOk P GL E A G w (execOp ρ o) K := by
 obtain ⟨b, hb, rfl | rfl⟩ := hc
 ·exact step_ok hb hW hρ hs
 ·cases b
  case buildSlice T sz z n ps =>
   obtain ⟨t, qs, ho, hu, hsz, hz, hpos, hn, rfl⟩ := compOp_buildSlice hb
   simp only [execOp, ho]
   exact ok_buildSliceF hW hρ hu hsz hz hpos hn hs
  case slice sz x lo hi mx =>
   obtain ⟨t, e, y, l, h', m, ho, hu, hsz, rfl, rfl, rfl, rfl⟩ := compOp_slice hb
   simp only [execOp, ho]
   exact ok_sliceQ hW hρ hu hsz hs
  all_goals exact step_ok hb hW hρ hs
end
theorem callsIn_FW {r : Option Nat} {n : Nat} {P : Program} {f : FuncId} {args : Array Value} {w : World} {R : Ending -> World -> Prop} (h : Calls P f args w R) : CallsIn (FW r) n P f args w R :=
 ⟨trivial, fun cs _ => let ⟨e, w', fr, r', s, x⟩ := h cs; ⟨e, w', fr, r', comesIn_wide.2 s, x⟩⟩
section
variable {P : Program} {GL : Glob} {E : Env} {A : Nat -> Nat -> Prop} {G : Gd} {h : List AObj} {w : World} {τ : List (Nat × AV)} {a : Act} {K Pn : AV -> List AObj -> Prop}
theorem compOp_defer {o : Oper} {ao : AOp} (hc : compOp P o = some ao) : ∀ c, o.op ≠ .defer c := by
 intro c ho
 simp [compOp, ho] at hc
theorem compOp_chk {o : Oper} {ao : AOp} (hc : compOp P o = some ao) : ∀ d x, ao ≠ .chk d x := by
 intro d x he
 subst he
 cases ho : o.op
 case makeFunc fn a b => cases fn <;> simp [compOp, ho] at hc
 case makeMap t r => cases r <;> simp [compOp, ho] at hc
 case next it b => cases b <;> simp [compOp, ho] at hc
 case call c =>
  obtain ⟨callee, args, ats⟩ := c
  cases callee with
  | value f => cases f <;> simp [compOp, ho] at hc
  | invoke r n => simp [compOp, ho] at hc
  | builtin b =>
   simp only [compOp, ho] at hc
   repeat' split at hc
   all_goals cases hc
 all_goals (simp only [compOp, ho] at hc; try (first | cases hc | skip))
 all_goals (repeat' split at hc)
 all_goals (first | cases hc | skip)
theorem compOp_fn {o : Oper} {ao : AOp} (hc : compOp P o = some ao) :
  (∀ f l, ao = .call f l -> ∃ as ats, o.op = .call ⟨.value (.func f), as, ats⟩ /\ l = as.toList.map compOpd) /\
  (∀ x l, ao = .callV x l -> ∃ y as ats, o.op = .call ⟨.value y, as, ats⟩ /\ x = compOpd y /\ l = as.toList.map compOpd) /\
  (∀ x, ao = .panic x -> ∃ y, o.op = .panic y /\ x = compOpd y) := by
 refine ⟨fun f l he => ?_, fun x l he => ?_, fun x he => ?_⟩ <;> subst he <;> cases ho : o.op
 case refine_1.call c | refine_2.call c | refine_3.call c =>
  obtain ⟨callee, args, ats⟩ := c
  cases callee with
  | value f => cases f <;> simp only [compOp, ho, Option.some.injEq, AOp.call.injEq, AOp.callV.injEq, reduceCtorEq] at hc <;> first
   | (obtain ⟨rfl, rfl⟩ := hc; exact ⟨_, _, rfl, rfl⟩)
   | (obtain ⟨rfl, rfl⟩ := hc; exact ⟨_, _, _, rfl, rfl, rfl⟩)
  | invoke r n => simp [compOp, ho] at hc
  | builtin b =>
   simp only [compOp, ho] at hc
   repeat' split at hc
   all_goals cases hc
 case refine_3.panic y => simp only [compOp, ho, Option.some.injEq, AOp.panic.injEq] at hc; exact ⟨y, rfl, hc.symm⟩
 case refine_1.makeFunc fn a b | refine_2.makeFunc fn a b | refine_3.makeFunc fn a b => cases fn <;> simp [compOp, ho] at hc
 case refine_1.next it b | refine_2.next it b | refine_3.next it b => cases b <;> simp [compOp, ho] at hc
 case refine_1.makeMap t r | refine_2.makeMap t r | refine_3.makeMap t r => cases r <;> simp [compOp, ho] at hc
 all_goals (simp only [compOp, ho] at hc; try (first | cases hc | skip))
 all_goals (repeat' split at hc)
 all_goals (first | cases hc | skip)
theorem frz_same {b : AOp} : (∀ d x, frz b = .chk d x -> b = .chk d x) /\ (∀ f l, frz b = .call f l -> b = .call f l) /\ (∀ x l, frz b = .callV x l -> b = .callV x l) /\ ∀ x, frz b = .panic x -> b = .panic x := by
 cases b <;> simp [frz]
theorem CompOk.defer {o : Oper} {ao : AOp} (hc : CompOk P o ao) : ∀ c, o.op ≠ .defer c := compOp_defer hc.choose_spec.1
theorem CompOk.chk {o : Oper} {ao : AOp} (hc : CompOk P o ao) : ∀ d x, ao ≠ .chk d x := by
 obtain ⟨b, hb, rfl | rfl⟩ := hc
 ·exact compOp_chk hb
 ·exact fun d x e => compOp_chk hb d x (frz_same.1 d x e)
theorem CompOk.fn {o : Oper} {ao : AOp} (hc : CompOk P o ao) :
  (∀ f l, ao = .call f l -> ∃ as ats, o.op = .call ⟨.value (.func f), as, ats⟩ /\ l = as.toList.map compOpd) /\
  (∀ x l, ao = .callV x l -> ∃ y as ats, o.op = .call ⟨.value y, as, ats⟩ /\ x = compOpd y /\ l = as.toList.map compOpd) /\
  (∀ x, ao = .panic x -> ∃ y, o.op = .panic y /\ x = compOpd y) := by
 obtain ⟨b, hb, rfl | rfl⟩ := hc
 ·exact compOp_fn hb
 ·have h := compOp_fn hb
  exact ⟨fun f l e => h.1 f l (frz_same.2.1 f l e), fun x l e => h.2.1 x l (frz_same.2.2.1 x l e), fun x e => h.2.2 x (frz_same.2.2.2 x e)⟩
theorem op_in {r : Option Nat} {n : Nat} {o : Oper} {ao : AOp} (hc0 : CompOk P o ao ∨ ao = .bad) (hW : Wf GL E A G h w) (hρ : Opds GL E A G w τ a.eval) (hs : opA GL (AC P GL) ao τ h K Pn)
  {next : Act -> World -> Prop} {Q : Exit -> Act -> World -> Prop}
  (hnext : ∀ v w' E' A' G' x h', E.le E' -> Ext A G w A' G' w' -> Wf GL E' A' G' h' w' -> Rep E' A' G' w' x v -> K x h' -> next (a.put o.dst v) w')
  (hpan : ∀ p w' E' A' G' x h', E.le E' -> Ext A G w A' G' w' -> Wf GL E' A' G' h' w' -> Rep E' A' G' w' x p.v -> p.recovered = false -> p.goexit = false -> Pn x h' -> Q (.panic [p]) a w') :
  o.wpIn (FW r) n P a w next Q := by
 have hc : CompOk P o ao := hc0.resolve_right (fun e => by subst e; exact hs.elim)
 refine ⟨fun _ _ => trivial, ?_⟩
 rw [show (FW r).round = r from rfl, Oper.semAt_eq _ _ _ (hc.defer)]
 have fin : OpOk P GL E A G w (execOp a.eval o) K -> o.uponIn (FW r) n P a next Q ((execOp a.eval o).run P w) := by
  rintro ⟨nx, v, w', E', A', G', x, h', hrun, hnx, h1, h2, h3, h4, h5⟩
  rw [hrun]
  rcases hnx with rfl | ⟨rfl, rfl⟩
  ·exact hnext _ _ _ _ _ _ _ h1 h2 h3 h4 h5
  ·exact hnext _ _ _ _ _ _ _ h1 h2 h3 h4 h5
 -- a call of a function
 have call : ∀ (f : FuncId) (vs : Array Value), (execOp a.eval o).run P w = (callFunc f vs).run P w ->
   CallA P f vs w (fun e w' => ∃ E' A' G' r h', Wf GL E' A' G' h' w' /\ Ext A G w A' G' w' /\ E.le E' /\ EndRep E' A' G' w' r e /\ resK K Pn r h') ->
   o.uponIn (FW r) n P a next Q ((execOp a.eval o).run P w) := by
  intro f vs he hcall
  rw [he]
  rcases hcall with ⟨h1, h2⟩ | ⟨v, w', h1, E', A', G', r', h', g1, g2, g3, g4, g5⟩
  ·rw [h1]
   refine ⟨fun hd => by simp [FW, Fence.wide] at hd, CallsIn.mono (callsIn_FW h2) ?_⟩
   rintro e w' ⟨E', A', G', r', h', g1, g2, g3, g4, g5⟩
   cases e with
   | returned v =>
    cases r' with
    | val x => exact hnext _ _ _ _ _ _ _ g3 g2 g1 g4 g5
    | panic x => exact g4.elim
   | panicked ch =>
    cases r' with
    | val x => exact g4.elim
    | panic x =>
     match ch, g4 with
     | [p], g4 => exact hpan _ _ _ _ _ _ _ g3 g2 g1 g4.1 g4.2.1 g4.2.2 g5
   | outgrown => cases r' <;> exact g4.elim
  ·rw [h1]
   cases r' with
   | val x => exact hnext _ _ _ _ _ _ _ g3 g2 g1 g4 g5
   | panic x => exact g4.elim
 unfold opA at hs
 split at hs
 ·rename_i f args
  obtain ⟨as, ats, ho, rfl⟩ := hc.fn.1 f args rfl
  have hcall := hs E A G w _ hW (reps_map hρ as.toList)
  have e : (as.toList.map a.eval).toArray = as.map a.eval := by rw [<- Array.toList_map, Array.toArray_toList]
  rw [e] at hcall
  refine call f _ ?_ hcall
  simp [execOp, ho, resolve, Act.eval, Deferred.ofValue, invoke]
 ·rename_i x args
  obtain ⟨y, as, ats, ho, rfl, rfl⟩ := hc.fn.2.1 x args rfl
  have hy := hρ y
  unfold callVal at hs
  split at hs
  ·rename_i f first cap hx
   rw [hx] at hy
   simp only [Rep] at hy
   obtain ⟨fa, fb, hv, h1, h2⟩ := hy
   have hcall := hs E A G w _ hW ((h1.append (reps_map hρ as.toList)).append h2)
   have e : (fa.toList ++ as.toList.map a.eval ++ fb.toList).toArray = fa ++ as.map a.eval ++ fb := by
    rw [<- Array.toList_map, <- Array.toList_append, <- Array.toList_append, Array.toArray_toList]
   rw [e] at hcall
   refine call f _ ?_ hcall
   simp [execOp, ho, resolve, hv, Deferred.ofValue, invoke]
  ·rename_i k hx
   rw [hx] at hy
   simp only [Rep] at hy
   obtain ⟨_, hv⟩ := hy
   obtain ⟨f, tmps, ac, bc, h1, h2⟩ := hs E A G w _ hW (reps_map hρ as.toList)
   have e : (as.toList.map a.eval).toArray = as.map a.eval := by rw [<- Array.toList_map, Array.toArray_toList]
   rw [e] at h1
   have hrun : (execOp a.eval o).run P w = .ok (.round (E.blk k) f tmps ac bc) w := by
    rw [<- h1]
    simp [execOp, ho, resolve, hv, Deferred.ofValue, invoke]
   rw [hrun, Oper.uponIn_round]
   refine ⟨fun hd => by simp [FW, Fence.wide] at hd, (h2 r (n - 1)).mono ?_⟩
   rintro e w' ⟨E', A', G', r', h', g1, g2, g3, g4, g5⟩
   cases e with
   | returned v =>
    cases r' with
    | val x => exact hnext _ _ _ _ _ _ _ g3 g2 g1 g4 g5
    | panic x => exact g4.elim
   | panicked ch =>
    cases r' with
    | val x => exact g4.elim
    | panic x =>
     match ch, g4 with
     | [p], g4 => exact hpan _ _ _ _ _ _ _ g3 g2 g1 g4.1 g4.2.1 g4.2.2 g5
   | outgrown => cases r' <;> exact g4.elim
  ·exact hs.elim
 ·rename_i x
  obtain ⟨y, ho, rfl⟩ := hc.fn.2.2 x rfl
  have hy := hρ y
  split at hs
  ·rename_i t z hx
   rw [hx] at hy
   have hy' := hy
   simp only [Rep] at hy'
   obtain ⟨u, hv, _⟩ := hy'
   have hrun : (execOp a.eval o).run P w = .halt (.panic (a.eval y)) w := by
    simp [execOp, ho, hv, Instr.panic, goPanic, Sem.run]
   rw [hrun]
   exact hpan ⟨a.eval y, false, false⟩ w E A G _ h E.le_refl (Ext.refl _ _ _) hW hy rfl rfl hs
  ·exact hs.elim
 ·exact absurd rfl (hc.chk _ _)
 ·exact fin (step_okF hc hW hρ hs)
end
def Env.lem (m : Nat) (E E' : Env) : Prop := m <= E'.n /\ ∀ k, k < m -> E'.blk k = E.blk k /\ E'.cap k = E.cap k /\ E'.tok k = E.tok k /\ E'.wid k = E.wid k
theorem Env.lem.le {m : Nat} {E E' E'' : Env} (h : Env.lem m E E') (h' : E'.le E'') : Env.lem m E E'' :=
 ⟨Nat.le_trans h.1 h'.1, fun k hk => by
  obtain ⟨a, b, c, d⟩ := h.2 k hk
  obtain ⟨a', b', c', d'⟩ := h'.2 k (Nat.lt_of_lt_of_le hk h.1)
  exact ⟨a'.trans a, b'.trans b, c'.trans c, d'.trans d⟩⟩
theorem Env.lem.trans {m : Nat} {E E' E'' : Env} (h : Env.lem m E E') (h' : Env.lem m E' E'') : Env.lem m E E'' :=
 ⟨h'.1, fun k hk => by
  obtain ⟨a, b, c, d⟩ := h.2 k hk
  obtain ⟨a', b', c', d'⟩ := h'.2 k hk
  exact ⟨a'.trans a, b'.trans b, c'.trans c, d'.trans d⟩⟩
structure Base where
 N : NB
 sv : Nat -> Value
 m : Nat
 dfs : List Deferred
 E : Env
 A : Nat -> Nat -> Prop
 G : Gd
 w : World
 rf : Bool
def MarkOk (n : Nat) (G : Gd) (w : World) (d : Deferred) : Prop := ∃ b, d = { target := .collected b, args := #[] } /\ n <= b /\ G.i b /\ w.heap[b]? = some (.deferred (some []))
def DfsOk (B : Base) (G : Gd) (w : World) (ds : List Deferred) : Prop := ∃ ms, ds = ms ++ B.dfs /\ (B.rf = false -> ms = []) /\ ms.Pairwise (· ≠ ·) /\ ∀ d ∈ ms, MarkOk B.w.heap.size G w d
theorem DfsOk.mono {B : Base} {G G' : Gd} {w w' : World} {A A' : Nat -> Nat -> Prop} {ds : List Deferred} (h : DfsOk B G w ds) (hX : Ext A G w A' G' w') : DfsOk B G' w' ds := by
 obtain ⟨ms, h1, h2, h4, h3⟩ := h
 refine ⟨ms, h1, h2, h4, fun d hd => ?_⟩
 obtain ⟨b, g1, g2, g3, g4⟩ := h3 d hd
 exact ⟨b, g1, g2, hX.g b g3, (hX.block b g3).trans g4⟩
theorem DfsOk.eq {B : Base} {G : Gd} {w : World} {ds : List Deferred} (h : DfsOk B G w ds) (hm : B.rf = false) : ds = B.dfs := by
 obtain ⟨ms, h1, h2, _⟩ := h
 rw [h1, h2 hm]; rfl
theorem DfsOk.refl {B : Base} {G : Gd} {w : World} : DfsOk B G w B.dfs := ⟨[], rfl, fun _ => rfl, List.Pairwise.nil, fun _ h => by cases h⟩
structure RelM (GL : Glob) (B : Base) (h : List AObj) (w : World) (E : Env) (A : Nat -> Nat -> Prop) (G : Gd) : Prop where
 wf : Wf GL E A G h w
 le : Env.lem B.m B.E E
 ext : Ext B.A B.G B.w A G w
structure Rel (GL : Glob) (B : Base) (τ : List (Nat × AV)) (h : List AObj) (a : Act) (w : World) (E : Env) (A : Nat -> Nat -> Prop) (G : Gd) : Prop extends RelM GL B h w E A G where
 size : B.N.1 <= a.tmps.size
 stab : ∀ t ∈ B.N.2, a.tmps.getD t undef = B.sv t
 tmps : ∀ i, Rep E A G w (tget τ i) (a.tmps.getD i undef)
 dfs : DfsOk B G w a.defers
def convE : AExit -> Exit
 | .normal => .normal
 | .exit id => .exit id
 | .ret => .ret
structure POk (GL : Glob) (B : Base) (Pn : AV -> List AObj -> Prop) (Q : Exit -> Act -> World -> Prop) : Prop where
 pan : ∀ x h p a w E A G, RelM GL B h w E A G -> DfsOk B G w a.defers -> (∀ t ∈ B.N.2, a.tmps.getD t undef = B.sv t) -> Rep E A G w x p.v -> p.recovered = false -> p.goexit = false -> Pn x h -> Q (.panic [p]) a w
def QOk (GL : Glob) (B : Base) (Qa : Post) (Q : Exit -> Act -> World -> Prop) : Prop :=
 ∀ e τ h a w E A G, Rel GL B τ h a w E A G -> Qa e τ h -> Q (convE e) a w
section
variable {P : Program} {GL : Glob} {E : Env} {A : Nat -> Nat -> Prop} {G : Gd} {h : List AObj} {w : World} {τ : List (Nat × AV)} {a : Act} {B : Base}
theorem RelM.step {E' : Env} {A' : Nat -> Nat -> Prop} {G' : Gd} {h' : List AObj} {w' : World} (hR : RelM GL B h w E A G) (h1 : E.le E') (h2 : Ext A G w A' G' w') (h3 : Wf GL E' A' G' h' w') : RelM GL B h' w' E' A' G' :=
 ⟨h3, hR.le.le h1, hR.ext.trans h2⟩
theorem bT {d : Nat} {x : AV} : tget (aput τ (some d) x) d = x := by simp [aput, tget, Nat.beq_refl]
theorem dC {d : Option Nat} {i : Nat} {x : AV} (h : d ≠ some i) : tget (aput τ d x) i = tget τ i := by
 cases d with
 | none => rfl
 | some d =>
  simp only [aput, tget]
  split
  ·rename_i hb
   exact absurd (congrArg some (Nat.eq_of_beq_eq_true hb).symm) h
  ·rfl
theorem put_getD {d : Option Nat} {v : Value} {i : Nat} (hd : ∀ k, d = some k -> k < a.tmps.size) : (a.put d v).tmps.getD i undef = if d = some i then v else a.tmps.getD i undef := by
 cases d with
 | none => simp [Act.put]
 | some k =>
  have := hd k rfl
  by_cases hk : k = i
  ·subst hk; simp [Act.put, Array.getD_eq_getD_getElem?, this]
  ·simp [Act.put, Array.getD_eq_getD_getElem?, hk]
theorem Rel.put {E' : Env} {A' : Nat -> Nat -> Prop} {G' : Gd} {h' : List AObj} {w' : World} {d : Option Nat} {v : Value} {x : AV} (hR : Rel GL B τ h a w E A G) (h1 : E.le E') (h2 : Ext A G w A' G' w') (h3 : Wf GL E' A' G' h' w')
  (h4 : Rep E' A' G' w' x v) (hd : dstOk B.N d = true) : Rel GL B (aput τ d x) h' (a.put d v) w' E' A' G' := by
 have hlt : ∀ k, d = some k -> k < a.tmps.size := fun k hk => by
  subst hk
  simp only [dstOk, Bool.and_eq_true] at hd
  exact Nat.lt_of_lt_of_le (Nat.le_of_ble_eq_true hd.1) hR.size
 refine ⟨hR.toRelM.step h1 h2 h3, ?_, fun t ht => ?_, fun i => ?_, ?_⟩
 ·cases d <;> simp [Act.put, hR.size]
 ·rw [put_getD hlt, if_neg]
  ·exact hR.stab t ht
  ·rintro rfl
   simp only [dstOk, Bool.and_eq_true, Bool.not_eq_true'] at hd
   have : memN t B.N.2 = true := by
    simp only [memN, List.any_eq_true]
    exact ⟨t, ht, Nat.beq_refl t⟩
   rw [hd.2] at this
   cases this
 ·rw [put_getD hlt]
  split
  ·rename_i he
   subst he
   rw [bT]; exact h4
  ·rename_i he
   rw [dC he]
   exact Rep.mono h1 h2 _ _ (hR.tmps i)
 ·have : (a.put d v).defers = a.defers := by cases d <;> rfl
  rw [this]
  exact hR.dfs.mono h2
theorem Rel.opds (hR : Rel GL B τ h a w E A G) : Opds GL E A G w τ a.eval := opds_of hR.wf hR.tmps
theorem guard_read {ops : Array Oper} {o : Oper} {d : Nat} {b c : Bool} {x : AV} (hg : compGuard ops o.guard = some (some (d, b))) (hr : Rep E A G w x (a.tmps.getD d undef)) (hx : gdW x b = some c) : Region.wanted o (yielded ops a.tmps) = c := by
 unfold compGuard at hg
 split at hg
 ·cases hg
 ·rename_i j b' hgd
  split at hg
  ·rename_i o' ho'
   split at hg
   ·rename_i d' hd'
    cases hg
    unfold gdW at hx
    split at hx
    ·rename_i c'
     cases hx
     simp only [Rep] at hr
     have hlt : d < a.tmps.size := by
      rcases Nat.lt_or_ge d a.tmps.size with hlt | hge
      ·exact hlt
      ·simp [Array.getD_eq_getD_getElem?, Array.getElem?_eq_none hge, undef] at hr
     have hget : a.tmps[d]? = some (.bool c') := by
      rw [Array.getD_eq_getD_getElem?] at hr
      rw [Array.getElem?_eq_getElem hlt] at hr ⊢
      simpa using hr
     simp only [Region.wanted, hgd, yielded, ho', Option.bind_some, hd', hget]
     cases c' <;> cases b <;> rfl
    ·rename_i cs
     cases hx
     simp only [Rep] at hr
     simp only [Region.wanted, hgd, yielded, ho', Option.bind_some, hd']
     rw [Array.getD_eq_getD_getElem?] at hr
     cases hget : a.tmps[d]? with
     | none => rfl
     | some v =>
      rw [hget] at hr
      simp only [Option.getD_some] at hr
      subst hr
      rfl
    ·cases hx
   ·cases hg
  ·cases hg
theorem guard_none {ops : Array Oper} {o : Oper} (hg : compGuard ops o.guard = some none) (y : Nat -> Option Bool) : Region.wanted o y = true := by
 unfold compGuard at hg
 split at hg
 ·rename_i h; simp [Region.wanted, h]
 ·split at hg
  ·split at hg <;> cases hg
  ·cases hg
theorem ent_in {r : Option Nat} {n : Nat} {ops : Array Oper} {o : Oper} {g : Option (Nat × Bool)} {ao : AOp} {K : List (Nat × AV) -> List AObj -> Prop} {Pn : AV -> List AObj -> Prop} {next : Act -> World -> Prop} {Q : Exit -> Act -> World -> Prop}
  (hd : dstOk B.N o.dst = true) (hg : compGuard ops o.guard = some g) (hc : CompOk P o ao ∨ ao = .bad) (hR : Rel GL B τ h a w E A G)
  (hs : match g with
   | none => opA GL (AC P GL) ao τ h (fun x h' => K (aput τ o.dst x) h') Pn
   | some (j, b) => match gdW (tget τ j) b with
    | some t => condP t (opA GL (AC P GL) ao τ h (fun x h' => K (aput τ o.dst x) h') Pn) (K (aput τ o.dst (.v undef)) h)
    | none => False)
  (hP : POk GL B Pn Q) (hnext : ∀ τ' h' a' w' E' A' G', Rel GL B τ' h' a' w' E' A' G' -> K τ' h' -> next a' w') :
  if Region.wanted o (yielded ops a.tmps) = true then o.wpIn (FW r) n P a w next Q else (∀ f, o.about P w a.eval = some f -> (FW r).fn f) /\ next (a.put o.dst undef) w := by
 have run : opA GL (AC P GL) ao τ h (fun x h' => K (aput τ o.dst x) h') Pn -> o.wpIn (FW r) n P a w next Q := fun hs =>
  op_in hc hR.wf hR.opds hs (fun v w' E' A' G' x h' h1 h2 h3 h4 hk => hnext _ _ _ _ _ _ _ (hR.put h1 h2 h3 h4 hd) hk)
   (fun p w' E' A' G' x h' h1 h2 h3 h4 h5 h6 hp => hP.pan x h' p a w' E' A' G' (hR.toRelM.step h1 h2 h3) (hR.dfs.mono h2) hR.stab h4 h5 h6 hp)
 cases g with
 | none =>
  rw [if_pos (guard_none hg _)]
  exact run hs
 | some g =>
  obtain ⟨j, b⟩ := g
  simp only at hs
  split at hs
  ·rename_i c hc'
   rw [guard_read hg (hR.tmps j) hc']
   split
   ·rename_i he; exact run (hs.1 he)
   ·rename_i he
    refine ⟨fun _ _ => trivial, hnext _ _ _ _ _ _ _ (hR.put E.le_refl (Ext.refl _ _ _) hR.wf (x := .v undef) (by simp [Rep]) hd) (hs.2 (by simpa using he))⟩
  ·exact hs.elim
theorem compOpB_spec (o : Oper) : CompOk P o (compOpB P o) ∨ compOpB P o = .bad := by
 unfold compOpB
 split
 ·rename_i a ha; exact .inl ⟨a, ha, .inl rfl⟩
 ·exact .inr rfl
theorem compOpB_frz (o : Oper) : CompOk P o (frz (compOpB P o)) ∨ frz (compOpB P o) = .bad := by
 unfold compOpB
 split
 ·rename_i a ha; exact .inl ⟨a, ha, .inr rfl⟩
 ·exact .inr rfl
theorem ops_in {r : Option Nat} {n : Nat} {ops : Array Oper} {Qa : Post} {Pn : AV -> List AObj -> Prop} {Q : Exit -> Act -> World -> Prop} (hP : POk GL B Pn Q) (hQ : QOk GL B Qa Q) : ∀ (os : List Oper) (i : Nat) (es : List AEnt) (τ : List (Nat × AV)) (h : List AObj) (a : Act) (w : World) (E : Env) (A : Nat -> Nat -> Prop) (G : Gd),
  os = ops.toList.drop i -> compOps P B.N ops os = some es -> Rel GL B τ h a w E A G -> opsA GL (AC P GL) es τ h (Qa .normal) Pn -> wpOpsIn (FW r) n P ops Q (List.range' i os.length) a w
 | [], i, es, τ, h, a, w, E, A, G, ho, hc, hR, hs => by
  simp only [compOps, Option.some.injEq] at hc
  subst hc
  exact hQ .normal τ h a w E A G hR hs
 | o :: os, i, es, τ, h, a, w, E, A, G, ho, hc, hR, hs => by
  have hoi : ops[i]? = some o := by
   have := congrArg (·[0]?) ho
   simpa using this.symm
  have hos : os = ops.toList.drop (i + 1) := by
   have := congrArg (List.drop 1) ho
   simpa using this
  simp only [compOps] at hc
  split at hc
  ·rename_i g es' hd hg hcs
   cases hc
   simp only [List.length_cons, List.range'_succ, wpOpsIn, hoi]
   refine ent_in (K := fun τ h => opsA GL (AC P GL) es' τ h (Qa .normal) Pn) hd hg (compOpB_spec o) hR ?_ hP fun τ' h' a' w' E' A' G' hR' hk => ops_in hP hQ os (i + 1) es' τ' h' a' w' E' A' G' hos hcs hR' hk
   cases g with
   | none => exact hs
   | some g => exact hs
  ·cases hc
end
theorem memN_iff {x : Nat} {l : List Nat} : memN x l = true ↔ x ∈ l := by
 simp only [memN, List.any_eq_true]
 constructor
 ·rintro ⟨y, hy, he⟩
  have := Nat.eq_of_beq_eq_true he
  subst this; exact hy
 ·intro h; exact ⟨x, h, Nat.beq_refl x⟩
theorem disj_iff {d : Option Nat} {l : List Nat} : disj d l = true ↔ ∀ i, d = some i -> i ∉ l := by
 cases d with
 | none => simp [disj]
 | some i => simp [disj, <- memN_iff]
theorem nodupN_iff : ∀ {l : List Nat}, nodupN l = true ↔ l.Nodup
 | [] => by simp [nodupN]
 | x :: r => by
  have := @nodupN_iff r
  have h := @memN_iff x r
  simp only [nodupN, Bool.and_eq_true, Bool.not_eq_true', List.nodup_cons, this]
  rw [<- h]
  simp
theorem mem_upTo : ∀ {n i : Nat}, i ∈ upTo n ↔ i < n
 | 0, i => by simp [upTo]
 | n + 1, i => by simp only [upTo, List.mem_append, mem_upTo, List.mem_singleton]; omega
theorem ancsOk_get {a b : Nat -> List Nat} : ∀ {l : List Nat}, ancsOk a b l = true -> ∀ i ∈ l, (∀ j ∈ a i, j < i) /\ ∀ j ∈ b i, j ∈ a i ∨ ∃ k ∈ a i, j ∈ b k
 | [], _, i, hi => by cases hi
 | x :: r, h, i, hi => by
  simp only [ancsOk, Bool.and_eq_true, List.all_eq_true, Bool.or_eq_true, List.any_eq_true, memN_iff] at h
  obtain ⟨⟨h1, h2⟩, h3⟩ := h
  rcases List.mem_cons.1 hi with rfl | hi
  ·exact ⟨fun j hj => Nat.le_of_ble_eq_true (h1 j hj), h2⟩
  ·exact ancsOk_get h3 i hi
theorem gdOk_get {g : Nat -> Option Nat} {b : Nat -> List Nat} : ∀ {l : List Nat}, gdOk g b l = true -> ∀ i ∈ l, ∀ j, g i = some j -> j ∈ b i
 | [], _, i, hi => by cases hi
 | x :: r, h, i, hi => by
  simp only [gdOk, Bool.and_eq_true] at h
  obtain ⟨h1, h2⟩ := h
  rcases List.mem_cons.1 hi with rfl | hi
  ·intro j hj
   rw [hj] at h1
   exact memN_iff.1 h1
  ·exact gdOk_get h2 i hi
theorem cX {e : Nat -> AEnt} {fl : Nat -> Bool} {b : Nat -> List Nat} : ∀ {l : List Nat}, pairsOk e fl b l = true -> ∀ l1 x l2 y l3, l = l1 ++ x :: (l2 ++ y :: l3) -> pairOk e fl b x y = true
 | [], _, l1, x, l2, y, l3, h => by simp at h
 | z :: r, hp, l1, x, l2, y, l3, h => by
  simp only [pairsOk, Bool.and_eq_true, List.all_eq_true] at hp
  cases l1 with
  | nil =>
   simp only [List.nil_append, List.cons.injEq] at h
   obtain ⟨rfl, rfl⟩ := h
   exact hp.1 y (by simp)
  | cons z' l1 =>
   simp only [List.cons_append, List.cons.injEq] at h
   exact cX hp.2 l1 x l2 y l3 h.2
theorem pairsOk_mem {e : Nat -> AEnt} {fl : Nat -> Bool} {b : Nat -> List Nat} {pre rest : List Nat} (h : pairsOk e fl b (pre.reverse ++ rest) = true) {x y : Nat} (hx : x ∈ pre) (hy : y ∈ rest) : pairOk e fl b x y = true := by
 obtain ⟨l1, l2, h1⟩ := List.append_of_mem (List.mem_reverse.2 hx)
 obtain ⟨m1, m2, h2⟩ := List.append_of_mem hy
 exact cX h l1 x (l2 ++ m1) y m2 (by rw [h1, h2]; simp)
structure DOk (n : Nat) (e : Nat -> AEnt) (fl : Nat -> Bool) (a b : Nat -> List Nat) (g : Nat -> Option Nat) (ord : List Nat) : Prop where
 anc : ∀ i, i < n -> (∀ j ∈ a i, j < i) /\ ∀ j ∈ b i, j ∈ a i ∨ ∃ k ∈ a i, j ∈ b k
 gd : ∀ i, i < n -> ∀ j, g i = some j -> j ∈ b i
 all : ∀ i, i < n -> i ∈ ord
 nodup : ord.Nodup
 lt : ∀ i ∈ ord, i < n
 pairs : pairsOk e fl b ord = true
 quiet : ∀ i, i < n -> fl i = true -> quietA (e i).2.2 = true /\ ∀ d, (e i).1 = some d -> d ∉ gdT (e i).2.1 ++ (e i).2.2.tmps
 al : ∀ i, i < n -> alE (e i) = true -> ∀ j, j < n -> i ≠ j -> ∀ d, (e i).1 = some d -> (e j).1 ≠ some d
theorem drawOk_spec {n : Nat} {e : Nat -> AEnt} {fl : Nat -> Bool} {a b : Nat -> List Nat} {g : Nat -> Option Nat} {ord : List Nat} (h : drawOk n e fl a b g ord = true) : DOk n e fl a b g ord := by
 simp only [drawOk, Bool.and_eq_true, List.all_eq_true, Bool.or_eq_true, Bool.not_eq_true', memN_iff, nodupN_iff, disj_iff] at h
 obtain ⟨h1, h2, h3, h4, h5, h6, h7⟩ := h
 refine ⟨fun i hi => ancsOk_get h1 i (mem_upTo.2 hi), fun i hi => gdOk_get h2 i (mem_upTo.2 hi), fun i hi => h3 i (mem_upTo.2 hi), h4, fun i hi => Nat.le_of_ble_eq_true (h5 i hi), h6, fun i hi hf => ?_, fun i hi ha j hj hij d hd he => ?_⟩
 ·rcases (h7 i (mem_upTo.2 hi)).1 with hn | hq
  ·rw [hf] at hn; cases hn
  ·exact hq
 ·rcases (h7 i (mem_upTo.2 hi)).2 with hn | hq
  ·rw [ha] at hn; cases hn
  ·rcases hq j (mem_upTo.2 hj) with h | h
   ·exact hij (Nat.eq_of_beq_eq_true h)
   ·exact h d hd (by simp [he])
theorem DOk.down {n : Nat} {e : Nat -> AEnt} {fl : Nat -> Bool} {a b : Nat -> List Nat} {g : Nat -> Option Nat} {ord : List Nat} (h : DOk n e fl a b g ord) {L : Nat -> Prop} (hL : ∀ i, i < n -> L i -> ∀ j ∈ a i, L j) :
  ∀ i, i < n -> (∀ j ∈ a i, L j) -> ∀ j ∈ b i, L j := by
 intro i
 induction i using Nat.strongRecOn with
 | _ i ih =>
  intro hi hall j hj
  obtain ⟨h1, h2⟩ := h.anc i hi
  rcases h2 j hj with hj | ⟨k, hk, hjk⟩
  ·exact hall j hj
  ·exact ih k (h1 k hk) (Nat.lt_trans (h1 k hk) hi) (hL k (Nat.lt_trans (h1 k hk) hi) (hall k hk)) j hjk
theorem pair_fixed {e : Nat -> AEnt} {fl : Nat -> Bool} {b : Nat -> List Nat} {x y : Nat} (h : pairOk e fl b x y = true) (hx : fl x = false) :
  x ∈ b y ∨ (fl y = false /\ alE (e y) = true /\ (∀ d, (e y).1 = some d -> d ∉ AEnt.names (e x)) /\ ∀ d, (e x).1 = some d -> d ∉ AEnt.names (e y)) := by
 simp only [pairOk, hx, Bool.or_eq_true, Bool.and_eq_true, Bool.not_eq_true', memN_iff, disj_iff] at h
 exact h
theorem pair_free {e : Nat -> AEnt} {fl : Nat -> Bool} {b : Nat -> List Nat} {x y : Nat} (h : pairOk e fl b x y = true) (hx : fl x = true) :
  ((x ∈ b y /\ fl y = false) ∨ ∀ d, (e y).1 = some d -> d ∉ AEnt.names (e x)) /\ (x ∈ b y ∨ ∀ d, (e x).1 = some d -> d ∉ AEnt.names (e y)) := by
 simp only [pairOk, hx, Bool.and_eq_true, Bool.or_eq_true, Bool.not_eq_true', memN_iff, disj_iff] at h
 exact h
theorem compOps_get {P : Program} {N : NB} {ops : Array Oper} : ∀ {os : List Oper} {E : List AEnt}, compOps P N ops os = some E -> E.length = os.length /\
  ∀ (i : Nat) (o : Oper), os[i]? = some o -> dstOk N o.dst = true /\ ∃ (g : Option (Nat × Bool)), compGuard ops o.guard = some g /\ E[i]? = some (o.dst, g, compOpB P o)
 | [], E, h => by
  simp only [compOps, Option.some.injEq] at h
  subst h
  exact ⟨rfl, fun i o ho => by simp at ho⟩
 | o :: os, E, h => by
  simp only [compOps] at h
  split at h
  ·rename_i g l hd hg hl
   cases h
   obtain ⟨h1, h2⟩ := compOps_get hl
   refine ⟨by simp [h1], fun i o' ho' => ?_⟩
   cases i with
   | zero =>
    simp at ho'
    subst ho'
    exact ⟨hd, g, hg, rfl⟩
   | succ i => simpa using h2 i o' (by simpa using ho')
  ·cases h
theorem topOk_get {a : Nat -> List Nat} : ∀ {l pre : List Nat}, topOk a pre l = true -> ∀ l1 i l2, l = l1 ++ i :: l2 -> ∀ j ∈ a i, j ∈ pre ∨ j ∈ l1
 | [], pre, _, l1, i, l2, h => by simp at h
 | x :: r, pre, ht, l1, i, l2, h => by
  simp only [topOk, Bool.and_eq_true, List.all_eq_true, memN_iff] at ht
  cases l1 with
  | nil =>
   simp only [List.nil_append, List.cons.injEq] at h
   obtain ⟨rfl, rfl⟩ := h
   intro j hj
   exact .inl (ht.1 j hj)
  | cons y l1 =>
   simp only [List.cons_append, List.cons.injEq] at h
   obtain ⟨rfl, h⟩ := h
   intro j hj
   rcases topOk_get ht.2 l1 i l2 h j hj with h1 | h1
   ·rcases List.mem_cons.1 h1 with rfl | h1
    ·exact .inr (by simp)
    ·exact .inl h1
   ·exact .inr (List.mem_cons_of_mem _ h1)
theorem mem_afterIn {md : Region.Mode} {ops : Array Oper} {i : Nat} {o : Oper} (ho : ops[i]? = some o) (j : Nat) : j ∈ ((ops.toList.map (afterIn md)).getD i []) ↔ ∃ e ∈ o.after, Region.binds md e = true /\ e.on = j := by
 have : (ops.toList.map (afterIn md)).getD i [] = afterIn md o := by
  simp [List.getD, ho]
 rw [this, afterIn, List.mem_map]
 constructor
 ·rintro ⟨e, he, rfl⟩
  obtain ⟨h1, h2⟩ := List.mem_filter.1 he
  exact ⟨e, Array.mem_toList_iff.1 h1, h2, rfl⟩
 ·rintro ⟨e, h1, h2, rfl⟩
  exact ⟨e, List.mem_filter.2 ⟨Array.mem_toList_iff.2 h1, h2⟩, rfl⟩
theorem mode_done {md : Region.Mode} {ops : Array Oper} (h : modeOk ops.toList ops.size md = true) {listed : Array Bool} (hs : listed.size = ops.size) (hr : Region.ready md ops listed = []) : ∀ i, i < ops.size -> listed.getD i false = true := by
 simp only [modeOk, Bool.and_eq_true, List.all_eq_true, memN_iff] at h
 obtain ⟨h1, h2, h4⟩ := h
 generalize topGo (fun x => (ops.toList.map (afterIn md)).getD x []) (upTo ops.size) ops.size [] = og at h1 h2 h4
 have key : ∀ m l1 i l2, l1.length = m -> og = l1 ++ i :: l2 -> listed.getD i false = true := by
  intro m
  induction m using Nat.strongRecOn with
  | _ m ih =>
   intro l1 i l2 hm hog
   have hlt : i < ops.size := Nat.le_of_ble_eq_true (h4 i (by rw [hog]; simp))
   cases hb : listed.getD i false with
   | true => rfl
   | false =>
    exfalso
    have : i ∈ Region.ready md ops listed := by
     rw [mem_ready]
     refine ⟨?_, ops[i], Array.getElem?_eq_getElem hlt, fun e he hbd => ?_⟩
     ·rw [Array.getD_eq_getD_getElem?] at hb ⊢
      rw [Array.getElem?_eq_getElem (by omega)] at hb ⊢
      simpa using hb
     ·have hj := (mem_afterIn (Array.getElem?_eq_getElem hlt) e.on).2 ⟨e, he, hbd, rfl⟩
      rcases topOk_get h1 l1 i l2 hog e.on hj with h3 | h3
      ·cases h3
      ·obtain ⟨m1, m2, hl⟩ := List.append_of_mem h3
       exact ih m1.length (by rw [<- hm, hl]; simp) m1 e.on (m2 ++ i :: l2) rfl (by rw [hog, hl]; simp)
    rw [hr] at this
    cases this
 intro i hi
 obtain ⟨l1, l2, hl⟩ := List.append_of_mem (h2 i (mem_upTo.2 hi))
 exact key _ l1 i l2 rfl hl
def PendOk (GL : Glob) (x : AEnt) (τ : List (Nat × AV)) (h : List AObj) : Prop :=
 ∃ v, (∀ i, x.1 = some i -> tget τ i = v) /\ match x.2.1 with
  | none => Yl GL x.2.2 τ h v
  | some (j, c) => ∃ t, gdW (tget τ j) c = some t /\ (t = true -> Yl GL x.2.2 τ h v) /\ (t = false -> v = .v undef)
section
variable {GL : Glob}
theorem aeval_tmps {op : AOp} {τ τ' : List (Nat × AV)} (ht : ∀ t ∈ op.tmps, tget τ t = tget τ' t) : ∀ x ∈ op.opds, aeval GL τ x = aeval GL τ' x := by
 intro x hx
 cases x with
 | t n => exact ht n (List.mem_flatMap.2 ⟨_, hx, by simp [AOpd.tmps]⟩)
 | c x => rfl
 | g n => rfl
theorem mem_names {x : AEnt} {t : Nat} : t ∈ AEnt.names x ↔ x.1 = some t ∨ t ∈ gdT x.2.1 ∨ t ∈ x.2.2.tmps := by
 simp [AEnt.names]
theorem PendOk.same {x : AEnt} {τ τ' : List (Nat × AV)} {h : List AObj} (ht : ∀ t ∈ AEnt.names x, tget τ t = tget τ' t) (hp : PendOk GL x τ h) : PendOk GL x τ' h := by
 obtain ⟨v, h1, h2⟩ := hp
 have hy : ∀ {v}, Yl GL x.2.2 τ h v -> Yl GL x.2.2 τ' h v := fun hy => hy.congr (aeval_tmps fun t h => ht t (mem_names.2 (.inr (.inr h))))
 refine ⟨v, fun i hi => by rw [<- ht i (mem_names.2 (.inl hi))]; exact h1 i hi, ?_⟩
 split at h2
 ·exact hy h2
 ·rename_i j c hg
  obtain ⟨t, h3, h4, h5⟩ := h2
  exact ⟨t, by rw [<- ht j (mem_names.2 (.inr (.inl (by rw [hg]; simp [gdT]))))]; exact h3, fun h => hy (h4 h), h5⟩
theorem PendOk.put {x : AEnt} {τ : List (Nat × AV)} {h : List AObj} {d : Option Nat} {u : AV} (hd : ∀ i, d = some i -> i ∉ AEnt.names x) (hp : PendOk GL x τ h) : PendOk GL x (aput τ d u) h :=
 hp.same fun t ht => (dC fun e => hd t e ht).symm
def maskT (l : List (Option Nat)) (τ : List (Nat × AV)) : List (Nat × AV) := l.foldr (fun d τ => aput τ d .any) τ
theorem tget_mask {τ : List (Nat × AV)} {t : Nat} : ∀ {l : List (Option Nat)}, some t ∉ l -> tget (maskT l τ) t = tget τ t
 | [], _ => rfl
 | d :: l, h => by
  simp only [List.mem_cons, not_or] at h
  show tget (aput (maskT l τ) d .any) t = _
  rw [dC (Ne.symm h.1), tget_mask h.2]
theorem tget_mask_any {τ : List (Nat × AV)} {t : Nat} : ∀ {l : List (Option Nat)}, some t ∈ l -> tget (maskT l τ) t = .any
 | d :: l, h => by
  show tget (aput (maskT l τ) d .any) t = _
  by_cases hd : d = some t
  ·subst hd; exact bT
  ·rw [dC hd]
   rcases List.mem_cons.1 h with h | h
   ·exact absurd h.symm hd
   ·exact tget_mask_any h
theorem opsA_append {C : Calling} {K : List (Nat × AV) -> List AObj -> Prop} {Pn : AV -> List AObj -> Prop} (hC : C.Mono) : ∀ (l l' : List AEnt) (τ : List (Nat × AV)) (h : List AObj), opsA GL C (l ++ l') τ h K Pn -> opsA GL C l τ h (fun τ h => opsA GL C l' τ h K Pn) Pn
 | [], l', τ, h, hs => hs
 | (d, none, op) :: l, l', τ, h, hs => opA_mono hC (fun x h' hx => opsA_append hC l l' _ _ hx) (fun _ _ h => h) hs
 | (d, some (j, b), op) :: l, l', τ, h, hs => by
  simp only [List.cons_append, opsA] at hs ⊢
  split at hs
  ·exact condP_mono (opA_mono hC (fun x h' hx => opsA_append hC l l' _ _ hx) (fun _ _ h => h)) (opsA_append hC l l' _ _) hs
  ·exact hs.elim
theorem chk_spec {op : AOp} {τ : List (Nat × AV)} {h : List AObj} {d : Option Nat} (hq : quietA op = true) (hs : stepA GL op τ h (fun x h' => h' = h /\ eqD τ d x)) : ∃ v, (∀ i, d = some i -> tget τ i = v) /\ Yl GL op τ h v := by
 obtain ⟨x, hx, hy⟩ := quiet_spec hq hs
 refine ⟨x, fun i hi => ?_, hy⟩
 subst hi
 exact hx.2
theorem chks_spec {C : Calling} {e : Nat -> AEnt} {fl : Nat -> Bool} {b : Nat -> List Nat} {y : Nat} {K : List (Nat × AV) -> List AObj -> Prop} {Pn : AV -> List AObj -> Prop} {τ : List (Nat × AV)} {h : List AObj}
  {n : Nat} (hq : ∀ x, x < n -> fl x = true -> quietA (e x).2.2 = true) : ∀ (pre : List Nat), (∀ x ∈ pre, x < n) -> opsA GL C (chks e fl b y pre) τ h K Pn ->
  K τ h /\ ∀ x ∈ pre, fl x = true -> readsA (e x).2.2 = true -> x ∉ b y -> ∀ h0, PendOk GL (e x) τ h0 -> PendOk GL (e x) τ h
 | [], _, hs => ⟨hs, fun x hx => by cases hx⟩
 | z :: pre, hn0, hs => by
  have hz : z < n := hn0 z (by simp)
  have hz' : ∀ x ∈ pre, x < n := fun x hx => hn0 x (by simp [hx])
  simp only [chks] at hs
  split at hs
  ·rename_i hb
   simp only [Bool.and_eq_true, Bool.not_eq_true'] at hb
   obtain ⟨⟨b1, b2⟩, b3⟩ := hb
   cases hg : (e z).2.1 with
   | none =>
    rw [hg] at hs
    obtain ⟨h1, h2⟩ := hs
    obtain ⟨h3, h4⟩ := chks_spec hq pre hz' h2
    refine ⟨h3, fun x hx hf hr hn h0 hp => ?_⟩
    rcases List.mem_cons.1 hx with rfl | hx
    ·obtain ⟨v, g1, g2⟩ := chk_spec (hq x hz b1) h1
     exact ⟨v, g1, by rw [hg]; exact g2⟩
    ·exact h4 x hx hf hr hn h0 hp
   | some p =>
    obtain ⟨j, c⟩ := p
    rw [hg] at hs
    simp only [opsA] at hs
    split at hs
    ·rename_i t ht
     cases htc : t with
     | true =>
      obtain ⟨h1, h2⟩ := hs.1 htc
      obtain ⟨h3, h4⟩ := chks_spec hq pre hz' h2
      refine ⟨h3, fun x hx hf hr hn h0 hp => ?_⟩
      rcases List.mem_cons.1 hx with rfl | hx
      ·obtain ⟨v, g1, g2⟩ := chk_spec (hq x hz b1) h1
       refine ⟨v, g1, ?_⟩
       rw [hg]
       refine ⟨t, ht, fun _ => g2, fun h => ?_⟩
       rw [htc] at h; cases h
      ·exact h4 x hx hf hr hn h0 hp
     | false =>
      have h2 := hs.2 htc
      obtain ⟨h3, h4⟩ := chks_spec hq pre hz' h2
      refine ⟨h3, fun x hx hf hr hn h0 hp => ?_⟩
      rcases List.mem_cons.1 hx with rfl | hx
      ·obtain ⟨v, g1, g2⟩ := hp
       rw [hg] at g2
       obtain ⟨t', ht', g3, g4⟩ := g2
       have : t' = t := by rw [ht] at ht'; cases ht'; rfl
       subst this
       refine ⟨v, g1, ?_⟩
       rw [hg]
       refine ⟨t', ht, fun h => ?_, g4⟩
       rw [htc] at h; cases h
      ·exact h4 x hx hf hr hn h0 hp
    ·exact hs.elim
  ·rename_i hb
   obtain ⟨h3, h4⟩ := chks_spec hq pre hz' hs
   refine ⟨h3, fun x hx hf hr hn h0 hp => ?_⟩
   rcases List.mem_cons.1 hx with rfl | hx
   ·exfalso
    have : memN x (b y) = false := by
     cases hm : memN x (b y) with
     | false => rfl
     | true => exact absurd (memN_iff.1 hm) hn
    rw [hf, hr, this] at hb
    simp at hb
   ·exact h4 x hx hf hr hn h0 hp
theorem PendOk.heap {x : AEnt} {τ : List (Nat × AV)} {h h' : List AObj} (hq : quietA x.2.2 = true) (hr : readsA x.2.2 = false) (hp : PendOk GL x τ h) : PendOk GL x τ h' := by
 obtain ⟨v, h1, h2⟩ := hp
 refine ⟨v, h1, ?_⟩
 split at h2
 ·exact h2.heap hq hr
 ·obtain ⟨t, h3, h4, h5⟩ := h2
  exact ⟨t, h3, fun h => (h4 h).heap hq hr, h5⟩
end
section
variable {GL : Glob} {E : Env} {A : Nat -> Nat -> Prop} {G : Gd} {w : World}
structure Turn (A : Nat -> Nat -> Prop) (G : Gd) (w : World) (G' : Gd) (w' : World) : Prop where
 cell : ∀ b o, A b o -> w'.cell? ⟨b, o, none⟩ = w.cell? ⟨b, o, none⟩
 mp : ∀ b es cl, G.i b -> w.heap[b]? = some (.map es cl) -> G'.i b /\ w'.heap[b]? = some (.map es cl)
mutual
theorem Rep.turn {G' : Gd} {w' : World} (T : Turn A G w G' w') : ∀ (x : AV) (v : Value), Rep E A G w x v -> Rep E A G' w' x v
 | .any, _, _ => by simp [Rep]
 | .v x, _, h => by simpa [Rep] using h
 | .str l, _, h => by simpa [Rep] using h
 | .agg l, _, h => by
  simp only [Rep] at h ⊢
  obtain ⟨cs, rfl, ho, h⟩ := h
  exact ⟨cs, rfl, ho, Reps.turn T l _ h⟩
 | .tup l, _, h => by
  simp only [Rep] at h ⊢
  obtain ⟨cs, rfl, h⟩ := h
  exact ⟨cs, rfl, Reps.turn T l _ h⟩
 | .sl sz l, _, h => by
  simp only [Rep] at h ⊢
  obtain ⟨p, n, c, rfl, h1, h2, h3, h⟩ := h
  refine ⟨p, n, c, rfl, h1, h2, h3, ?_⟩
  rcases h with h | ⟨b, o, hp, h⟩
  ·exact .inl h
  ·exact .inr ⟨b, o, hp, RepL.turn T sz l b o h⟩
 | .own k sz l, _, h => by
  simp only [Rep] at h ⊢
  obtain ⟨hk, hv, p, n, c, rfl, h1, h2, h3, h⟩ := h
  refine ⟨hk, hv, p, n, c, rfl, h1, h2, h3, ?_⟩
  rcases h with h | ⟨b, o, hp, h⟩
  ·exact .inl h
  ·exact .inr ⟨b, o, hp, RepL.turn T sz l b o h⟩
 | .pel l, _, h => by
  simp only [Rep] at h ⊢
  obtain ⟨b, o, rfl, h⟩ := h
  exact ⟨b, o, rfl, RepC.turn T l b o h⟩
 | .ref k off, _, h => by simpa [Rep] using h
 | .eref k i off, _, h => by simpa [Rep] using h
 | .vec k sz m, _, h => by simpa [Rep] using h
 | .view k sz a m, _, h => by simpa [Rep] using h
 | .mp k, _, h => by simpa [Rep] using h
 | .imp ks vs, _, h => by
  simp only [Rep] at h ⊢
  obtain ⟨b, es, cl, rfl, hg, hb, h1, h2⟩ := h
  exact ⟨b, es, cl, rfl, (T.mp b es cl hg hb).1, (T.mp b es cl hg hb).2, Reps.turn T ks _ h1, Reps.turn T vs _ h2⟩
 | .fn f first cap, _, h => by
  simp only [Rep] at h ⊢
  obtain ⟨a, b, rfl, h1, h2⟩ := h
  exact ⟨a, b, rfl, Reps.turn T first _ h1, Reps.turn T cap _ h2⟩
 | .yld k, _, h => by simpa [Rep] using h
 | .iface t x, _, h => by
  simp only [Rep] at h ⊢
  obtain ⟨u, rfl, h⟩ := h
  exact ⟨u, rfl, Rep.turn T x u h⟩
theorem Reps.turn {G' : Gd} {w' : World} (T : Turn A G w G' w') : ∀ (l : List AV) (vs : List Value), Reps E A G w l vs -> Reps E A G' w' l vs
 | [], _, h => by simpa [Reps] using h
 | x :: xs, _, h => by
  simp only [Reps] at h ⊢
  obtain ⟨u, us, rfl, h1, h2⟩ := h
  exact ⟨u, us, rfl, Rep.turn T x u h1, Reps.turn T xs us h2⟩
theorem RepC.turn {G' : Gd} {w' : World} (T : Turn A G w G' w') : ∀ (l : List AV) (b o : Nat), RepC E A G w b o l -> RepC E A G' w' b o l
 | [], _, _, _ => by simp [RepC]
 | x :: xs, b, o, h => by
  simp only [RepC] at h ⊢
  obtain ⟨⟨u, hc, ha, ho, h1⟩, h2⟩ := h
  exact ⟨⟨u, (T.cell b o ha).trans hc, ha, ho, Rep.turn T x u h1⟩, RepC.turn T xs b (o + 1) h2⟩
theorem RepL.turn {G' : Gd} {w' : World} (T : Turn A G w G' w') (sz : Nat) : ∀ (l : List AV) (b o : Nat), RepL E A G w sz b o l -> RepL E A G' w' sz b o l
 | [], _, _, _ => by simp [RepL]
 | .agg cs :: xs, b, o, h => by
  simp only [RepL] at h ⊢
  exact ⟨h.1, RepC.turn T cs b o h.2.1, RepL.turn T sz xs b (o + sz) h.2.2⟩
 | .any :: xs, b, o, h | .v _ :: xs, b, o, h | .str _ :: xs, b, o, h | .tup _ :: xs, b, o, h | .sl _ _ :: xs, b, o, h | .own _ _ _ :: xs, b, o, h | .pel _ :: xs, b, o, h
 | .ref _ _ :: xs, b, o, h | .eref _ _ _ :: xs, b, o, h | .vec _ _ _ :: xs, b, o, h | .view _ _ _ _ :: xs, b, o, h | .mp _ :: xs, b, o, h | .imp _ _ :: xs, b, o, h | .fn _ _ _ :: xs, b, o, h
 | .yld _ :: xs, b, o, h | .iface _ _ :: xs, b, o, h => by
  simp only [RepL] at h ⊢
  obtain ⟨h0, ⟨u, hc, ha, ho, h1⟩, h2⟩ := h
  exact ⟨h0, ⟨u, (T.cell b o ha).trans hc, ha, ho, Rep.turn T _ u h1⟩, RepL.turn T sz xs b (o + sz) h2⟩
end
theorem Turn.hands {G' : Gd} (hG : ∀ b, G.i b -> G'.i b) : Turn A G w G' w := ⟨fun _ _ _ => rfl, fun b _ _ hg hb => ⟨hG b hg, hb⟩⟩
theorem Rep.hands1 {G' : Gd} (hG : ∀ b, G.i b -> G'.i b) (x : AV) (v : Value) (h : Rep E A G w x v) : Rep E A G' w x v := Rep.turn (.hands hG) x v h
theorem Reps.hands1 {G' : Gd} (hG : ∀ b, G.i b -> G'.i b) (l : List AV) (vs : List Value) (h : Reps E A G w l vs) : Reps E A G' w l vs := Reps.turn (.hands hG) l vs h
theorem RepC.hands1 {G' : Gd} (hG : ∀ b, G.i b -> G'.i b) (l : List AV) (b o : Nat) (h : RepC E A G w b o l) : RepC E A G' w b o l := RepC.turn (.hands hG) l b o h
theorem ORel.turn {G' : Gd} {w' : World} (T : Turn A G w G' w') (hG : ∀ b, G'.i b -> G.i b) {k : Nat} {x : AObj} (hb : ∀ b, obk E k x = some b -> w'.heap[b]? = w.heap[b]?) (h : ORel E A G w k x) : ORel E A G' w' k x := by
 cases x with
 | cells T' l => obtain ⟨cs, h1, h9, h2, h3, h4⟩ := h; exact ⟨cs, (hb _ rfl).trans h1, h9, h2.turn T, h3, fun h => h4 (hG _ h)⟩
 | buf T' sz l => obtain ⟨cs, h1, h9, h5, h6, h7, h8, h2, h3, h4⟩ := h; exact ⟨cs, (hb _ rfl).trans h1, h9, h5, h6, h7, h8, h2.turn T, h3, fun h => h4 (hG _ h)⟩
 | map ks vs => obtain ⟨es, cl, h1, h2, h3, h4, h5⟩ := h; exact ⟨es, cl, (hb _ rfl).trans h1, h2.turn T, h3.turn T, h4, fun h => h5 (hG _ h)⟩
 | siter s p => exact ⟨(hb _ rfl).trans h.1, fun h' => h.2 (hG _ h')⟩
 | loop τ n ps as bd st pd =>
  obtain ⟨⟨L, h1, h2, h3, h4, h6, h7, h8, h9⟩, h5⟩ := h
  exact ⟨⟨L, (hb _ rfl).trans h1, h2, h3, h4, h6, h7, h8, fun i => Rep.turn T _ _ (h9 i)⟩, fun h' => h5 (hG _ h')⟩
 | spare T' sz =>
  obtain ⟨n, xs, h1, ho, h2⟩ := h
  refine ⟨n, xs, ⟨h1.1, h1.2.imp id ?_⟩, ho, fun b hb' => ⟨(h2 b hb').1, fun h => (h2 b hb').2 (hG _ h)⟩⟩
  rintro ⟨g, cap, cur, hv, r0, hg, r⟩
  exact ⟨g, cap, cur, hv, r0, (hb g (by simp [obk, hv, Value.ownBlock])).trans hg, r⟩
 | dead => trivial
theorem ORel.hands1 {G' : Gd} (hG : ∀ b, G.i b ↔ G'.i b) {k : Nat} {x : AObj} (h : ORel E A G w k x) : ORel E A G' w k x := h.turn (.hands fun b => (hG b).1) (fun b => (hG b).2) fun _ _ => rfl
theorem Wf.hands1 {h : List AObj} (hW : Wf GL E A G h w) (H : Nat -> Prop) (hH : ∀ b, H b -> b < w.heap.size /\ ∀ k x, h[k]? = some x -> obk E k x ≠ some b) : Wf GL E A ⟨G.i, H⟩ h w :=
 ⟨fun n l hl E' => RepC.hands1 (G := G) (G' := ⟨G.i, H⟩) (fun _ h => h) _ _ _ (hW.gl n l hl E'), hW.n, hW.a, hW.g, fun k x hx => ORel.hands1 (G := G) (G' := ⟨G.i, H⟩) (fun _ => Iff.rfl) (hW.o k x hx), hW.d, fun b hb => (hH b hb).1, fun k x b hx hk hb => (hH b hb).2 k x hx hk⟩
def HOff (h : List AObj) (w : World) (E : Env) (A : Nat -> Nat -> Prop) (G : Gd) (b : Nat) : Prop :=
 b < w.heap.size /\ (∀ o, ¬ A b o) /\ ¬ G.i b /\ ¬ G.h b /\ ∀ k x, h[k]? = some x -> obk E k x ≠ some b
end
section
variable {P : Program} {GL : Glob} {E : Env} {A : Nat -> Nat -> Prop} {G : Gd} {h : List AObj} {w : World} {τ : List (Nat × AV)} {a : Act} {B : Base}
theorem ent_off (D : Nat -> Prop) (hD : ∀ b, D b -> HOff h w E A G b) {r : Option Nat} {n : Nat} {ops : Array Oper} {o : Oper} {g : Option (Nat × Bool)} {ao : AOp} {K : List (Nat × AV) -> List AObj -> Prop} {Pn : AV -> List AObj -> Prop} {next : Act -> World -> Prop} {Q : Exit -> Act -> World -> Prop}
  (hd : dstOk B.N o.dst = true) (hg : compGuard ops o.guard = some g) (hc : CompOk P o ao ∨ ao = .bad) (hR : Rel GL B τ h a w E A G)
  (hs : match g with
   | none => opA GL (AC P GL) ao τ h (fun x h' => K (aput τ o.dst x) h') Pn
   | some (j, b) => match gdW (tget τ j) b with
    | some t => condP t (opA GL (AC P GL) ao τ h (fun x h' => K (aput τ o.dst x) h') Pn) (K (aput τ o.dst (.v undef)) h)
    | none => False)
  (hP : POk GL B Pn Q) (hnext : ∀ τ' h' a' w' E' A' G', Rel GL B τ' h' a' w' E' A' G' -> K τ' h' -> (∀ b, D b -> w'.heap[b]? = w.heap[b]? /\ HOff h' w' E' A' G' b) -> (∀ t, o.dst ≠ some t -> a'.tmps.getD t undef = a.tmps.getD t undef) -> next a' w') :
  if Region.wanted o (yielded ops a.tmps) = true then o.wpIn (FW r) n P a w next Q else (∀ f, o.about P w a.eval = some f -> (FW r).fn f) /\ next (a.put o.dst undef) w := by
 let G1 : Gd := ⟨G.i, fun b => G.h b ∨ D b⟩
 have hW1 : Wf GL E A G1 h w := hR.wf.hands1 (fun b => G.h b ∨ D b) fun b hb => by
  rcases hb with hb | hb
  ·exact ⟨hR.wf.hf b hb, fun k x hx hk => hR.wf.ho k x b hx hk hb⟩
  ·exact ⟨(hD b hb).1, (hD b hb).2.2.2.2⟩
 have hρ : Opds GL E A G1 w τ a.eval := opds_of hW1 fun i => Rep.hands1 (G := G) (G' := G1) (fun _ h => h) _ _ (hR.tmps i)
 -- back to the set as it was
 have back : ∀ {w' : World} {E' : Env} {A' : Nat -> Nat -> Prop} {G' : Gd} {h' : List AObj}, E.le E' -> Ext A G1 w A' G' w' -> Wf GL E' A' G' h' w' ->
   Wf GL E' A' ⟨G'.i, G.h⟩ h' w' /\ Ext A G w A' ⟨G'.i, G.h⟩ w' /\ (∀ x v, Rep E' A' G' w' x v -> Rep E' A' ⟨G'.i, G.h⟩ w' x v) /\ ∀ b, D b -> w'.heap[b]? = w.heap[b]? /\ HOff h' w' E' A' ⟨G'.i, G.h⟩ b := by
  intro w' E' A' G' h' hE hX hW'
  refine ⟨hW'.hands1 G.h fun b hb => ?_, ⟨hX.a, hX.g, hX.cell, hX.block, hX.size, hX.os, hX.output, hX.tape, fun _ => Iff.rfl, fun b hb => hX.off b (.inl hb)⟩, fun x v h => Rep.hands1 (G := G') (G' := ⟨G'.i, G.h⟩) (fun _ h => h) _ _ h, fun b hb => ?_⟩
  ·have := (hX.hh b).2 (.inl hb)
   exact ⟨hW'.hf b this, fun k x hx hk => hW'.ho k x b hx hk this⟩
  ·obtain ⟨d1, d2, d3, d4, d5⟩ := hD b hb
   have hb1 : G1.h b := .inr hb
   obtain ⟨o1, o2, o3⟩ := hX.off b hb1
   have hb' := (hX.hh b).2 hb1
   exact ⟨o1, Nat.lt_of_lt_of_le d1 hX.size, fun o ho => d2 o (o2 o ho), fun hi => d3 (o3 hi), d4, fun k x hx hk => hW'.ho k x b hx hk hb'⟩
 have put : ∀ t v, o.dst ≠ some t -> (a.put o.dst v).tmps.getD t undef = a.tmps.getD t undef := by
  intro t v ht
  by_cases hN : o.dst = none
  ·rw [hN]; rfl
  ·obtain ⟨d, hdd⟩ := Option.ne_none_iff_exists'.1 hN
   rw [hdd, put_getD (fun k hk => by
    cases hk
    rw [hdd] at hd
    simp only [dstOk, Bool.and_eq_true] at hd
    exact Nat.lt_of_lt_of_le (Nat.le_of_ble_eq_true hd.1) hR.size), if_neg (fun e => ht (by rw [hdd]; exact e))]
 have run : opA GL (AC P GL) ao τ h (fun x h' => K (aput τ o.dst x) h') Pn -> o.wpIn (FW r) n P a w next Q := fun hs =>
  op_in hc hW1 hρ hs (fun v w' E' A' G' x h' h1 h2 h3 h4 hk => by
    obtain ⟨b1, b2, b3, b4⟩ := back h1 h2 h3
    exact hnext _ _ _ _ _ _ _ (hR.put h1 b2 b1 (b3 _ _ h4) hd) hk b4 fun t ht => put t v ht)
   (fun p w' E' A' G' x h' h1 h2 h3 h4 h5 h6 hp => by
    obtain ⟨b1, b2, b3, b4⟩ := back h1 h2 h3
    exact hP.pan x h' p a w' E' A' _ (hR.toRelM.step h1 b2 b1) (hR.dfs.mono b2) hR.stab (b3 _ _ h4) h5 h6 hp)
 cases g with
 | none =>
  rw [if_pos (guard_none hg _)]
  exact run hs
 | some g =>
  obtain ⟨j, b⟩ := g
  simp only at hs
  split at hs
  ·rename_i c hc'
   rw [guard_read hg (hR.tmps j) hc']
   split
   ·rename_i he; exact run (hs.1 he)
   ·rename_i he
    exact ⟨fun _ _ => trivial, hnext _ _ _ _ _ _ _ (hR.put E.le_refl (Ext.refl _ _ _) hR.wf (x := .v undef) (by simp [Rep]) hd) (hs.2 (by simpa using he)) (fun b hb => ⟨rfl, hD b hb⟩) fun t ht => put t _ ht⟩
  ·exact hs.elim
theorem compOp_alloc {o : Oper} {T : TypeId} {zs : List AV} (hc : compOp P o = some (.alloc T zs)) : o.op = .alloc T /\ ∃ z, tyZero P T = some z /\ zs = z.cells := by
 cases ho : o.op
 case alloc T' =>
  simp only [compOp, ho] at hc
  split at hc
  ·rename_i z hz
   simp only [Option.some.injEq, AOp.alloc.injEq] at hc
   obtain ⟨rfl, rfl⟩ := hc
   exact ⟨rfl, z, hz, rfl⟩
  ·cases hc
 case makeFunc fn a b => cases fn <;> simp [compOp, ho] at hc
 case makeMap t r => cases r <;> simp [compOp, ho] at hc
 case next it b => cases b <;> simp [compOp, ho] at hc
 case call c =>
  obtain ⟨callee, args, ats⟩ := c
  cases callee with
  | value f => cases f <;> simp [compOp, ho] at hc
  | invoke r n => simp [compOp, ho] at hc
  | builtin b =>
   simp only [compOp, ho] at hc
   repeat' split at hc
   all_goals cases hc
 all_goals (simp only [compOp, ho] at hc; try (first | cases hc | skip))
 all_goals (repeat' split at hc)
 all_goals (first | cases hc | skip)
theorem alloc_in {r : Option Nat} {n : Nat} {ops : Array Oper} {o : Oper} {T : TypeId} {zs : List AV} {next : Act -> World -> Prop} {Q : Exit -> Act -> World -> Prop}
  (hd : dstOk B.N o.dst = true) (hg : compGuard ops o.guard = some none) (hc : CompOk P o (.alloc T zs)) (hR : Rel GL B τ h a w E A G)
  (hnext : ∀ cs : Array Value, Rel GL B (aput τ o.dst .any) h (a.put o.dst (.pointer (some ⟨w.heap.size, 0, none⟩))) (w.alloc (.cells cs T)) E A G -> (∀ u ∈ cs.toList, u.oneCell' = true) -> (∀ E A G w, Reps E A G w zs cs.toList) ->
   Ext A G w A G (w.alloc (.cells cs T)) -> next (a.put o.dst (.pointer (some ⟨w.heap.size, 0, none⟩))) (w.alloc (.cells cs T))) :
  if Region.wanted o (yielded ops a.tmps) = true then o.wpIn (FW r) n P a w next Q else (∀ f, o.about P w a.eval = some f -> (FW r).fn f) /\ next (a.put o.dst undef) w := by
 rw [if_pos (guard_none hg _)]
 have hc' : compOp P o = some (.alloc T zs) := by
  obtain ⟨b, hb, h | h⟩ := hc
  ·rw [h]; exact hb
  ·have : b = .alloc T zs := by cases b <;> simp [frz] at h ⊢ <;> simp_all
   rw [<- this]; exact hb
 obtain ⟨hop, z, hz, rfl⟩ := compOp_alloc hc'
 obtain ⟨i, zv, h1, h2, _, h4, h5⟩ := bJ hz
 have hX : Ext A G w A G (w.alloc (.cells zv.cells T)) := bA hR.wf (World.grownBy_alloc w _ none) (fun _ _ h => h) (fun _ e => by cases e) (fun _ _ => .inl)
 have hW' : Wf GL E A G h (w.alloc (.cells zv.cells T)) := by
  refine hR.wf.step E.le_refl hX hR.wf.n (fun b o ho => ?_) (fun b hb => Nat.lt_of_lt_of_le (hR.wf.g b hb) hX.size) (fun _ => False) (fun k x hx _ => ⟨hx, fun b hb => ⟨?_, fun _ h => h, id⟩⟩) (fun _ _ _ hf => hf.elim) (fun _ _ _ _ _ _ _ hf => hf.elim) (fun _ _ _ _ hf => hf.elim)
  ·obtain ⟨v, hv⟩ := hR.wf.a b o ho
   exact ⟨v, (hX.cell b o ho).trans hv⟩
  ·exact heap_alloc_old w _ b (dD (hR.wf.o k x hx) hb)
 refine ⟨fun _ _ => trivial, ?_⟩
 rw [show (FW r).round = r from rfl, Oper.semAt_eq _ _ _ (fun c e => by rw [hop] at e; cases e)]
 have hrun : (execOp a.eval o).run P w = .ok (.value (.pointer (some ⟨w.heap.size, 0, none⟩))) (w.alloc (.cells zv.cells T)) := by
  simp [execOp, hop, Instr.alloc, zeroValue, typeInfo, h1, h2, newVar, newRow]
 rw [hrun]
 exact hnext zv.cells (hR.put E.le_refl hX hW' (x := .any) (by simp [Rep]) hd) h4 (fun E A G w => (h5 E A G w).2) hX
end
structure DReg (P : Program) (N : NB) (ops : Array Oper) (e : Nat -> AEnt) (fl : Nat -> Bool) (aa b : Nat -> List Nat) (g : Nat -> Option Nat) (ord : List Nat) : Prop where
 ok : DOk ops.size e fl aa b g ord
 ent : ∀ (i : Nat) (o : Oper), ops[i]? = some o -> dstOk N o.dst = true /\ ∃ (gd : Option (Nat × Bool)) (ao : AOp), compGuard ops o.guard = some gd /\ (CompOk P o ao ∨ ao = .bad) /\ e i = (o.dst, gd, ao)
 aft : ∀ (i : Nat) (o : Oper), ops[i]? = some o -> ∀ j, j ∈ aa i ↔ ∃ x ∈ o.after, Region.binds .any x = true /\ x.on = j
structure EaOk (e : Nat -> AEnt) (fl : Nat -> Bool) (listed : Array Bool) (rest : List Nat) (h : List AObj) (a : Act) (w : World) (E : Env) (A : Nat -> Nat -> Prop) (G : Gd) (p : Nat × Nat) : Prop where
 rest : p.1 ∈ rest
 lst : listed.getD p.1 false = true
 nfl : fl p.1 = false
 obj : ∃ (d : Nat) (T : TypeId) (zs : List AV) (cs : Array Value), e p.1 = (some d, none, .alloc T zs) /\ w.heap[p.2]? = some (.cells cs T (0, 0)) /\ (∀ u ∈ cs.toList, u.oneCell' = true) /\ (∀ E A G w, Reps E A G w zs cs.toList) /\
  a.tmps.getD d undef = .pointer (some ⟨p.2, 0, none⟩)
 off : HOff h w E A G p.2
theorem EaOk.al {e : Nat -> AEnt} {fl : Nat -> Bool} {listed : Array Bool} {rest : List Nat} {h : List AObj} {a : Act} {w : World} {E : Env} {A : Nat -> Nat -> Prop} {G : Gd} {p : Nat × Nat} (he : EaOk e fl listed rest h a w E A G p) : alE (e p.1) = true := by
 obtain ⟨d, T, zs, cs, h1, _⟩ := he.obj
 rw [h1]; rfl
structure DInv (P : Program) (GL : Glob) (B : Base) (e : Nat -> AEnt) (fl : Nat -> Bool) (aa b : Nat -> List Nat) (ord : List Nat) (n : Nat) (Kf : List (Nat × AV) -> List AObj -> Prop) (Pn : AV -> List AObj -> Prop)
  (listed : Array Bool) (ea : List (Nat × Nat)) (pre rest : List Nat) (τ : List (Nat × AV)) (h : List AObj) (a : Act) (w : World) (E : Env) (A : Nat -> Nat -> Prop) (G : Gd) : Prop extends RelM GL B h w E A G where
 size : B.N.1 <= a.tmps.size
 stab : ∀ t ∈ B.N.2, a.tmps.getD t undef = B.sv t
 dfs : DfsOk B G w a.defers
 tmps : ∀ t, (∀ q ∈ pre, listed.getD q false = false -> (e q).1 ≠ some t) -> (∀ p ∈ ea, (e p.1).1 ≠ some t) -> Rep E A G w (tget τ t) (a.tmps.getD t undef)
 lsz : listed.size = n
 lst : ∀ i, listed.getD i false = true -> i ∈ pre ∨ ∃ p ∈ ea, p.1 = i
 down : ∀ i, i < n -> listed.getD i false = true -> ∀ j ∈ aa i, listed.getD j false = true
 pend : ∀ q ∈ pre, listed.getD q false = false -> fl q = true /\ PendOk GL (e q) τ h
 ord : ord = pre.reverse ++ rest
 ear : ∀ p ∈ ea, EaOk e fl listed rest h a w E A G p
 ean : (ea.map (·.1)).Nodup /\ (ea.map (·.2)).Nodup
 go : opsA GL (AC P GL) (emit e fl b pre rest) τ h Kf Pn
section
variable {P : Program} {GL : Glob} {B : Base} {ops : Array Oper} {e : Nat -> AEnt} {fl : Nat -> Bool} {aa b : Nat -> List Nat} {g : Nat -> Option Nat} {ord : List Nat} {Kf : List (Nat × AV) -> List AObj -> Prop} {Pn : AV -> List AObj -> Prop}
variable {listed : Array Bool} {ea : List (Nat × Nat)} {pre rest : List Nat} {τ : List (Nat × AV)} {h : List AObj} {a : Act} {w : World} {E : Env} {A : Nat -> Nat -> Prop} {G : Gd} {Q : Exit -> Act -> World -> Prop} {r : Option Nat} {nn : Nat}
theorem DReg.lt (D : DReg P B.N ops e fl aa b g ord) {i : Nat} (hi : i ∈ ord) : i < ops.size := D.ok.lt i hi
theorem opA_quiet {op : AOp} {C : Calling} {K : AV -> List AObj -> Prop} (hq : quietA op = true) : opA GL C op τ h K Pn = stepA GL op τ h K := by
 cases op <;> simp only [quietA, Bool.false_eq_true] at hq <;> rfl
theorem DInv.notin (D : DReg P B.N ops e fl aa b g ord) {y : Nat} (hI : DInv P GL B e fl aa b ord ops.size Kf Pn listed ea pre rest τ h a w E A G) (hy : y ∈ rest) : y ∉ pre := by
 have := D.ok.nodup
 rw [hI.ord, List.nodup_append] at this
 intro hp
 exact this.2.2 y (List.mem_reverse.2 hp) y hy rfl
theorem DInv.pass (D : DReg P B.N ops e fl aa b g ord) {y : Nat} (hI : DInv P GL B e fl aa b ord ops.size Kf Pn listed ea pre (y :: rest) τ h a w E A G) (hy : fl y = true) :
  ∃ τ', DInv P GL B e fl aa b ord ops.size Kf Pn listed ea (y :: pre) rest τ' h a w E A G := by
 have hord := hI.ord
 have hyo : y ∈ ord := by rw [hord]; simp
 have hyn : y ∉ pre := hI.notin D (by simp)
 have hyea : ∀ p ∈ ea, p.1 ≠ y := fun p hp he => by
  have := (hI.ear p hp).nfl
  rw [he, hy] at this; cases this
 obtain ⟨hq, hself⟩ := D.ok.quiet y (D.lt hyo) hy
 have hgo := hI.go
 simp only [emit, hq, List.nil_append] at hgo
 have hpre : ∀ q ∈ pre, listed.getD q false = false -> ∀ i, (e y).1 = some i -> i ∉ AEnt.names (e q) := by
  intro q hqp hql i hi
  have hp := pairsOk_mem (by rw [<- hord]; exact D.ok.pairs) hqp (show y ∈ y :: rest by simp)
  rcases (pair_free hp (hI.pend q hqp hql).1).1 with ⟨_, hf⟩ | hd
  ·rw [hy] at hf; cases hf
  ·exact hd i hi
 -- what is left to show, of the entry's value
 have fin : ∀ v, opsA GL (AC P GL) (emit e fl b (y :: pre) rest) (aput τ (e y).1 v) h Kf Pn -> (match (e y).2.1 with
   | none => Yl GL (e y).2.2 τ h v
   | some (j, c) => ∃ t, gdW (tget τ j) c = some t /\ (t = true -> Yl GL (e y).2.2 τ h v) /\ (t = false -> v = .v undef)) ->
   ∃ τ', DInv P GL B e fl aa b ord ops.size Kf Pn listed ea (y :: pre) rest τ' h a w E A G := by
  intro v hk hv
  refine ⟨aput τ (e y).1 v, ⟨hI.toRelM, hI.size, hI.stab, hI.dfs, fun t ht ht2 => ?_, hI.lsz, fun i hi => (hI.lst i hi).imp (List.mem_cons_of_mem _) id, hI.down, fun q hqp hql => ?_, by rw [hord]; simp, fun p hp => ?_, hI.ean, hk⟩⟩
  ·have hne : (e y).1 ≠ some t := ht y (by simp) (by
    cases hl : listed.getD y false with
    | false => rfl
    | true => exact (hI.lst y hl).elim (fun h => absurd h hyn) fun ⟨p, hp, he⟩ => absurd he (hyea p hp))
   rw [dC hne]
   exact hI.tmps t (fun q hqp => ht q (List.mem_cons_of_mem _ hqp)) ht2
  ·rcases List.mem_cons.1 hqp with rfl | hqp
   ·refine ⟨hy, v, fun i hi => by rw [hi]; exact bT, ?_⟩
    have hsame : ∀ t ∈ gdT (e q).2.1 ++ (e q).2.2.tmps, tget τ t = tget (aput τ (e q).1 v) t := fun t ht => (dC fun he => hself t he ht).symm
    have hyl : ∀ {v'}, Yl GL (e q).2.2 τ h v' -> Yl GL (e q).2.2 (aput τ (e q).1 v) h v' := fun hy' => hy'.congr (aeval_tmps fun t ht => hsame t (List.mem_append_right _ ht))
    cases hg : (e q).2.1 with
    | none =>
     rw [hg] at hv
     exact hyl hv
    | some p =>
     obtain ⟨j, c⟩ := p
     rw [hg] at hv
     obtain ⟨t, h3, h4, h5⟩ := hv
     exact ⟨t, by rw [<- hsame j (List.mem_append_left _ (by rw [hg]; simp [gdT]))]; exact h3, fun h => hyl (h4 h), h5⟩
   ·exact ⟨(hI.pend q hqp hql).1, (hI.pend q hqp hql).2.put (hpre q hqp hql)⟩
  ·have := hI.ear p hp
   exact ⟨(List.mem_cons.1 this.rest).resolve_left (hyea p hp), this.lst, this.nfl, this.obj, this.off⟩
 have he : e y = ((e y).1, (e y).2.1, (e y).2.2) := rfl
 rw [he] at hgo
 cases hg : (e y).2.1 with
 | none =>
  rw [hg] at hgo fin
  simp only [opsA] at hgo
  rw [opA_quiet hq] at hgo
  obtain ⟨x, hx, hyl⟩ := quiet_spec hq hgo
  exact fin x hx hyl
 | some p =>
  obtain ⟨j, c⟩ := p
  rw [hg] at hgo fin
  simp only [opsA] at hgo
  split at hgo
  ·rename_i t ht
   cases htc : t with
   | true =>
    have := hgo.1 htc
    rw [opA_quiet hq] at this
    obtain ⟨x, hx, hyl⟩ := quiet_spec hq this
    exact fin x hx ⟨t, ht, fun _ => hyl, fun h => (by rw [htc] at h; cases h)⟩
   | false => exact fin _ (hgo.2 htc) ⟨t, ht, fun h => (by rw [htc] at h; cases h), fun _ => rfl⟩
  ·exact hgo.elim
theorem DInv.checked (D : DReg P B.N ops e fl aa b g ord) {i : Nat} (hI : DInv P GL B e fl aa b ord ops.size Kf Pn listed ea pre (i :: rest) τ h a w E A G) (hnb : ∀ q ∈ pre, listed.getD q false = false -> q ∉ b i)
  {τ' : List (Nat × AV)} {h' : List AObj} (hput : ∀ q ∈ pre, listed.getD q false = false -> PendOk GL (e q) τ' h)
  (hk : opsA GL (AC P GL) (chks e fl b i pre ++ emit e fl b (i :: pre) rest) τ' h' Kf Pn) :
  opsA GL (AC P GL) (emit e fl b (i :: pre) rest) τ' h' Kf Pn /\ ∀ q ∈ pre, listed.getD q false = false -> PendOk GL (e q) τ' h' := by
 have hord := hI.ord
 obtain ⟨h1, h2⟩ := chks_spec (n := ops.size) (fun z hz hf => (D.ok.quiet z hz hf).1) pre (fun z hz => D.lt (by rw [hord]; simp [hz])) (opsA_append AC.mono _ _ _ _ hk)
 refine ⟨h1, fun q hqp hql => ?_⟩
 have hqf := (hI.pend q hqp hql).1
 cases hrd : readsA (e q).2.2 with
 | true => exact h2 q hqp hqf hrd (hnb q hqp hql) h (hput q hqp hql)
 | false => exact (hput q hqp hql).heap (D.ok.quiet q (D.lt (by rw [hord]; simp [hqp])) hqf).1 hrd
theorem nodup_erase {p : Nat × Nat} {f : Nat × Nat -> Nat} : ∀ {l1 l2 : List (Nat × Nat)}, ((l1 ++ p :: l2).map f).Nodup -> ((l1 ++ l2).map f).Nodup /\ ∀ q ∈ l1 ++ l2, f q ≠ f p
 | l1, l2, h => by
  rw [List.map_append, List.map_cons, List.nodup_append] at h
  obtain ⟨h1, h2, h3⟩ := h
  rw [List.nodup_cons] at h2
  refine ⟨?_, fun q hq => ?_⟩
  ·rw [List.map_append, List.nodup_append]
   exact ⟨h1, h2.2, fun x hx y hy => h3 x hx y (List.mem_cons_of_mem _ hy)⟩
  ·rcases List.mem_append.1 hq with hq | hq
   ·exact h3 _ (List.mem_map.2 ⟨q, hq, rfl⟩) _ (by simp)
   ·intro e
    exact h2.1 (e ▸ List.mem_map.2 ⟨q, hq, rfl⟩)
theorem DInv.passEa (D : DReg P B.N ops e fl aa b g ord) {p : Nat × Nat} (hp : p ∈ ea) (hI : DInv P GL B e fl aa b ord ops.size Kf Pn listed ea pre (p.1 :: rest) τ h a w E A G) :
  ∃ ea' τ' h' E', DInv P GL B e fl aa b ord ops.size Kf Pn listed ea' (p.1 :: pre) rest τ' h' a w E' A G /\ ∀ q ∈ ea, q.1 ≠ p.1 -> q ∈ ea' := by
 have hord := hI.ord
 obtain ⟨l1, l2, rfl⟩ := List.append_of_mem hp
 have hE := hI.ear p hp
 obtain ⟨d, T, zs, cs, he, hb, hone, hcl, htmp⟩ := hE.obj
 obtain ⟨o1, o2, o3, o4, o5⟩ := hE.off
 obtain ⟨n1, n1'⟩ := nodup_erase hI.ean.1
 obtain ⟨n2, n2'⟩ := nodup_erase hI.ean.2
 have hio : p.1 ∈ ord := by rw [hord]; simp
 have hlt := D.lt hio
 have hal : alE (e p.1) = true := hE.al
 have hgo := hI.go
 simp only [emit, he, quietA] at hgo
 have hgo : opsA GL (AC P GL) (chks e fl b p.1 pre ++ emit e fl b (p.1 :: pre) rest) (aput τ (some d) (.ref h.length 0)) (h ++ [.cells T zs]) Kf Pn := hgo
 have hbl : ∀ j ∈ b p.1, listed.getD j false = true := D.ok.down (L := fun j => listed.getD j false = true) hI.down p.1 hlt (hI.down p.1 hlt hE.lst)
 have hnb : ∀ q ∈ pre, listed.getD q false = false -> q ∉ b p.1 := fun q hqp hql hm => by rw [hbl q hm] at hql; cases hql
 have hfree : ∀ q ∈ pre, listed.getD q false = false -> d ∉ AEnt.names (e q) := by
  intro q hqp hql
  have hpr := pairsOk_mem (by rw [<- hord]; exact D.ok.pairs) hqp (show p.1 ∈ p.1 :: rest by simp)
  rcases (pair_free hpr (hI.pend q hqp hql).1).1 with ⟨hm, _⟩ | hd
  ·exact absurd hm (hnb q hqp hql)
  ·exact hd d (by rw [he])
 obtain ⟨hk, hpend⟩ := hI.checked D hnb (fun q hqp hql => (hI.pend q hqp hql).2.put (d := some d) (u := .ref h.length 0) fun i hi => by cases hi; exact hfree q hqp hql) hgo
 have hle := E.le_push p.2 0 undef 0
 have hX := Ext.refl A G w
 have hn := hI.wf.n
 have hWf : Wf GL (E.push p.2 0 undef 0) A G (h ++ [.cells T zs]) w := by
  refine hI.wf.step hle hX (by simp [hn]) hI.wf.a hI.wf.g (fun k => k = h.length) ?_ ?_ ?_ ?_
  ·intro k x hx hk
   rw [List.getElem?_append] at hx
   split at hx
   ·exact ⟨hx, fun b hb => ⟨rfl, fun _ h => h, id⟩⟩
   ·have := (List.getElem?_eq_some_iff.1 hx).1
    simp at this
    exact absurd (by omega) hk
  ·rintro k x hx rfl
   simp at hx
   subst hx
   rw [<- hn]
   exact ⟨cs, by rw [Env.push_blk]; exact hb, hone, hcl _ _ _ _, by rw [Env.push_blk]; exact o2, by rw [Env.push_blk]; exact o3⟩
  ·rintro j k x y b' hx hy rfl hj hk
   simp at hx
   subst hx
   simp only [obk, Option.some.injEq] at hj
   rw [<- hn, Env.push_blk] at hj
   subst hj
   rw [List.getElem?_append] at hy
   split at hy
   ·rename_i hkl
    rw [hle.obk (by omega)] at hk
    exact absurd hk (o5 k y hy)
   ·have := (List.getElem?_eq_some_iff.1 hy).1
    simp at this
    omega
  ·rintro k x b' hx rfl hk
   simp at hx
   subst hx
   simp only [obk, Option.some.injEq] at hk
   rw [<- hn, Env.push_blk] at hk
   subst hk
   exact o4
 refine ⟨l1 ++ l2, aput τ (some d) (.ref h.length 0), h ++ [.cells T zs], E.push p.2 0 undef 0, ⟨hI.toRelM.step hle hX hWf, hI.size, hI.stab, hI.dfs, fun t ht ht2 => ?_, hI.lsz, fun i hi => ?_, hI.down, fun q hqp hql => ?_, by rw [hord]; simp, fun q hq => ?_, ⟨n1, n2⟩, hk⟩, fun q hq hne => ?_⟩
 ·by_cases hdt : d = t
  ·subst hdt
   rw [bT, htmp]
   simp only [Rep]
   rw [<- hn]
   exact ⟨Nat.lt_succ_self _, by rw [Env.push_blk]⟩
  ·rw [dC (fun h => hdt (by simpa using h))]
   refine (hI.tmps t (fun q hqp hql => ht q (List.mem_cons_of_mem _ hqp) hql) fun q hq => ?_).mono hle hX
   rcases List.mem_append.1 hq with hq | hq
   ·exact ht2 q (by simp [hq])
   ·rcases List.mem_cons.1 hq with rfl | hq
    ·rw [he]; simpa using hdt
    ·exact ht2 q (by simp [hq])
 ·rcases hI.lst i hi with h1 | ⟨q, hq, rfl⟩
  ·exact .inl (List.mem_cons_of_mem _ h1)
  ·by_cases hqp : q.1 = p.1
   ·exact .inl (by rw [hqp]; simp)
   ·refine .inr ⟨q, ?_, rfl⟩
    rcases List.mem_append.1 hq with hq | hq
    ·simp [hq]
    ·rcases List.mem_cons.1 hq with rfl | hq
     ·exact absurd rfl hqp
     ·simp [hq]
 ·rcases List.mem_cons.1 hqp with rfl | hqp
  ·rw [hE.lst] at hql; cases hql
  ·exact ⟨(hI.pend q hqp hql).1, hpend q hqp hql⟩
 ·have hq0 : q ∈ l1 ++ p :: l2 := by
   rcases List.mem_append.1 hq with hq | hq <;> simp [hq]
  have := hI.ear q hq0
  obtain ⟨q1, q2, q3, q4, q5⟩ := this.off
  refine ⟨(List.mem_cons.1 this.rest).resolve_left (n1' q hq), this.lst, this.nfl, this.obj, q1, q2, q3, q4, fun k x hx hk => ?_⟩
  rw [List.getElem?_append] at hx
  split at hx
  ·rename_i hkl
   rw [hle.obk (by omega)] at hk
   exact q5 k x hx hk
  ·rename_i hkl
   have hl := (List.getElem?_eq_some_iff.1 hx).1
   simp at hl
   have : k = h.length := by omega
   subst this
   simp at hx
   subst hx
   simp only [obk, Option.some.injEq] at hk
   rw [<- hn, Env.push_blk] at hk
   exact n2' q hq hk.symm
 ·rcases List.mem_append.1 hq with hq | hq
  ·simp [hq]
  ·rcases List.mem_cons.1 hq with rfl | hq
   ·exact absurd rfl hne
   ·simp [hq]
theorem DInv.passAll (D : DReg P B.N ops e fl aa b g ord) : ∀ (l : List Nat) {ea : List (Nat × Nat)} {pre : List Nat} {τ : List (Nat × AV)} {h : List AObj} {E : Env}, DInv P GL B e fl aa b ord ops.size Kf Pn listed ea pre (l ++ rest) τ h a w E A G -> (∀ y ∈ l, fl y = true ∨ ∃ p ∈ ea, p.1 = y) ->
  ∃ ea' τ' h' E', DInv P GL B e fl aa b ord ops.size Kf Pn listed ea' (l.reverse ++ pre) rest τ' h' a w E' A G
 | [], ea, pre, τ, h, E, hI, _ => ⟨ea, τ, h, E, hI⟩
 | y :: l, ea, pre, τ, h, E, hI, hl => by
  have hyn : ∀ z ∈ l, z ≠ y := by
   have := D.ok.nodup
   rw [hI.ord, List.nodup_append] at this
   have := this.2.1
   rw [List.cons_append, List.nodup_cons] at this
   exact fun z hz e => this.1 (by simp [<- e, hz])
  by_cases hy : fl y = true
  ·obtain ⟨τ', h1⟩ := hI.pass D hy
   obtain ⟨ea'', τ'', h'', E'', h2⟩ := DInv.passAll D l h1 fun z hz => hl z (by simp [hz])
   exact ⟨ea'', τ'', h'', E'', by simpa using h2⟩
  ·obtain ⟨p, hp, rfl⟩ := (hl y (by simp)).resolve_left hy
   obtain ⟨ea', τ', h', E', h1, hk⟩ := hI.passEa D hp
   obtain ⟨ea'', τ'', h'', E'', h2⟩ := DInv.passAll D l h1 fun z hz => (hl z (by simp [hz])).imp id fun ⟨q, hq, e⟩ => ⟨q, hk q hq (by rw [e]; exact hyn z hz), e⟩
   exact ⟨ea'', τ'', h'', E'', by simpa using h2⟩
def DInv.ml (e : Nat -> AEnt) (listed : Array Bool) (ea : List (Nat × Nat)) (pre : List Nat) : List (Option Nat) := ((pre.filter fun q => !listed.getD q false).map fun q => (e q).1) ++ ea.map fun p => (e p.1).1
theorem mem_ml {t : Nat} : some t ∈ DInv.ml e listed ea pre ↔ (∃ q ∈ pre, listed.getD q false = false /\ (e q).1 = some t) ∨ ∃ p ∈ ea, (e p.1).1 = some t := by
 simp only [DInv.ml, List.mem_append, List.mem_map, List.mem_filter, Bool.not_eq_true']
 constructor
 ·rintro (⟨q, ⟨h1, h2⟩, h3⟩ | h)
  ·exact .inl ⟨q, h1, h2, h3⟩
  ·exact .inr h
 ·rintro (⟨q, h1, h2, h3⟩ | h)
  ·exact .inl ⟨q, ⟨h1, h2⟩, h3⟩
  ·exact .inr h
theorem DInv.rel (hI : DInv P GL B e fl aa b ord ops.size Kf Pn listed ea pre rest τ h a w E A G) : Rel GL B (maskT (DInv.ml e listed ea pre) τ) h a w E A G := by
 refine ⟨hI.toRelM, hI.size, hI.stab, fun t => ?_, hI.dfs⟩
 by_cases ht : some t ∈ DInv.ml e listed ea pre
 ·rw [tget_mask_any ht]; simp [Rep]
 ·rw [tget_mask ht]
  exact hI.tmps t (fun q hq hl he => ht (mem_ml.2 (.inl ⟨q, hq, hl, he⟩))) fun p hp he => ht (mem_ml.2 (.inr ⟨p, hp, he⟩))
theorem getD_set {i j : Nat} (hi : i < listed.size) : (listed.setIfInBounds i true).getD j false = (if i = j then true else listed.getD j false) := by
 by_cases hij : i = j
 ·subst hij; simp [Array.getD_eq_getD_getElem?, hi]
 ·simp [Array.getD_eq_getD_getElem?, hij]
theorem DInv.before (D : DReg P B.N ops e fl aa b g ord) (hI : DInv P GL B e fl aa b ord ops.size Kf Pn listed ea pre rest τ h a w E A G) {i : Nat} (hi : i < ops.size) (hr : ∀ j ∈ aa i, listed.getD j false = true) : ∀ j ∈ b i, listed.getD j false = true :=
 D.ok.down (L := fun j => listed.getD j false = true) hI.down i hi hr
theorem DInv.eaFree (D : DReg P B.N ops e fl aa b g ord) (hI : DInv P GL B e fl aa b ord ops.size Kf Pn listed ea pre rest τ h a w E A G) {i : Nat} {l1 l2 : List Nat} (hl : ord = l1 ++ i :: l2) (hil : listed.getD i false = false) {p : Nat × Nat} (hp : p ∈ ea) (hpl : p.1 ∈ l2) {d : Nat} (hd : (e p.1).1 = some d) : d ∉ AEnt.names (e i) := by
 have hE := hI.ear p hp
 have hlt : p.1 < ops.size := D.lt (by rw [hl]; simp [hpl])
 have hbl : ∀ j ∈ b p.1, listed.getD j false = true := hI.before D hlt (hI.down p.1 hlt hE.lst)
 have hnb : i ∉ b p.1 := fun hm => by rw [hbl i hm] at hil; cases hil
 obtain ⟨m1, m2, hm⟩ := List.append_of_mem hpl
 have hpr := cX D.ok.pairs l1 i m1 p.1 m2 (by rw [hl, hm])
 cases hf : fl i with
 | true =>
  rcases (pair_free hpr hf).1 with ⟨h, _⟩ | h
  ·exact absurd h hnb
  ·exact h d hd
 | false =>
  rcases pair_fixed hpr hf with h | ⟨_, _, h, _⟩
  ·exact absurd h hnb
  ·exact h d hd
theorem opA_mono' {op : AOp} {K K' : AV -> List AObj -> Prop} (hk : ∀ x h, K x h -> K' x h) (hs : opA GL (AC P GL) op τ h K Pn) : opA GL (AC P GL) op τ h K' Pn :=
 opA_mono AC.mono hk (fun _ _ h => h) hs
theorem EaOk.step {rest' : List Nat} {h' : List AObj} {a' : Act} {w' : World} {E' : Env} {A' : Nat -> Nat -> Prop} {G' : Gd} {p : Nat × Nat} {i : Nat} {dst : Option Nat} (hsz : i < listed.size) (hE : EaOk e fl listed rest h a w E A G p)
  (hr : p.1 ∈ rest') (hb : w'.heap[p.2]? = w.heap[p.2]? /\ HOff h' w' E' A' G' p.2) (ht : ∀ t, dst ≠ some t -> a'.tmps.getD t undef = a.tmps.getD t undef) (hd : (e p.1).1 ≠ dst ∨ dst = none) :
  EaOk e fl (listed.setIfInBounds i true) rest' h' a' w' E' A' G' p := by
 refine ⟨hr, by rw [getD_set hsz]; split <;> first | rfl | exact hE.lst, hE.nfl, ?_, hb.2⟩
 obtain ⟨d, T, zs, cs, h1, h2, h3, h4, h5⟩ := hE.obj
 refine ⟨d, T, zs, cs, h1, by rw [hb.1]; exact h2, h3, h4, ?_⟩
 rw [ht d (fun e => by
  rcases hd with hd | hd
  ·rw [h1] at hd; exact hd e.symm
  ·rw [hd] at e; cases e)]
 exact h5
theorem DReg.dstNe (D : DReg P B.N ops e fl aa b g ord) {p : Nat × Nat} (hE : EaOk e fl listed rest h a w E A G p) (hp : p.1 < ops.size) {i : Nat} (hi : i < ops.size) (hne : p.1 ≠ i) : (e p.1).1 ≠ (e i).1 ∨ (e i).1 = none := by
 obtain ⟨d, T, zs, cs, h1, _⟩ := hE.obj
 refine .inl fun h2 => D.ok.al p.1 hp hE.al i hi hne d (by rw [h1]) (by rw [<- h2, h1])
theorem DInv.late (D : DReg P B.N ops e fl aa b g ord) (hP : POk GL B Pn Q) (hI : DInv P GL B e fl aa b ord ops.size Kf Pn listed ea pre rest τ h a w E A G) {i : Nat} (hip : i ∈ pre) (hil : listed.getD i false = false) (hr : ∀ j ∈ aa i, listed.getD j false = true)
  {next : Act -> World -> Prop} (hn : ∀ a' w' E' A' G', DInv P GL B e fl aa b ord ops.size Kf Pn (listed.setIfInBounds i true) ea pre rest τ h a' w' E' A' G' -> next a' w') : wpOpIn (FW r) nn P ops Q i next a w := by
 have hord := hI.ord
 have hio : i ∈ ord := by rw [hord]; simp [hip]
 have hi := D.lt hio
 have hb := hI.before D hi hr
 obtain ⟨hfl, hpend⟩ := hI.pend i hip hil
 obtain ⟨hq, hself⟩ := D.ok.quiet i hi hfl
 obtain ⟨o, ho⟩ : ∃ o, ops[i]? = some o := ⟨_, Array.getElem?_eq_getElem hi⟩
 obtain ⟨hd, gd, ao, hg, hc, he⟩ := D.ent i o ho
 rw [he] at hpend hq hself
 simp only at hpend hq hself
 -- of the operation's own names none will be written by another one
 have hfree : ∀ q ∈ pre, listed.getD q false = false -> q ≠ i -> ∀ d, (e q).1 = some d -> d ∉ AEnt.names (o.dst, gd, ao) := by
  intro q hqp hql hqi d hqd
  obtain ⟨l1, l2, hl⟩ := List.append_of_mem hqp
  rw [<- he]
  have hor : ord = l2.reverse ++ q :: (l1.reverse ++ rest) := by rw [hord, hl]; simp
  rw [hl] at hip
  have hqf := (hI.pend q hqp hql).1
  rcases List.mem_append.1 hip with h1 | h1
  ·-- the other one comes first
   obtain ⟨m1, m2, hm⟩ := List.append_of_mem h1
   have hp := cX D.ok.pairs l2.reverse q m2.reverse i (m1.reverse ++ rest) (by rw [hor, hm]; simp)
   rcases (pair_free hp hqf).2 with h2 | h2
   ·have := hb q h2; rw [hql] at this; cases this
   ·exact h2 d hqd
  ·rcases List.mem_cons.1 h1 with h1 | h1
   ·exact absurd h1.symm hqi
   ·obtain ⟨m1, m2, hm⟩ := List.append_of_mem h1
    have hp := cX D.ok.pairs m2.reverse i m1.reverse q (l1.reverse ++ rest) (by rw [hor, hm]; simp)
    rcases (pair_free hp hfl).1 with ⟨_, h2⟩ | h2
    ·rw [hqf] at h2; cases h2
    ·exact h2 d hqd
 have hfreeE : ∀ p ∈ ea, ∀ d, (e p.1).1 = some d -> d ∉ AEnt.names (o.dst, gd, ao) := by
  intro p hp d hpd
  obtain ⟨l1, l2, hl⟩ := List.append_of_mem hip
  rw [<- he]
  exact hI.eaFree D (l1 := l2.reverse) (l2 := l1.reverse ++ rest) (by rw [hord, hl]; simp) hil hp (List.mem_append_right _ (hI.ear p hp).rest) hpd
 have hunm : ∀ t ∈ gdT gd ++ ao.tmps, tget τ t = tget (maskT (DInv.ml e listed ea pre) τ) t := by
  intro t ht
  have hnm : t ∈ AEnt.names (o.dst, gd, ao) := mem_names.2 (.inr (List.mem_append.1 ht))
  refine (tget_mask fun hm => ?_).symm
  rcases mem_ml.1 hm with ⟨q, hqp, hql, hqd⟩ | ⟨p, hp, hpd⟩
  ·by_cases hqi : q = i
   ·subst hqi
    rw [he] at hqd
    exact hself t hqd ht
   ·exact hfree q hqp hql hqi t hqd hnm
  ·exact hfreeE p hp t hpd hnm
 obtain ⟨v, hv1, hv2⟩ := hpend
 simp only at hv1 hv2
 unfold wpOpIn
 simp only [ho]
 refine ent_off (fun b => ∃ p ∈ ea, p.2 = b) (by rintro b ⟨p, hp, rfl⟩; exact (hI.ear p hp).off) (K := fun τ'' h'' => τ'' = aput (maskT (DInv.ml e listed ea pre) τ) o.dst v /\ h'' = h) hd hg hc hI.rel ?_ hP ?_
 ·have hyl : Yl GL ao τ h v -> opA GL (AC P GL) ao (maskT (DInv.ml e listed ea pre) τ) h (fun x h' => aput (maskT (DInv.ml e listed ea pre) τ) o.dst x = aput (maskT (DInv.ml e listed ea pre) τ) o.dst v /\ h' = h) Pn := fun hy => by
   rw [opA_quiet hq]
   exact (hy.congr (aeval_tmps fun t ht => hunm t (List.mem_append_right _ ht))) _ ⟨rfl, rfl⟩
  cases gd with
  | none => exact hyl hv2
  | some p =>
   obtain ⟨j, c⟩ := p
   obtain ⟨t, ht, h1, h2⟩ := hv2
   simp only
   rw [<- hunm j (by simp [gdT]), ht]
   refine ⟨fun h => hyl (h1 h), fun h => ?_⟩
   rw [h2 h]
   exact ⟨rfl, trivial⟩
 ·rintro τ' h' a' w' E' A' G' hR ⟨rfl, rfl⟩ hoff htm
  have hset := fun j => getD_set (i := i) (j := j) (listed := listed) (by rw [hI.lsz]; exact hi)
  refine hn a' w' E' A' G' ⟨hR.toRelM, hR.size, hR.stab, hR.dfs, fun t ht ht2 => ?_, by simp [hI.lsz], fun j hj => ?_, fun k hk hkl j hj => ?_, fun q hqp hql => ?_, hord, fun p hp => ?_, hI.ean, hI.go⟩
  ·have := hR.tmps t
   by_cases hdt : o.dst = some t
   ·rw [hdt, bT] at this
    rw [hv1 t hdt]; exact this
   ·rw [dC hdt] at this
    rwa [tget_mask] at this
    intro hm
    rcases mem_ml.1 hm with ⟨q, hqp, hql, hqd⟩ | ⟨p, hp, hpd⟩
    ·by_cases hqi : q = i
     ·subst hqi
      rw [he] at hqd
      exact hdt hqd
     ·refine ht q hqp ?_ hqd
      rw [hset, if_neg (fun h => hqi h.symm)]; exact hql
    ·exact ht2 p hp hpd
  ·rw [hset] at hj
   split at hj
   ·rename_i hij; subst hij; exact .inl hip
   ·exact hI.lst j hj
  ·rw [hset] at hkl ⊢
   split
   ·rfl
   ·split at hkl
    ·rename_i hik; subst hik; exact hr j hj
    ·exact hI.down k hk hkl j hj
  ·rw [hset] at hql
   split at hql
   ·cases hql
   ·exact hI.pend q hqp hql
  ·have hE := hI.ear p hp
   have hpo : p.1 ∈ ord := by rw [hord]; simp [hE.rest]
   have := D.dstNe hE (D.lt hpo) hi (fun e => hI.notin D hE.rest (by rw [e]; exact hip))
   rw [he] at this
   exact hE.step (by rw [hI.lsz]; exact hi) hE.rest (hoff p.2 ⟨p, hp, rfl⟩) htm this
theorem DInv.next (D : DReg P B.N ops e fl aa b g ord) (hP : POk GL B Pn Q) {i : Nat} (hI : DInv P GL B e fl aa b ord ops.size Kf Pn listed ea pre (i :: rest) τ h a w E A G) (hfi : fl i = false) (hil : listed.getD i false = false) (hr : ∀ j ∈ aa i, listed.getD j false = true)
  {next : Act -> World -> Prop} (hn : ∀ τ' h' a' w' E' A' G', DInv P GL B e fl aa b ord ops.size Kf Pn (listed.setIfInBounds i true) ea (i :: pre) rest τ' h' a' w' E' A' G' -> next a' w') : wpOpIn (FW r) nn P ops Q i next a w := by
 have hord := hI.ord
 have hio : i ∈ ord := by rw [hord]; simp
 have hi := D.lt hio
 have hb := hI.before D hi hr
 obtain ⟨o, ho⟩ : ∃ o, ops[i]? = some o := ⟨_, Array.getElem?_eq_getElem hi⟩
 obtain ⟨hd, gd, ao, hg, hc, he⟩ := D.ent i o ho
 have hpair : ∀ q ∈ pre, listed.getD q false = false -> q ∉ b i /\ (∀ d, o.dst = some d -> d ∉ AEnt.names (e q)) /\ ∀ d, (e q).1 = some d -> d ∉ AEnt.names (o.dst, gd, ao) := by
  intro q hqp hql
  have hnb : q ∉ b i := fun hm => by have := hb q hm; rw [hql] at this; cases this
  have hp := pairsOk_mem (by rw [<- hord]; exact D.ok.pairs) hqp (show i ∈ i :: rest by simp)
  have := pair_free hp (hI.pend q hqp hql).1
  rw [he] at this
  exact ⟨hnb, this.1.resolve_left fun h => hnb h.1, this.2.resolve_left hnb⟩
 have hear : ∀ p ∈ ea, p.1 ∈ rest := fun p hp => by
  have hE := hI.ear p hp
  refine (List.mem_cons.1 hE.rest).resolve_left fun e => ?_
  have := hE.lst
  rw [e, hil] at this; cases this
 have hfreeE : ∀ p ∈ ea, ∀ d, (e p.1).1 = some d -> d ∉ AEnt.names (o.dst, gd, ao) := by
  intro p hp d hpd
  rw [<- he]
  exact hI.eaFree D (l1 := pre.reverse) (l2 := rest) hord hil hp (hear p hp) hpd
 have hunm : ∀ t ∈ gdT gd ++ ao.tmps, tget τ t = tget (maskT (DInv.ml e listed ea pre) τ) t := by
  intro t ht
  have hnm : t ∈ AEnt.names (o.dst, gd, ao) := mem_names.2 (.inr (List.mem_append.1 ht))
  refine (tget_mask fun hm => ?_).symm
  rcases mem_ml.1 hm with ⟨q, hqp, hql, hqd⟩ | ⟨p, hp, hpd⟩
  ·exact (hpair q hqp hql).2.2 t hqd hnm
  ·exact hfreeE p hp t hpd hnm
 have hgo := hI.go
 simp only [emit, he] at hgo
 unfold wpOpIn
 simp only [ho]
 refine ent_off (fun b => ∃ p ∈ ea, p.2 = b) (by rintro b ⟨p, hp, rfl⟩; exact (hI.ear p hp).off) (K := fun τ'' h'' => ∃ x, τ'' = aput (maskT (DInv.ml e listed ea pre) τ) o.dst x /\ (quietA ao = true -> h'' = h) /\
  opsA GL (AC P GL) ((match quietA ao with | true => [] | false => chks e fl b i pre) ++ emit e fl b (i :: pre) rest) (aput τ o.dst x) h'' Kf Pn) hd hg hc hI.rel ?_ hP ?_
 ·have run : opA GL (AC P GL) ao τ h (fun x h' => opsA GL (AC P GL) ((match quietA ao with | true => [] | false => chks e fl b i pre) ++ emit e fl b (i :: pre) rest) (aput τ o.dst x) h' Kf Pn) Pn ->
    opA GL (AC P GL) ao (maskT (DInv.ml e listed ea pre) τ) h (fun x h' => ∃ x', aput (maskT (DInv.ml e listed ea pre) τ) o.dst x = aput (maskT (DInv.ml e listed ea pre) τ) o.dst x' /\ (quietA ao = true -> h' = h) /\
     opsA GL (AC P GL) ((match quietA ao with | true => [] | false => chks e fl b i pre) ++ emit e fl b (i :: pre) rest) (aput τ o.dst x') h' Kf Pn) Pn := by
   intro hs
   rw [opA_congr (fun d x e => hc.elim (fun h => h.chk d x e) (fun h => by rw [h] at e; cases e)) (aeval_tmps fun t ht => hunm t (List.mem_append_right _ ht))] at hs
   cases hq : quietA ao with
   | true =>
    rw [hq] at hs
    rw [opA_quiet hq] at hs ⊢
    obtain ⟨x, hx, hyl⟩ := quiet_spec hq hs
    exact hyl _ ⟨x, rfl, fun _ => rfl, hx⟩
   | false =>
    rw [hq] at hs
    exact opA_mono' (fun x h' hx => ⟨x, rfl, fun h => (by cases h), hx⟩) hs
  cases gd with
  | none =>
   simp only [opsA] at hgo
   exact run hgo
  | some p =>
   obtain ⟨j, c⟩ := p
   simp only [opsA] at hgo
   simp only
   rw [<- hunm j (by simp [gdT])]
   split at hgo
   ·rename_i t ht
    rw [ht]
    exact ⟨fun h => run (hgo.1 h), fun h => ⟨_, rfl, fun _ => trivial, hgo.2 h⟩⟩
   ·exact hgo.elim
 ·rintro τ' h' a' w' E' A' G' hR ⟨x, rfl, hquiet, hk⟩ hoff htm
  have hset := fun j => getD_set (i := i) (j := j) (listed := listed) (by rw [hI.lsz]; exact hi)
  -- the checks
  have hk2 : opsA GL (AC P GL) (emit e fl b (i :: pre) rest) (aput τ o.dst x) h' Kf Pn /\ ∀ q ∈ pre, listed.getD q false = false -> PendOk GL (e q) (aput τ o.dst x) h' := by
   have hput : ∀ q ∈ pre, listed.getD q false = false -> PendOk GL (e q) (aput τ o.dst x) h := fun q hqp hql => (hI.pend q hqp hql).2.put (hpair q hqp hql).2.1
   cases hq : quietA ao with
   | true =>
    rw [hq] at hk
    refine ⟨hk, fun q hqp hql => ?_⟩
    rw [hquiet hq]
    exact hput q hqp hql
   | false =>
    rw [hq] at hk
    exact hI.checked D (fun q hqp hql => (hpair q hqp hql).1) hput hk
  refine hn _ h' a' w' E' A' G' ⟨hR.toRelM, hR.size, hR.stab, hR.dfs, fun t ht ht2 => ?_, by simp [hI.lsz], fun j hj => ?_, fun k hk' hkl j hj => ?_, fun q hqp hql => ?_, by rw [hord]; simp, fun p hp => ?_, hI.ean, hk2.1⟩
  ·have := hR.tmps t
   by_cases hdt : o.dst = some t
   ·rw [hdt, bT] at this
    rw [hdt, bT]; exact this
   ·rw [dC hdt] at this
    rw [dC hdt]
    rwa [tget_mask] at this
    intro hm
    rcases mem_ml.1 hm with ⟨q, hqp, hql, hqd⟩ | ⟨p, hp, hpd⟩
    ·refine ht q (List.mem_cons_of_mem _ hqp) ?_ hqd
     rw [hset, if_neg (fun h => ?_)]
     ·exact hql
     ·subst h
      exact hI.notin D (by simp) hqp
    ·exact ht2 p hp hpd
  ·rw [hset] at hj
   split at hj
   ·rename_i hij; subst hij; simp
   ·exact (hI.lst j hj).imp (List.mem_cons_of_mem _) id
  ·rw [hset] at hkl ⊢
   split
   ·rfl
   ·split at hkl
    ·rename_i hik; subst hik; exact hr j hj
    ·exact hI.down k hk' hkl j hj
  ·rw [hset] at hql
   split at hql
   ·cases hql
   ·rename_i hne
    rcases List.mem_cons.1 hqp with rfl | hqp
    ·exact absurd rfl hne
    ·exact ⟨(hI.pend q hqp hql).1, hk2.2 q hqp hql⟩
  ·have hE := hI.ear p hp
   have hpr := hear p hp
   have hpo : p.1 ∈ ord := by rw [hord]; simp [hpr]
   have := D.dstNe hE (D.lt hpo) hi (fun e => by have := hE.lst; rw [e, hil] at this; cases this)
   rw [he] at this
   exact hE.step (by rw [hI.lsz]; exact hi) hpr (hoff p.2 ⟨p, hp, rfl⟩) htm this
theorem DInv.early (D : DReg P B.N ops e fl aa b g ord) {i : Nat} (hI : DInv P GL B e fl aa b ord ops.size Kf Pn listed ea pre rest τ h a w E A G) (hir : i ∈ rest) (hfi : fl i = false) (hal : alE (e i) = true) (hil : listed.getD i false = false) (hr : ∀ j ∈ aa i, listed.getD j false = true)
  {next : Act -> World -> Prop} (hn : ∀ ea' a' w', DInv P GL B e fl aa b ord ops.size Kf Pn (listed.setIfInBounds i true) ea' pre rest τ h a' w' E A G -> next a' w') : wpOpIn (FW r) nn P ops Q i next a w := by
 have hord := hI.ord
 have hio : i ∈ ord := by rw [hord]; simp [hir]
 have hi := D.lt hio
 obtain ⟨o, ho⟩ : ∃ o, ops[i]? = some o := ⟨_, Array.getElem?_eq_getElem hi⟩
 obtain ⟨hd, gd, ao, hg, hc, he⟩ := D.ent i o ho
 obtain ⟨d, T, zs, hae⟩ : ∃ d T zs, e i = (some d, none, .alloc T zs) := by
  unfold alE at hal
  split at hal
  ·rename_i d T zs h; exact ⟨d, T, zs, h⟩
  ·cases hal
 have hae' := hae
 rw [he] at hae'
 simp only [Prod.mk.injEq] at hae'
 obtain ⟨hdd, rfl, rfl⟩ := hae'
 have hc := hc.resolve_right (by intro h; cases h)
 have hisz : i < listed.size := by rw [hI.lsz]; exact hi
 have hset := fun j => getD_set (i := i) (j := j) (listed := listed) hisz
 have hne : ∀ p ∈ ea, p.1 ≠ i := fun p hp e => by have := (hI.ear p hp).lst; rw [e, hil] at this; cases this
 unfold wpOpIn
 simp only [ho]
 refine alloc_in hd hg hc hI.rel fun cs hR hone hcl hX => ?_
 have hput : ∀ t v, o.dst ≠ some t -> (a.put o.dst v).tmps.getD t undef = a.tmps.getD t undef := by
  intro t v ht
  rw [hdd] at ht ⊢
  rw [put_getD (fun k hk => by
   cases hk
   rw [hdd] at hd
   simp only [dstOk, Bool.and_eq_true] at hd
   exact Nat.lt_of_lt_of_le (Nat.le_of_ble_eq_true hd.1) hI.size), if_neg ht]
 have hself : ∀ v, (a.put o.dst v).tmps.getD d undef = v := by
  intro v
  rw [hdd, put_getD (fun k hk => by
   cases hk
   rw [hdd] at hd
   simp only [dstOk, Bool.and_eq_true] at hd
   exact Nat.lt_of_lt_of_le (Nat.le_of_ble_eq_true hd.1) hI.size), if_pos rfl]
 refine hn ((i, w.heap.size) :: ea) _ _ ⟨hR.toRelM, hR.size, hR.stab, hR.dfs, fun t ht ht2 => ?_, by simp [hI.lsz], fun j hj => ?_, fun k hk hkl j hj => ?_, fun q hqp hql => ?_, hord, fun p hp => ?_, ?_, hI.go⟩
 ·have h1 : (e i).1 ≠ some t := ht2 (i, w.heap.size) (by simp)
  rw [he] at h1
  rw [hput t _ h1]
  refine (hI.tmps t (fun q hq hl => ?_) fun p hp => ht2 p (by simp [hp])).mono E.le_refl hX
  refine ht q hq ?_
  rw [hset, if_neg (fun e => ?_)]
  ·exact hl
  ·subst e; exact hI.notin D hir hq
 ·rw [hset] at hj
  split at hj
  ·rename_i hij; subst hij; exact .inr ⟨(i, w.heap.size), List.mem_cons_self, rfl⟩
  ·exact (hI.lst j hj).imp id fun ⟨p, hp, h⟩ => ⟨p, by simp [hp], h⟩
 ·rw [hset] at hkl ⊢
  split
  ·rfl
  ·split at hkl
   ·rename_i hik; subst hik; exact hr j hj
   ·exact hI.down k hk hkl j hj
 ·rw [hset] at hql
  split at hql
  ·cases hql
  ·exact hI.pend q hqp hql
 ·rcases List.mem_cons.1 hp with rfl | hp
  ·refine ⟨hir, by rw [hset, if_pos rfl], hfi, ⟨d, T, zs, cs, hae, heap_alloc_new w _, hone, hcl, hself _⟩, by simp, fun o ho => ?_, fun hg => ?_, fun hh => ?_, fun k x hx hk => ?_⟩
   ·have := hI.wf.a_lt ho; omega
   ·have := hI.wf.g _ hg; omega
   ·have := hI.wf.hf _ hh; omega
   ·have := dD (hI.wf.o k x hx) hk; omega
  ·have hE := hI.ear p hp
   have hpo : p.1 ∈ ord := by rw [hord]; simp [hE.rest]
   have hdn := D.dstNe hE (D.lt hpo) hi (hne p hp)
   rw [he] at hdn
   obtain ⟨q1, q2, q3, q4, q5⟩ := hE.off
   exact hE.step hisz hE.rest ⟨heap_alloc_old w _ p.2 q1, Nat.lt_of_lt_of_le q1 hX.size, q2, q3, q4, q5⟩ (fun t ht => hput t _ ht) hdn
 ·refine ⟨?_, ?_⟩
  ·rw [List.map_cons, List.nodup_cons]
   refine ⟨fun hm => ?_, hI.ean.1⟩
   obtain ⟨p, hp, e⟩ := List.mem_map.1 hm
   exact hne p hp e
  ·rw [List.map_cons, List.nodup_cons]
   refine ⟨fun hm => ?_, hI.ean.2⟩
   obtain ⟨p, hp, e⟩ := List.mem_map.1 hm
   have := (hI.ear p hp).off.1
   simp only at e
   omega
end
end Go.Rip
