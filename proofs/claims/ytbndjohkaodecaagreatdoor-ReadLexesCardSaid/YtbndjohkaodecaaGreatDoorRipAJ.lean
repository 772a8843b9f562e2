/- Functions that defer one call, reckoned. -/
import Derived.Test.YtbndjohkaodecaaGreatDoorRipAI
namespace Go.Rip
open Go
structure DFn where
 as : List ACode
 es : List AEnt
 t : Nat
 c2 : ACode
 rs : List ARet
 n : Nat
inductive PreR where
 | done (e : EX) (τ : List (Nat × AV)) (h : List AObj)
 | on (τ : List (Nat × AV)) (h : List AObj)
def evPre (ex : ACode -> List (Nat × AV) -> List AObj -> Option (EX × List (Nat × AV) × List AObj)) : List ACode -> List (Nat × AV) -> List AObj -> Option PreR
 | [], τ, h => some (.on τ h)
 | a :: r, τ, h => match ex a τ h with
  | some (.ex .normal, τ', h') => evPre ex r τ' h'
  | some (e, τ', h') => some (.done e τ' h')
  | none => none
theorem gY {P : Program} {GL : Glob} {ex : ExF} (hex : SoundE P GL ex) {m : Nat} {Qe : Post} {Pn : AV -> List AObj -> Prop} {K : List (Nat × AV) -> List AObj -> Prop} : ∀ (as : List ACode) (τ : List (Nat × AV)) (h : List AObj) (r : PreR),
  evPre (ex m) as τ h = some r -> (match r with
   | .on τ' h' => K τ' h'
   | .done (.ex .normal) _ _ => False
   | .done (.ex e) τ' h' => Qe e τ' h'
   | .done (.panic x) _ h' => Pn x h') -> wpPre GL (AC P GL) m Qe Pn as K τ h
 | [], τ, h, r, hr, hk => by
  simp only [evPre, Option.some.injEq] at hr
  subst hr
  exact hk
 | a :: as, τ, h, r, hr, hk => by
  simp only [evPre] at hr
  split at hr
  ·rename_i τ' h' hx
   exact hex _ _ _ _ _ _ _ hx _ _ (gY hex as _ _ _ hr hk)
  ·rename_i e τ' h' hne hx
   simp only [Option.some.injEq] at hr
   subst hr
   refine hex _ _ _ _ _ _ _ hx _ _ ?_
   cases e with
   | ex e =>
    cases e with
    | normal => exact hk.elim
    | exit id => exact hk
    | ret => exact hk
   | panic x => exact hk
  ·cases hr
def runRec (ex : ExF) (crec : ACode) (r x : Nat) (rv : AV) (dargs : List AV) (h : List AObj) (m : Nat) (rs : List ARet) (τ : List (Nat × AV)) : Option (ARes × List AObj) :=
 match ex h.length crec ((x, rv) :: (r, rv) :: args0 0 dargs) h with
 | some (.ex .normal, _, h4) => match Nat.ble h.length h4.length with
  | true => shut m (fin τ h4 rs)
  | false => none
 | some (.ex .ret, _, h4) => match Nat.ble h.length h4.length with
  | true => shut m (fin τ h4 rs)
  | false => none
 | _ => none
theorem fX {P : Program} {GL : Glob} {ex : ExF} (hex : SoundE P GL ex) {crec : ACode} {r x : Nat} {rv : AV} {dargs : List AV} {h : List AObj} {m : Nat} {rs : List ARet} {τ : List (Nat × AV)} {q : ARes} {h' : List AObj} (hr : runRec ex crec r x rv dargs h m rs τ = some (q, h')) {R : ARes -> List AObj -> Prop} (hR : R q h') :
  bodyRec GL (AC P GL) crec r x rv dargs h (finD GL m rs τ R) := by
 have key : ∀ h4, shut m (fin τ h4 rs) = some (q, h') -> finD GL m rs τ R (.val (.tup [])) h4 := by
  intro h4 hs
  cases hy : retA τ h4 rs with
  | some y =>
   rw [show fin τ h4 rs = some (.val y, h4) by simp only [fin, hy]] at hs
   simp only [finD, hy]
   simp only [shut] at hs
   split at hs
   ·rename_i hm
    have hm := Nat.le_of_ble_eq_true hm
    have hwk := gQ (GL := GL) (x := y) hm
    generalize sweep m y h4 = p at hs hwk
    obtain ⟨z, h5⟩ := p
    simp only [Option.some.injEq, Prod.mk.injEq] at hs
    obtain ⟨rfl, rfl⟩ := hs
    exact ⟨z, h5, hwk, hR⟩
   ·cases hs
  | none =>
   rw [show fin τ h4 rs = none by simp only [fin, hy]] at hs
   cases hs
 unfold runRec at hr
 unfold bodyRec
 split at hr
 ·rename_i τ' h4 hx
  split at hr
  ·rename_i hm
   exact hex _ _ _ _ _ _ _ hx _ _ ⟨_, _, Wk.refl (Nat.le_of_ble_eq_true hm), key h4 hr⟩
  ·cases hr
 ·rename_i τ' h4 hx
  split at hr
  ·rename_i hm
   exact hex _ _ _ _ _ _ _ hx _ _ ⟨_, _, Wk.refl (Nat.le_of_ble_eq_true hm), key h4 hr⟩
  ·cases hr
 ·cases hr
def runBehind (ex : ExF) (c2 crec : ACode) (r x : Nat) (dargs : List AV) (m : Nat) (rs : List ARet) (τ : List (Nat × AV)) (h : List AObj) : Option (ARes × List AObj) :=
 match ex h.length c2 τ h with
 | some (.ex .normal, _, h3) => runRec ex crec r x (.v .nilIface) dargs h3 m rs τ
 | some (.ex .ret, _, h3) => runRec ex crec r x (.v .nilIface) dargs h3 m rs τ
 | some (.panic p, _, h3) => runRec ex crec r x p dargs h3 m rs τ
 | _ => none
theorem mG {P : Program} {GL : Glob} {ex : ExF} (hex : SoundE P GL ex) {c2 crec : ACode} {r x : Nat} {dargs : List AV} {m : Nat} {rs : List ARet} {τ : List (Nat × AV)} {h h' : List AObj} {q : ARes} (hr : runBehind ex c2 crec r x dargs m rs τ h = some (q, h')) {R : ARes -> List AObj -> Prop} (hR : R q h') :
  bodyBehind GL (AC P GL) m c2 crec r x dargs rs R τ h := by
 unfold runBehind at hr
 unfold bodyBehind
 split at hr
 ·rename_i τ' h3 hx
  exact hex _ _ _ _ _ _ _ hx _ _ (fX hex hr hR)
 ·rename_i τ' h3 hx
  exact hex _ _ _ _ _ _ _ hx _ _ (fX hex hr hR)
 ·rename_i p τ' h3 hx
  exact hex _ _ _ _ _ _ _ hx _ _ (fX hex hr hR)
 ·cases hr
abbrev KTab := FuncId -> Option (Nat × Nat × ACode × Nat)
def runDefer (GL : Glob) (ex : ExF) (call : CallF) (K : KTab) (D : FuncId -> Option DFn) : CallF := fun f args h =>
 match f with
 | .yld _ | .gen _ => none
 | .fn f => match D f with
 | some d => match Nat.ble args.length d.n, evPre (ex h.length) d.as (args0 0 args) h with
  | true, some (.done (.ex .ret) τ h1) => shut h.length (fin τ h1 d.rs)
  | true, some (.on τ h1) => match runOps GL call d.es τ h1 with
   | some (.ex .normal, τ2, h2) => match tget τ2 d.t with
    | .fn (.func g) first cap => match K g with
     | some (r, x, crec, n) => match Nat.ble (first ++ cap).length n with
      | true => runBehind ex d.c2 crec r x (first ++ cap) h.length d.rs τ2 h2
      | false => none
     | none => none
    | _ => none
   | _ => none
  | _, _ => none
 | none => none
def DeferOk (P : Program) (GL : Glob) (K : KTab) (D : FuncId -> Option DFn) : Prop := ∀ f d, D f = some d -> ∀ args h R, args.length <= d.n -> bodyDefer GL (AC P GL) K d.as d.es d.t d.c2 d.rs args h R -> ACall P GL f args h R
theorem nQ {P : Program} {GL : Glob} {ex : ExF} {call : CallF} {K : KTab} {D : FuncId -> Option DFn} (hex : SoundE P GL ex) (hc : SoundC P GL call) (hD : DeferOk P GL K D) : SoundC P GL (runDefer GL ex call K D) := by
 intro f args h r h' he R hR
 unfold runDefer at he
 split at he
 ·cases he
 ·cases he
 rename_i _ f
 split at he
 ·rename_i d hd
  split at he
  ·rename_i τ h1 hle hpre
   refine hD f d hd args h R (Nat.le_of_ble_eq_true hle) (gY hex _ _ _ _ hpre ?_)
   show kret GL h.length d.rs R .ret τ h1
   unfold fin at he
   split at he
   ·rename_i x hx
    simp only [kret, hx]
    simp only [shut] at he
    split at he
    ·rename_i hm
     have hwk := gQ (GL := GL) (x := x) (Nat.le_of_ble_eq_true hm)
     generalize sweep h.length x h1 = p at he hwk
     obtain ⟨y, h2⟩ := p
     simp only [Option.some.injEq, Prod.mk.injEq] at he
     obtain ⟨rfl, rfl⟩ := he
     exact ⟨y, h2, hwk, hR⟩
    ·cases he
   ·simp [shut] at he
  ·rename_i τ h1 hle hpre
   refine hD f d hd args h R (Nat.le_of_ble_eq_true hle) (gY hex _ _ _ _ hpre ?_)
   split at he
   ·rename_i τ2 h2 hops
    refine eI hc _ _ _ _ _ _ hops ?_
    split at he
    ·rename_i g first cap ht
     rw [ht]
     split at he
     ·rename_i rr xx crec n hK
      simp only [hK]
      split at he
      ·rename_i hn
       exact ⟨Nat.le_of_ble_eq_true hn, mG hex he hR⟩
      ·cases he
     ·cases he
    ·cases he
   ·cases he
  ·cases he
 ·cases he
end Go.Rip
