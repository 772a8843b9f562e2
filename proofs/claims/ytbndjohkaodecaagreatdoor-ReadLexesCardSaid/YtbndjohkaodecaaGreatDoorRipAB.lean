/- Monotony; the rule of loops. -/
import Derived.Test.YtbndjohkaodecaaGreatDoorRipAA
namespace Go.Rip
open Go
def Calling.Mono (C : Calling) : Prop := ∀ f args h (R R' : ARes -> List AObj -> Prop), (∀ r h, R r h -> R' r h) -> C f args h R -> C f args h R'
theorem iB {GL : Glob} {op : AOp} {τ : List (Nat × AV)} {h : List AObj} {K K' : AV -> List AObj -> Prop} (hk : ∀ x h, K x h -> K' x h) (hop : ∀ T s y a b, op ≠ .appendB T s y a b) (hs : stepA GL op τ h K) : stepA GL op τ h K' := by
 cases op
 case appendB T s y a b => exact absurd rfl (hop T s y a b)
 case nextMap x =>
  simp only [stepA] at hs ⊢
  split at hs
  ·rename_i k hk0
   split at hs
   ·rename_i ks vs last ho
    exact ⟨fun e => hk _ _ (hs.1 e), fun j hj => hk _ _ (hs.2 j hj)⟩
   ·exact hs.elim
  ·exact hs.elim
 all_goals clear hop
 all_goals (simp only [stepA] at hs ⊢ <;> (try exact hs) <;> (try exact hk _ _ hs) <;> (try (unfold condP at hs ⊢)) <;>
  (repeat' split at hs) <;> simp_all <;> (try exact hk _ _ hs.2) <;> (try exact hk _ _ (by assumption)))
theorem uM {GL : Glob} {op : AOp} {τ : List (Nat × AV)} {h : List AObj} {K K' : AV -> List AObj -> Prop} (hk : ∀ x h, K x h -> K' x h) (hs : stepA GL op τ h K) : stepA GL op τ h K' := by
 by_cases hop : ∃ T s y a b, op = .appendB T s y a b
 ·obtain ⟨T, s, y, a, b, rfl⟩ := hop
  have hs' : stepA GL (.append T s y a b) τ h K ∨ stepA GL (.appendM T s y a b) τ h K := hs
  exact hs'.imp (iB (op := .append T s y a b) hk (by simp)) (iB (op := .appendM T s y a b) hk (by simp))
 ·exact iB hk (fun T s y a b e => hop ⟨T, s, y, a, b, e⟩) hs
theorem qO {C : Calling} (hC : C.Mono) {x : AV} {args : List AV} {h : List AObj} {R R' : ARes -> List AObj -> Prop} (hr : ∀ r h, R r h -> R' r h) (hs : callVal C x args h R) : callVal C x args h R' := by
 unfold callVal at hs ⊢
 split at hs
 ·exact hC _ _ _ _ _ hr hs
 ·exact hC _ _ _ _ _ hr hs
 ·exact hs.elim
theorem pN {K K' : AV -> List AObj -> Prop} {Pn Pn' : AV -> List AObj -> Prop} (hk : ∀ x h, K x h -> K' x h) (hp : ∀ x h, Pn x h -> Pn' x h) (r : ARes) (h : List AObj) (hs : resK K Pn r h) : resK K' Pn' r h := by
 cases r <;> simp only [resK] at hs ⊢
 ·exact hk _ _ hs
 ·exact hp _ _ hs
theorem iC {GL : Glob} {C : Calling} (hC : C.Mono) {op : AOp} {τ : List (Nat × AV)} {h : List AObj} {K K' : AV -> List AObj -> Prop} {Pn Pn' : AV -> List AObj -> Prop}
  (hk : ∀ x h, K x h -> K' x h) (hp : ∀ x h, Pn x h -> Pn' x h) (hs : opA GL C op τ h K Pn) : opA GL C op τ h K' Pn' := by
 unfold opA at hs ⊢
 split at hs
 ·exact hC _ _ _ _ _ (pN hk hp) hs
 ·exact qO hC (pN hk hp) hs
 ·split at hs
  ·exact hp _ _ hs
  ·exact hs.elim
 ·exact ⟨hs.1, hk _ _ hs.2⟩
 ·exact uM hk hs
theorem jN {t : Bool} {X Y X' Y' : Prop} (hx : X -> X') (hy : Y -> Y') (h : condP t X Y) : condP t X' Y' := ⟨fun e => hx (h.1 e), fun e => hy (h.2 e)⟩
theorem fP {GL : Glob} {C : Calling} (hC : C.Mono) {Pn Pn' : AV -> List AObj -> Prop} (hp : ∀ x h, Pn x h -> Pn' x h) {K K' : List (Nat × AV) -> List AObj -> Prop} (hk : ∀ τ h, K τ h -> K' τ h) :
  ∀ (os : List (Option Nat × Option (Nat × Bool) × AOp)) (τ : List (Nat × AV)) (h : List AObj), opsA GL C os τ h K Pn -> opsA GL C os τ h K' Pn'
 | [], τ, h, hs => hk _ _ hs
 | (d, none, op) :: os, τ, h, hs => iC hC (fun x h' hx => fP hC hp hk os _ _ hx) hp hs
 | (d, some (j, b), op) :: os, τ, h, hs => by
  simp only [opsA] at hs ⊢
  split at hs
  ·exact jN (iC hC (fun x h' hx => fP hC hp hk os _ _ hx) hp) (fP hC hp hk os _ _) hs
  ·exact hs.elim
theorem kseq_mono {k k' : List (Nat × AV) -> List AObj -> Prop} {Q Q' : Post} (hk : ∀ τ h, k τ h -> k' τ h) (hq : ∀ e τ h, Q e τ h -> Q' e τ h) : ∀ e τ h, kseq k Q e τ h -> kseq k' Q' e τ h := by
 intro e τ h hs
 cases e <;> simp only [kseq] at hs ⊢
 ·exact hk _ _ hs
 ·exact hq _ _ _ hs
 ·exact hq _ _ _ hs
theorem tO {id : Nat} {Q Q' : Post} (hq : ∀ e τ h, Q e τ h -> Q' e τ h) : ∀ e τ h, kblock id Q e τ h -> kblock id Q' e τ h := by
 intro e τ h hs
 cases e <;> simp only [kblock] at hs ⊢
 ·exact hq _ _ _ hs
 ·split at hs <;> exact hq _ _ _ hs
 ·exact hq _ _ _ hs
theorem uP {GL : Glob} {m : Nat} {I : List (Nat × AV) -> List AObj -> Nat -> Prop} {n : Nat} {Q Q' : Post} (hq : ∀ e τ h, Q e τ h -> Q' e τ h) : ∀ e τ h, kloop GL m I n Q e τ h -> kloop GL m I n Q' e τ h := by
 intro e τ h hs
 cases e <;> simp only [kloop] at hs ⊢
 ·exact hs
 ·exact hq _ _ _ hs
 ·exact hq _ _ _ hs
theorem rP {k : Nat} {Q Q' : Post} {Pn Pn' : AV -> List AObj -> Prop} {τ : List (Nat × AV)} (hq : ∀ e τ h, Q e τ h -> Q' e τ h) (hp : ∀ x h, Pn x h -> Pn' x h) : ∀ r h, krange k Q Pn τ r h -> krange k Q' Pn' τ r h := by
 intro r h hs
 cases r <;> simp only [krange] at hs ⊢
 ·split at hs <;> first | exact hq _ _ _ hs | exact hs.elim
 ·exact hp _ _ hs
theorem dC {GL : Glob} {C : Calling} (hC : C.Mono) {m : Nat} {Pn Pn' : AV -> List AObj -> Prop} (hp : ∀ x h, Pn x h -> Pn' x h) :
  ∀ (c : ACode) {Q Q' : Post} (_ : ∀ e τ h, Q e τ h -> Q' e τ h) (τ : List (Nat × AV)) (h : List AObj), wpA GL C m c Q Pn τ h -> wpA GL C m c Q' Pn' τ h
 | .skip, _, _, hq, τ, h, hs => hq _ _ _ hs
 | .region ops, _, _, hq, τ, h, hs => fP hC hp (hq .normal) ops τ h hs
 | .drawn es, _, _, hq, τ, h, hs => by
  obtain ⟨J, h0, h1, h2⟩ := hs
  exact ⟨J, h0, fun l τ h i e hj he hi hd => fP hC hp (fun _ _ h => h) _ _ _ (h1 l τ h i e hj he hi hd), fun l τ h hj hl => hq _ _ _ (h2 l τ h hj hl)⟩
 | .seq a b, _, _, hq, τ, h, hs => dC hC hp a (kseq_mono (fun τ h => dC hC hp b hq τ h) hq) τ h hs
 | .cond c a b, _, _, hq, τ, h, hs => by
  simp only [wpA] at hs ⊢
  split at hs
  ·exact jN (dC hC hp a hq τ h) (dC hC hp b hq τ h) hs
  ·exact hs.elim
 | .block id b, _, _, hq, τ, h, hs => dC hC hp b (tO hq) τ h hs
 | .loop b, _, _, hq, τ, h, hs => by
  obtain ⟨I, h0, h1⟩ := hs
  exact ⟨I, h0, fun τ h n hi => dC hC hp b (uP hq) τ h (h1 τ h n hi)⟩
 | .rangeFunc n f ps as bd, _, _, hq, τ, h, hs => by
  simp only [wpA] at hs ⊢
  split at hs
  ·exact hC _ _ _ _ _ (rP hq hp) hs
  ·exact hs.elim
 | .exit id, _, _, hq, τ, h, hs => hq _ _ _ hs
 | .ret, _, _, hq, τ, h, hs => hq _ _ _ hs
section
variable {GL : Glob} {m : Nat} {S : Nat -> List (Nat × AV)} {H : Nat -> List AObj} {N j : Nat} {Q : Post} {τ : List (Nat × AV)} {h : List AObj}
end
theorem ACall.mono {P : Program} {GL : Glob} (f : FuncId) (args : List AV) (h : List AObj) (R R' : ARes -> List AObj -> Prop) (hr : ∀ r h, R r h -> R' r h) (hc : ACall P GL f args h R) : ACall P GL f args h R' := by
 intro E A G w vs hW ha
 refine (hc E A G w vs hW ha).mono fun e w' he => ?_
 obtain ⟨E', A', G', r, h', h1, h2, h3, h4, h5⟩ := he
 exact ⟨E', A', G', r, h', h1, h2, h3, h4, hr _ _ h5⟩
theorem AYield.mono {P : Program} {GL : Glob} (k : Nat) (args : List AV) (h : List AObj) (R R' : ARes -> List AObj -> Prop) (hr : ∀ r h, R r h -> R' r h) (hc : AYield P GL k args h R) : AYield P GL k args h R' := by
 intro E A G w vs hW ha
 obtain ⟨f, tmps, as, bd, h1, h2⟩ := hc E A G w vs hW ha
 refine ⟨f, tmps, as, bd, h1, fun r n => (h2 r n).mono fun e w' he => ?_⟩
 obtain ⟨E', A', G', r, h', h1, h2, h3, h4, h5⟩ := he
 exact ⟨E', A', G', r, h', h1, h2, h3, h4, hr _ _ h5⟩
theorem AGen.mono {P : Program} {GL : Glob} (g : FuncId) (args : List AV) (h : List AObj) (R R' : ARes -> List AObj -> Prop) (hr : ∀ r h, R r h -> R' r h) (hc : AGen P GL g args h R) : AGen P GL g args h R' := by
 intro E A G w vs hW ha
 obtain ⟨h1, h2⟩ := hc E A G w vs hW ha
 refine ⟨h1, h2.mono fun e w' he => ?_⟩
 obtain ⟨E', A', G', r, h', h1, h2, h3, h4, h5⟩ := he
 exact ⟨E', A', G', r, h', h1, h2, h3, h4, hr _ _ h5⟩
theorem AC.mono {P : Program} {GL : Glob} : (AC P GL).Mono := by
 intro f args h R R' hr hc
 cases f with
 | fn f => exact ACall.mono f args h R R' hr hc
 | yld k => exact AYield.mono k args h R R' hr hc
 | gen g => exact AGen.mono g args h R R' hr hc
theorem AGen.call {P : Program} {GL : Glob} {g : FuncId} {args : List AV} {h : List AObj} {R : ARes -> List AObj -> Prop} (hc : AGen P GL g args h R) : ACall P GL g args h R := fun E A G w vs hW ha => .inl (hc E A G w vs hW ha)
end Go.Rip
