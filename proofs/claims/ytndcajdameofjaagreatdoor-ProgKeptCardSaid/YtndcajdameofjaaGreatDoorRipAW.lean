/- Trees in memory of their own; equal lists, equal clauses. -/
import Derived.Test.YtndcajdameofjaaGreatDoorRipAV
import Derived.Test.YtndcajdameofjaaGreatDoorRipAU
import Derived.Test.YtndcajdameofjaaGreatDoorRipAI
import Derived.Test.YtndcajdameofjaaGreatDoorRipAS
import Derived.Test.YtndcajdameofjaaGreatDoorRipAJ
namespace Go.Rip
open Go
set_option maxRecDepth 100000
theorem cV {α β : Type} {l : List α} {j : Nat} (hlt : j < l.length) (f : α -> β) : (l.take (j + 1)).map f = (l.take j).map f ++ [f l[j]] := by
 rw [List.take_succ_eq_append_getElem hlt, List.map_append]; rfl
theorem dG {α β : Type} {l : List α} {j : Nat} (h : l.length <= j) (f : α -> β) : (l.take j).map f = l.map f := by rw [List.take_of_length_le h]
variable {GL : Glob}
theorem h207 : ∀ (n : Nat) (l : List Tm), sizes l <= n -> n < 2 ^ 30 -> Pure (PC GL) 207 [.sl 4 (l.map enc)] (.sl 4 (l.map enc)) := by
 intro n
 induction n with
 | zero =>
  intro l hl _
  have h4 := aX l
  have : l = [] := List.length_eq_zero_iff.1 (by omega)
  subst this
  refine k207.pure (by simp) (by simp [go_sem]) (by simp [go_sem]) ?_
  simp -implicitDefEqProofs only [c207, r207, go_sem]
  refine bB hC (fun j (_ : Unit) => [(8, .i j), (7, .i (0 : Nat)), (3, .v (.slice none 0 0))]) (fun j (_ : Unit) h => True) 0 ⟨(), _, Wk.pick (Nat.zero_le _) (by simp [go_sem]), trivial⟩ fun j _ h hj _ => ?_
  have : j = 0 := by omega
  subst this
  simp -implicitDefEqProofs only [go_sem, show decide (((0 : Nat) : Int) < ((0 : Nat) : Int)) = false from rfl]
  refine aF ?_ (by simp [go_sem])
  simp [go_sem]
 | succ n ih =>
 intro l hl hn
 have h4 := aX l
 refine k207.pure (by simp) (by simp [go_sem]) (by simp [go_sem]) ?_
 simp -implicitDefEqProofs only [c207, r207, go_sem]
 refine bB hC (fun j a => [(8, .i j), (3, .own a 4 ((l.take j).map enc)), (6, .sl 4 (l.map enc)), (7, .i l.length)]) (fun j a h => h[a]? = some (.spare 24 4)) l.length ?_ fun j a h hj ha => ?_
 ·refine ⟨0, _, (Wk.own_nil (h := []) 24 4 3 (by simp [go_sem]) (Nat.zero_le _)).trans (Wk.pick (by simp) (by simp [go_sem])), rfl⟩
 have ha_g := fun l => aG (l := l) ha
 have ha_s := fun o l => aR (l := l) ha o
 have ha_e := fun o l => aS (o := o) (l := l) ha
 have ha_h := fun o => aL (o := o) ha
 simp -implicitDefEqProofs only [go_sem]
 refine aJ (fun hlt => ?_) (fun hlt => ?_)
 ·have hlt := aM hlt
  have g1 := bO hlt
  have g2 := cC l[j]
  have w5 : IntKind.i64.wrap ((j : Int) + 1) = (j : Int) + 1 := aD _ (by omega)
  simp -implicitDefEqProofs only [go_sem, hlt, aW]
  refine aC hC (ih l[j].l (by omega) (by omega)) ?_
  simp -implicitDefEqProofs only [go_sem, List.append_assoc, ha_g, ha_s]
  refine ⟨by simp; omega, ?_⟩
  refine ⟨h.length + 2, _, Wk.pick (Nat.zero_le _) (by simp [go_sem, w5, cV hlt]), ?_⟩
  rw [get_ge (by simp)]; simp
 ·have hge := aN hlt
  simp -implicitDefEqProofs only [go_sem, hlt, dG hge]
  refine aF ?_ (by simp [go_sem])
  simp [go_sem]
end Go.Rip
namespace Go.Rip
open Go
set_option maxRecDepth 100000
variable {GL : Glob}
theorem wkr_made {t : Tm} {a : Nat} : wkr (.agg [.v (.int .i64 t.kind), .v (.int .i64 t.n), .str t.s, .own a 4 (t.l.map enc)]) (enc t) := by rw [enc_eq]; simp [wkr, wkrs]
theorem h290 (t : Tm) (ht : t.size < 2 ^ 30) : Pure (PC GL) 290 [enc t] (enc t) := by
 induction t using dK with
 | _ t ih =>
 have hs := cC t
 have h4 := aX t.l
 refine k290.pure (by simp) (by simp [go_sem]) (by simp [go_sem]) ?_
 simp -implicitDefEqProofs only [c290, r290, go_sem]
 refine bB hC (fun j a => [(9, .i j), (3, .own a 4 ((t.l.take j).map enc)), (7, .sl 4 (t.l.map enc)), (8, .i t.l.length), (1, .ref 0 0), (2, .ref 1 0)]) (fun j a h => h[a]? = some (.spare 24 4) /\ h[0]? = some (.cells 24 [.v (.int .i64 t.kind), .v (.int .i64 t.n), .str t.s, .sl 4 (t.l.map enc)]) /\ h[1]? = some (.cells 24 [.v (.int .i64 0), .v (.int .i64 0), .str [], .v (.slice none 0 0)])) t.l.length ?_ fun j a h hj ⟨ha, hb, hd⟩ => ?_
 ·refine ⟨2, [.cells 24 [.v (.int .i64 t.kind), .v (.int .i64 t.n), .str t.s, .sl 4 (t.l.map enc)], .cells 24 [.v (.int .i64 0), .v (.int .i64 0), .str [], .v (.slice none 0 0)], .spare 24 4], (Wk.own_nil (h := [.cells 24 [.v (.int .i64 t.kind), .v (.int .i64 t.n), .str t.s, .sl 4 (t.l.map enc)], .cells 24 [.v (.int .i64 0), .v (.int .i64 0), .str [], .v (.slice none 0 0)]]) 24 4 3 (by simp [go_sem]) (Nat.zero_le _)).trans (Wk.pick (Nat.zero_le _) ?_), rfl, rfl, rfl⟩
  simp [go_sem]
 ·skip
  have ha_g := fun l => aG (l := l) ha
  have ha_s := fun o l => aR (l := l) ha o
  have ha_e := fun o l => aS (o := o) (l := l) ha
  have ha_h := fun o => aL (o := o) ha
  have hb_g := fun l => aG (l := l) hb
  have hb_s := fun o l => aR (l := l) hb o
  have hb_e := fun o l => aS (o := o) (l := l) hb
  have hb_h := fun o => aL (o := o) hb
  have hd_g := fun l => aG (l := l) hd
  have hd_s := fun o l => aR (l := l) hd o
  have hd_e := fun o l => aS (o := o) (l := l) hd
  have hd_h := fun o => aL (o := o) hd
  simp -implicitDefEqProofs only [go_sem]
  refine aJ (fun hlt => ?_) (fun hlt => ?_)
  ·have hlt := aM hlt
   have g1 := bO hlt
   have w5 : IntKind.i64.wrap ((j : Int) + 1) = (j : Int) + 1 := aD _ (by omega)
   simp -implicitDefEqProofs only [go_sem, hlt, aW]
   refine aC hC (ih _ (List.getElem_mem hlt) (by omega)) ?_
   simp -implicitDefEqProofs only [go_sem, List.append_assoc, ha_g, ha_s]
   refine ⟨by simp; omega, ?_⟩
   refine ⟨h.length + 2, _, Wk.pick (Nat.zero_le _) (by simp [go_sem, w5, cV hlt]), ?_, ?_, ?_⟩
   ·rw [get_ge (by simp)]; simp
   ·exact cN hb ha (by simp)
   ·exact cN hd ha (by simp)
  ·have hge := aN hlt
   have hd1 := fun o => (aT (h := h) (o := o) (show 0 ≠ 1 by decide)).trans hd
   have hd2 := fun o o' => aL (o := o') (hd1 o)
   simp -implicitDefEqProofs only [go_sem, hlt, dG hge, hb, hb_h, hd1, hd2]
   exact aF wkr_made (by simp [go_sem])
theorem ne30 : ((3 : Int) != 0) = true := rfl
theorem ne00 : ((0 : Int) != 0) = false := rfl
def Tm.nul : Tm := .mk 0 0 [] []
theorem wkr_nul : wkr (.agg [.v (.int .i64 0), .v (.int .i64 0), .str [], .v (.slice none 0 0)]) (enc Tm.nul) := by rw [Tm.nul, enc_mk]; simp [wkr, wkrs]
theorem h251 (t : Tm) (ht : t.size < 2 ^ 30) (hs : t.strs) : Pure (PC GL) 251 [enc t] (.tup [enc (if t.ok then t else Tm.nul), .i (if t.ok then 0 else 2)]) := by
 refine k251.pure (by simp) (by simp [go_sem]) (by simp [go_sem]) ?_
 simp -implicitDefEqProofs only [c251, r251, go_sem]
 refine aC hC (h95 t ht hs) ?_
 rcases t.ok with _ | _
 ·simp -implicitDefEqProofs only [go_sem, if_neg Bool.false_ne_true, ne30]
  exact aF (wkr_pair wkr_nul rfl) (by simp [go_sem])
 ·simp -implicitDefEqProofs only [go_sem, if_pos, ne00]
  refine aC hC (h290 t ht) ?_
  simp -implicitDefEqProofs only [go_sem]
  exact aF (wkr_refl _) (by simp [go_sem])
mutual
def Tm.sub (F : Int -> Tm) : Tm -> Tm
 | .mk k n s l => if k = 1 then F n else .mk k n s (Tm.subs F l)
def Tm.subs (F : Int -> Tm) : List Tm -> List Tm
 | [] => []
 | t :: r => t.sub F :: Tm.subs F r
end
theorem subs_map (F : Int -> Tm) : ∀ l, Tm.subs F l = l.map (Tm.sub F)
 | [] => rfl
 | t :: r => by rw [Tm.subs, subs_map F r]; rfl
theorem sub_eq (F : Int -> Tm) (t : Tm) : t.sub F = if t.kind = 1 then F t.n else .mk t.kind t.n t.s (t.l.map (Tm.sub F)) := by cases t; rw [Tm.sub, subs_map]; rfl
theorem wkr_subd {t : Tm} {a : Nat} {F : Int -> Tm} : wkr (.agg [.v (.int .i64 t.kind), .v (.int .i64 t.n), .str t.s, .own a 4 (t.l.map fun x => enc (x.sub F))]) (enc (.mk t.kind t.n t.s (t.l.map (Tm.sub F)))) := by rw [enc_mk]; simp [wkr, wkrs]
theorem Keep.turn' {K : Nat -> AObj -> Prop} {h h' : List AObj} (a : Keep K h h') {k : Nat} (o : AObj) {x : AObj} (hx : h'[k]? = some x) (hk : h.length <= k) : Keep K h (h'.set k o) :=
 a.trans' (K' := fun i _ => i = k) (Keep.set o hx rfl) fun i o' hi e => by have := aQ hi; omega
theorem h250 (f : FuncId) (cap : List AV) (F : Int -> Tm) (hF : ∀ v, (F v).size < 2 ^ 30) (t : Tm) : ∀ (left : Int) (kb : Nat) (h : List AObj), t.size < 2 ^ 30 -> ((t.sub F).size : Int) <= left -> left < 2 ^ 40 -> h[kb]? = some (.cells 262 [.v (.int .i64 left)]) ->
  (∀ v h', Keep (fun i _ => i = kb) h h' -> Gives (PC GL) f (.i v :: cap) h' fun x h'' => x = .tup [enc (F v), .v (.bool true)] /\ Keep All h' h'') ->
  Gives (PC GL) 250 [.ref kb 0, enc t, .fn (.func f) [] cap] h fun x h' => x = enc (t.sub F) /\ h'[kb]? = some (.cells 262 [.v (.int .i64 (left - (t.sub F).size))]) /\ Keep (fun i _ => i = kb) h h' := by
 induction t using dK with
 | _ t ih =>
 intro left kb h ht hle hlt hk hf
 have hs := cC t
 have h4 := aX t.l
 have hse := sub_eq F t
 have hkl := aQ hk
 have hk_g := fun l => aG (l := l) hk
 have hk_s := fun o l => aR (l := l) hk o
 have hk_e := fun o l => aS (o := o) (l := l) hk
 have hk_h := fun o => aL (o := o) hk
 refine k250.gives (by simp) ?_
 simp -implicitDefEqProofs only [go_sem, c250, r250, List.append_assoc]
 by_cases hx : t.kind = 1
 ·have e : (t.kind == 1) = true := by simpa using hx
  rw [if_pos hx] at hse
  rw [hse] at hle ⊢
  simp -implicitDefEqProofs only [go_sem, e]
  refine aH hC (hf t.n _ (Keep.app _ _ _)) fun x h2 ⟨hx2, hk2⟩ => ?_
  subst hx2
  have q0 := hk2.got (hk_g _)
  have q1 := hk2.got (i := h.length) (o := .cells 24 [.v (.int .i64 t.kind), .v (.int .i64 t.n), .str t.s, .sl 4 (t.l.map enc)]) (by rw [get_at]; rfl)
  have q2 := hk2.got (i := h.length + 1) (o := .cells 24 [.v (.int .i64 0), .v (.int .i64 0), .str [], .v (.slice none 0 0)]) (by rw [aE]; rfl)
  have hL := hk2.1
  simp only [List.length_append, List.length_cons, List.length_nil] at hL
  have q0_g := fun l => aG (l := l) q0
  have q0_s := fun o l => aR (l := l) q0 o
  have q0_e := fun o l => aS (o := o) (l := l) q0
  have q0_h := fun o => aL (o := o) q0
  have q1_g := fun l => aG (l := l) q1
  have q1_s := fun o l => aR (l := l) q1 o
  have q1_e := fun o l => aS (o := o) (l := l) q1
  have q1_h := fun o => aL (o := o) q1
  have q2_g := fun l => aG (l := l) q2
  have q2_s := fun o l => aR (l := l) q2 o
  have q2_e := fun o l => aS (o := o) (l := l) q2
  have q2_h := fun o => aL (o := o) q2
  have w1 : IntKind.i64.wrap (left - (F t.n).size) = left - (F t.n).size := aD _ (by omega)
  simp -implicitDefEqProofs only [go_sem]
  refine aC hC (h248 _ (hF t.n)) ?_
  have q2_q0b := fun o l => cN (o := o) (l := l) q2 q0 (by simp)
  have q2_q0s := fun o l x => set_beside (o := o) (l := l) (x' := x) q2 q0 (by simp)
  have q2_q0g := fun o l x => get_beside2 (o := o) (l := l) (x' := x) q2 q0 (by simp)
  have q2_q0k := fun o l x => get_beside3 (o := o) (l := l) (x' := x) q2 q0 (by simp)
  simp -implicitDefEqProofs only [go_sem, gat_set, q0_g, q0_s, w1, q2_q0b, q2_q0s, q2_q0g]
  refine dA ?_ (wkr_refl _) ?_
  ·simp; omega
  ·refine ⟨rfl, q2_q0k _ _ _, ?_⟩
   have hk1 : Keep (fun i _ => i = kb) h (h2.set kb (.cells 262 [.v (.int .i64 (left - (F t.n).size))])) := ((Keep.app _ h _).trans hk2.of_all).trans (Keep.set _ q0 rfl)
   exact (hk1.turn' _ ((aT (by omega)).trans q2) (Nat.le_succ _)).trans (Keep.app _ _ _)
 ·have e : (t.kind == 1) = false := by simpa using hx
  rw [if_neg hx] at hse
  rw [hse] at hle ⊢
  have w1 : IntKind.i64.wrap (left - 1) = left - 1 := aD _ (by omega)
  have hsz : (Tm.mk t.kind t.n t.s (t.l.map (Tm.sub F))).size = 1 + sizes (t.l.map (Tm.sub F)) := by rw [cC, Tm.l_mk]; omega
  rw [hsz] at hle ⊢
  simp -implicitDefEqProofs only [go_sem, e, hk_g, hk_s, w1, gat_set]
  refine bB hC (fun j a => [(49, .i j), (11, .own a 4 ((t.l.take j).map fun x => enc (x.sub F))), (47, .sl 4 (t.l.map enc)), (48, .i t.l.length), (0, .ref kb 0), (2, .fn (.func f) [] cap), (4, .ref h.length 0), (6, .ref (h.length + 1) 0)]) (fun j a h' => h'[a]? = some (.spare 24 4) /\ h'[kb]? = some (.cells 262 [.v (.int .i64 (left - 1 - sizes ((t.l.take j).map (Tm.sub F))))]) /\ h'[h.length]? = some (.cells 24 [.v (.int .i64 t.kind), .v (.int .i64 t.n), .str t.s, .sl 4 (t.l.map enc)]) /\ h'[h.length + 1]? = some (.cells 24 [.v (.int .i64 0), .v (.int .i64 0), .str [], .v (.slice none 0 0)]) /\ h.length <= a /\ Keep (fun i _ => i = kb) h h') t.l.length ?_ fun j a h2 hj ⟨ha, hb, hd, he, hak, hkk⟩ => ?_
  ·refine ⟨h.length + 2, _, (Wk.own_nil 24 4 11 (by simp [go_sem]) (by simp)).trans (Wk.pick (by simp) (by simp [go_sem])), ?_, ?_, ?_, ?_, Nat.le_add_right _ _, ?_⟩
   ·rw [get_ge (by simp)]; simp
   ·rw [List.append_assoc, hk_e]; simp [sizes]
   ·rw [List.append_assoc, gat_set]; rfl
   ·rw [List.append_assoc, gat_set_add]; rfl
   ·rw [List.append_assoc]; exact (Keep.set _ hk rfl).trans (Keep.app _ _ _)
  ·skip
   have ha_g := fun l => aG (l := l) ha
   have ha_s := fun o l => aR (l := l) ha o
   have ha_e := fun o l => aS (o := o) (l := l) ha
   have ha_h := fun o => aL (o := o) ha
   have hb_g := fun l => aG (l := l) hb
   have hb_s := fun o l => aR (l := l) hb o
   have hb_e := fun o l => aS (o := o) (l := l) hb
   have hb_h := fun o => aL (o := o) hb
   have hd_g := fun l => aG (l := l) hd
   have hd_s := fun o l => aR (l := l) hd o
   have hd_e := fun o l => aS (o := o) (l := l) hd
   have hd_h := fun o => aL (o := o) hd
   have he_g := fun l => aG (l := l) he
   have he_s := fun o l => aR (l := l) he o
   have he_e := fun o l => aS (o := o) (l := l) he
   have he_h := fun o => aL (o := o) he
   simp -implicitDefEqProofs only [go_sem]
   refine aJ (fun hlt => ?_) (fun hlt => ?_)
   ·have hlt := aM hlt
    have g1 := bO hlt
    have w5 : IntKind.i64.wrap ((j : Int) + 1) = (j : Int) + 1 := aD _ (by omega)
    have g2 : sizes ((t.l.take j).map (Tm.sub F)) + ((t.l[j]).sub F).size <= sizes (t.l.map (Tm.sub F)) := by
     have := bG (t.l.map (Tm.sub F)) (j + 1)
     rw [bK (l := t.l.map (Tm.sub F)) (by simpa using hlt), List.getElem_map, <- List.map_take] at this
     exact this
    have e2 : decide (left - 1 - (sizes ((t.l.take j).map (Tm.sub F)) : Int) < 0) = false := decide_eq_false (by omega)
    have g3 : sizes ((t.l.take (j + 1)).map (Tm.sub F)) = sizes ((t.l.take j).map (Tm.sub F)) + ((t.l[j]).sub F).size := by
     have := bK (l := t.l.map (Tm.sub F)) (j := j) (by simpa using hlt)
     rwa [List.getElem_map, <- List.map_take, <- List.map_take] at this
    have nak : a ≠ kb := dE ha hb (by simp)
    simp -implicitDefEqProofs only [go_sem, hlt, aW, hb_g, e2]
    refine aH hC (ih _ (List.getElem_mem hlt) (left - 1 - sizes ((t.l.take j).map (Tm.sub F))) kb _ (by omega) (by omega) (by omega) (hb_g _) fun v h' hk' => hf v h' ((hkk.trans (Keep.app _ _ _)).trans hk')) fun x h3 ⟨hx3, b3, hk3⟩ => ?_
    subst hx3
    have a3 := hk3.get (ha_g _) nak
    have d3 := hk3.get (hd_g _) (by omega)
    have e3 := hk3.get (he_g _) (by omega)
    have k3 := (hkk.trans (Keep.app _ _ _)).trans hk3
    have a3_g := fun l => aG (l := l) a3
    have a3_s := fun o l => aR (l := l) a3 o
    have a3_e := fun o l => aS (o := o) (l := l) a3
    have a3_h := fun o => aL (o := o) a3
    simp -implicitDefEqProofs only [go_sem, List.append_assoc, a3_g, a3_s]
    refine ⟨by simp; omega, ?_⟩
    refine ⟨h3.length + 1, _, Wk.pick (by simp; have := k3.1; omega) (by simp [go_sem, w5, cV hlt]), ?_, ?_, ?_, ?_, by have := k3.1; omega, ?_⟩
    ·rw [get_ge (by simp)]; simp
    ·rw [cN b3 a3 (by simp), g3]; simp; omega
    ·exact cN d3 a3 (by simp)
    ·exact cN e3 a3 (by simp)
    ·exact (k3.trans' (K' := fun i _ => i = a) (Keep.set _ a3 rfl) fun i o' hi e => by have := aQ hi; omega).trans (Keep.app _ _ _)
   ·have hge := aN hlt
    have he1 := fun o => (aT (h := h2) (o := o) (show h.length ≠ h.length + 1 by omega)).trans he
    have he2 := fun o o' => aL (o := o') (he1 o)
    rw [aV hge] at hb
    simp -implicitDefEqProofs only [go_sem, hlt, dG hge, hd, hd_h, he1, he2]
    have hk1 := (hkk.turn' (.cells 24 [.v (.int .i64 t.kind), .v (.int .i64 t.n), .str t.s, .own a 4 (t.l.map fun x => enc (x.sub F))]) hd (Nat.le_refl _)).turn' (.cells 24 [.v (.int .i64 t.kind), .v (.int .i64 t.n), .str t.s, .own a 4 (t.l.map fun x => enc (x.sub F))]) (he1 _) (Nat.le_succ _)
    refine dA hk1.1 wkr_subd ⟨rfl, ?_, hk1⟩
    rw [aT (by omega), aT (by omega), hb]
    simp; omega
def varF (g : Int -> Int) : Int -> Tm := fun v => .mk 1 (g v) [] []
theorem wkr_var {g : Int -> Int} {v : Int} : wkr (.tup [.agg [.v (.int .i64 1), .v (.int .i64 (g v)), .str [], .v (.slice none 0 0)], .v (.bool true)]) (.tup [enc (varF g v), .v (.bool true)]) := by
 refine wkr_pair ?_ rfl
 rw [varF, enc_mk]; simp [wkr, wkrs]
theorem idxI_lt {s : Int} : ∀ {ks : List Int} {i : Nat}, idxI s ks = some i -> i < ks.length
 | k :: r, i, h => by
  simp only [idxI] at h
  split at h
  ·cases h; simp
  ·rw [Option.map_eq_some_iff] at h
   obtain ⟨j, hj, rfl⟩ := h
   simpa using idxI_lt hj
def idx0 (l : List Int) (v : Int) : Int := ((idxI v l).getD 0 : Nat)
theorem h213 (v : Int) (l : List Int) (k m : Nat) (h : List AObj) (hk : h[k]? = some (.cells 230 [.mp m])) (hm : h[m]? = some (.map (l.map encI) ((List.range l.length).map fun i => AV.i (i : Nat)))) : Gives (PC GL) 213 [.i v, .ref k 0] h fun x h' => x = .tup [enc (varF (idx0 l) v), .v (.bool true)] /\ Keep All h h' := by
 refine k213.gives (by simp) ?_
 have hk_g := fun l => aG (l := l) hk
 have hk_s := fun o l => aR (l := l) hk o
 have hk_e := fun o l => aS (o := o) (l := l) hk
 have hk_h := fun o => aL (o := o) hk
 have hm_g := fun l => aG (l := l) hm
 have hm_s := fun o l => aR (l := l) hm o
 have hm_e := fun o l => aS (o := o) (l := l) hm
 have hm_h := fun o => aL (o := o) hm
 rcases hi : idxI v l with _ | i
 ·simp -implicitDefEqProofs only [go_sem, c213, r213, hk_g, hm_g, find_int, hi]
  refine dA (y := .tup [enc (varF (idx0 l) v), .v (.bool true)]) (by simp) ?_ ⟨rfl, Keep.app _ _ _⟩
  have := wkr_var (g := idx0 l) (v := v)
  rw [idx0, hi] at this
  exact this
 ·have hlt : i < l.length := idxI_lt hi
  have e : ((List.range l.length).map fun i => AV.i (i : Nat)).getD i .any = .i (i : Nat) := by simp [List.getD, hlt]
  simp -implicitDefEqProofs only [go_sem, c213, r213, hk_g, hm_g, find_int, hi, e]
  refine dA (y := .tup [enc (varF (idx0 l) v), .v (.bool true)]) (by simp) ?_ ⟨rfl, Keep.app _ _ _⟩
  have := wkr_var (g := idx0 l) (v := v)
  rw [idx0, hi] at this
  exact this
theorem h212 (f : FuncId) (cap : List AV) (F : Int -> Tm) (hF : ∀ v, (F v).size < 2 ^ 30) (t : Tm) (h : List AObj) (ht : t.size < 2 ^ 30) (hs : (t.sub F).size <= 4000) (hS : (t.sub F).strs)
  (hf : ∀ v h', Keep All h h' -> Gives (PC GL) f (.i v :: cap) h' fun x h'' => x = .tup [enc (F v), .v (.bool true)] /\ Keep All h' h'') :
  Gives (PC GL) 212 [enc t, .fn (.func f) [] cap] h fun x h' => x = .tup [enc (if (t.sub F).ok then t.sub F else Tm.nul), .i (if (t.sub F).ok then 0 else 2)] /\ Keep All h h' := by
 refine k212.gives (by simp) ?_
 simp -implicitDefEqProofs only [go_sem, c212, r212, List.append_assoc]
 refine aH hC (h250 f cap F hF t 4000 (h.length + 2) _ ht (by omega) (by omega) (aE h _ 2) fun v h' hk => hf v h' ((Keep.app All h _).trans' hk fun i o hi e => ?_)) fun x h2 ⟨hx, hb, hk2⟩ => ?_
 ·have := aQ hi; omega
 subst hx
 have q1 := hk2.get (i := h.length + 1) (o := .cells 24 [.v (.int .i64 0), .v (.int .i64 0), .str [], .v (.slice none 0 0)]) (by rw [aE]; rfl) (by omega)
 have hk3 : Keep All h h2 := (Keep.app All h _).trans' hk2 fun i o hi e => by have := aQ hi; omega
 have hL := hk2.1
 simp only [List.length_append, List.length_cons, List.length_nil] at hL
 have q1_g := fun l => aG (l := l) q1
 have q1_s := fun o l => aR (l := l) q1 o
 have q1_e := fun o l => aS (o := o) (l := l) q1
 have q1_h := fun o => aL (o := o) q1
 have hb_g := fun l => aG (l := l) hb
 have hb_s := fun o l => aR (l := l) hb o
 have hb_e := fun o l => aS (o := o) (l := l) hb
 have hb_h := fun o => aL (o := o) hb
 have e2 : decide ((4000 : Int) - ((t.sub F).size : Int) < 0) = false := decide_eq_false (by omega)
 have q := h251 (GL := GL) (t.sub F) (by omega) hS
 simp -implicitDefEqProofs only [go_sem, hb_g, e2]
 refine aC hC q ?_
 simp -implicitDefEqProofs only [go_sem, q1_g, q1_s, q1_e]
 refine dA (by simp; omega) (wkr_refl _) ⟨?_, ?_⟩
 ·simp only [go_sem]
 ·exact (hk3.turn' _ q1 (Nat.le_succ _)).trans (Keep.app _ _ _)
end Go.Rip
namespace Go.Rip
open Go
set_option maxRecDepth 100000
attribute [local simp] Tm.kind_mk Tm.n_mk Tm.s_mk Tm.l_mk
theorem sizes_map_le {f : Tm -> Tm} : ∀ {l : List Tm}, (∀ x ∈ l, (f x).size <= x.size) -> sizes (l.map f) <= sizes l
 | [], _ => Nat.le_refl _
 | x :: r, h => by
  simp only [List.map_cons, sizes]
  have := h x (by simp)
  have := sizes_map_le (l := r) fun y hy => h y (by simp [hy])
  omega
theorem deeps_map_le {f : Tm -> Tm} : ∀ {l : List Tm}, (∀ x ∈ l, (f x).deep <= x.deep) -> deeps (l.map f) <= deeps l
 | [], _ => Nat.le_refl _
 | x :: r, h => by
  simp only [List.map_cons, deeps]
  have := h x (by simp)
  have := deeps_map_le (l := r) fun y hy => h y (by simp [hy])
  omega
theorem strss_map {f : Tm -> Tm} : ∀ {l : List Tm}, (∀ x ∈ l, (f x).strs) -> strss (l.map f)
 | [], _ => trivial
 | x :: r, h => ⟨h x (by simp), strss_map (l := r) fun y hy => h y (by simp [hy])⟩
theorem nodesOks_map {f : Tm -> Tm} : ∀ {l : List Tm}, (∀ x ∈ l, (f x).nodesOk = true) -> nodesOks (l.map f) = true
 | [], _ => rfl
 | x :: r, h => by simp only [List.map_cons, nodesOks, Bool.and_eq_true]; exact ⟨h x (by simp), nodesOks_map (l := r) fun y hy => h y (by simp [hy])⟩
theorem cK : ∀ {l : List Tm}, nodesOks l = true -> ∀ x ∈ l, x.nodesOk = true
 | y :: r, h, x, hx => by
  simp only [nodesOks, Bool.and_eq_true] at h
  rcases List.mem_cons.1 hx with rfl | hx
  ·exact h.1
  ·exact cK h.2 x hx
variable (g : Int -> Int)
theorem size_sub (t : Tm) : (t.sub (varF g)).size <= t.size := by
 induction t using dK with
 | _ t ih =>
 rw [sub_eq]
 split
 ·rw [varF, cC]; have := size_pos t; simp only [Tm.l_mk, sizes]; omega
 ·rw [cC, cC t, Tm.l_mk]; have := sizes_map_le ih; omega
theorem deep_sub (t : Tm) : (t.sub (varF g)).deep <= t.deep := by
 induction t using dK with
 | _ t ih =>
 rw [sub_eq]
 split
 ·rw [varF, deep_eq, deep_eq t]; simp only [Tm.l_mk, deeps]; omega
 ·rw [deep_eq, deep_eq t, Tm.l_mk]; have := deeps_map_le ih; omega
theorem strs_sub (t : Tm) (h : t.strs) : (t.sub (varF g)).strs := by
 induction t using dK with
 | _ t ih =>
 rw [strs_eq] at h
 rw [sub_eq]
 split
 ·rw [varF, strs_eq]; exact ⟨by simp only [Tm.s_mk, List.length_nil]; omega, trivial⟩
 ·rw [strs_eq, Tm.s_mk, Tm.l_mk]; exact ⟨h.1, strss_map fun x hx => ih x hx (cA h.2 x hx)⟩
def vn (t : Tm) : Option Int := if t.kind = 1 then some t.n else none
def occ (l : List Tm) : List Int := (pres l).filterMap vn
theorem occ_nil : occ [] = [] := rfl
theorem occ_app (a b : List Tm) : occ (a ++ b) = occ a ++ occ b := by simp [occ, pres_app]
theorem occ_cons (t : Tm) (r : List Tm) : occ (t :: r) = occ [t] ++ occ r := occ_app [t] r
theorem occ_one (t : Tm) : occ [t] = (match vn t with | some v => v :: occ t.l | none => occ t.l) := by
 simp only [occ, pres, List.append_nil, pre_eq, List.filterMap_cons]
 cases vn t <;> rfl
theorem occ_mem {l : List Tm} {t : Tm} (ht : t ∈ l) {v : Int} (hv : v ∈ occ [t]) : v ∈ occ l := by
 induction l with
 | nil => cases ht
 | cons x r ih =>
  rw [occ_cons]
  rcases List.mem_cons.1 ht with rfl | ht
  ·exact List.mem_append_left _ hv
  ·exact List.mem_append_right _ (ih ht)
theorem occ_kid {t x : Tm} (hx : x ∈ t.l) {v : Int} (hv : v ∈ occ [x]) : v ∈ occ [t] := by
 rw [occ_one]
 have := occ_mem hx hv
 split
 ·exact List.mem_cons_of_mem _ this
 ·exact this
theorem var_leaf {t : Tm} (h : t.nodesOk = true) (hk : t.kind = 1) : t.s = [] /\ t.l = [] /\ 0 <= t.n /\ t.n < 100000 := by
 rw [aY, Bool.and_eq_true, Tm.nodeOk, if_pos hk, Tm.bare] at h
 simp at h
 exact ⟨h.1.1.1, h.1.1.2, h.1.2⟩
theorem nodesOk_sub (t : Tm) (h : t.nodesOk = true) (hg : ∀ v ∈ occ [t], 0 <= g v /\ g v < 100000) : (t.sub (varF g)).nodesOk = true := by
 induction t using dK with
 | _ t ih =>
 have hn := h
 rw [aY, Bool.and_eq_true] at h
 rw [sub_eq]
 split
 ·rename_i hk
  have := hg t.n (by rw [occ_one, vn, if_pos hk]; simp)
  rw [varF, aY, Tm.nodeOk, if_pos (by rfl), Tm.bare]
  simp [nodesOks, this]
 ·rename_i hk
  rw [aY, Tm.l_mk, Bool.and_eq_true]
  refine ⟨?_, nodesOks_map fun x hx => ih x hx (cK h.2 x hx) fun v hv => hg v (occ_kid hx hv)⟩
  have e : (Tm.mk t.kind t.n t.s (t.l.map (Tm.sub (varF g)))).nodeOk = t.nodeOk := by simp only [Tm.nodeOk, Tm.bare, Tm.kind_mk, Tm.n_mk, Tm.s_mk, Tm.l_mk, List.length_map]; rfl
  rw [e]; exact h.1
theorem ok_sub (t : Tm) (h : t.ok = true) (hg : ∀ v ∈ occ [t], 0 <= g v /\ g v < 100000) : (t.sub (varF g)).ok = true := by
 simp only [Tm.ok, Bool.and_eq_true, decide_eq_true_eq] at h ⊢
 have := size_sub g t
 have := deep_sub g t
 exact ⟨by omega, by omega, nodesOk_sub g t h.2.2 hg⟩
theorem occ_sub (t : Tm) (h : t.nodesOk = true) : occ [t.sub (varF g)] = (occ [t]).map g := by
 induction t using dK with
 | _ t ih =>
 rw [sub_eq]
 split
 ·rename_i hk
  obtain ⟨-, b, -⟩ := var_leaf h hk
  rw [occ_one t, vn, if_pos hk, b, occ_one, varF, vn, if_pos (by rfl)]
  simp [occ_nil]
 ·rename_i hk
  rw [occ_one, occ_one t, vn, vn, if_neg hk, if_neg (by simpa using hk), Tm.l_mk]
  rw [aY, Bool.and_eq_true] at h
  have : ∀ l : List Tm, (∀ x ∈ l, occ [x.sub (varF g)] = (occ [x]).map g) -> occ (l.map (Tm.sub (varF g))) = (occ l).map g := by
   intro l
   induction l with
   | nil => intro _; rfl
   | cons y r ihr =>
    intro hl
    rw [List.map_cons, occ_cons, occ_cons y, List.map_append, hl y (by simp), ihr fun x hx => hl x (by simp [hx])]
  exact this t.l fun x hx => ih x hx (cK h.2 x hx)
theorem occs_sub {l : List Tm} (h : nodesOks l = true) : occ (l.map (Tm.sub (varF g))) = (occ l).map g := by
 induction l with
 | nil => rfl
 | cons y r ihr =>
  simp only [nodesOks, Bool.and_eq_true] at h
  rw [List.map_cons, occ_cons, occ_cons y, List.map_append, occ_sub g y h.1, ihr h.2]
def ins (l : List Int) (v : Int) : List Int := if (l.any fun x => x == v) = false then l ++ [v] else l
theorem foldl_vn : ∀ (ts : List Tm) (l : List Int), ts.foldl addV l = (ts.filterMap vn).foldl ins l
 | [], l => rfl
 | t :: r, l => by
  rw [List.foldl_cons, foldl_vn r, List.filterMap_cons]
  by_cases hk : t.kind = 1
  ·rw [vn, if_pos hk]; simp only [List.foldl_cons, addV, ins, hk, true_and]
  ·rw [vn, if_neg hk, addV, if_neg (by simp [hk])]
theorem varsOf_occ (l : List Tm) : varsOf l = (occ l).foldl ins [] := foldl_vn _ _
theorem mem_ins : ∀ (vs l : List Int) (x : Int), x ∈ vs.foldl ins l ↔ x ∈ l ∨ x ∈ vs
 | [], l, x => by simp
 | v :: r, l, x => by
  rw [List.foldl_cons, mem_ins r, ins]
  split
  ·simp [or_assoc]
  ·rename_i h
   simp only [Bool.not_eq_false, List.any_eq_true, beq_iff_eq] at h
   obtain ⟨y, hy, rfl⟩ := h
   simp only [List.mem_cons]
   constructor
   ·rintro (a | a)
    ·exact .inl a
    ·exact .inr (.inr a)
   ·rintro (a | rfl | a)
    ·exact .inl a
    ·exact .inl hy
    ·exact .inr a
theorem mem_varsOf {l : List Tm} {x : Int} : x ∈ varsOf l ↔ x ∈ occ l := by rw [varsOf_occ, mem_ins]; simp
theorem ins_map {g : Int -> Int} (hg : ∀ a b, g a = g b -> a = b) : ∀ (vs l : List Int), (vs.map g).foldl ins (l.map g) = (vs.foldl ins l).map g
 | [], l => rfl
 | v :: r, l => by
  have e : ((l.map g).any fun x => x == g v) = l.any fun x => x == v := by
   rw [List.any_map]
   congr 1
   funext x
   simp only [Function.comp]
   rw [Bool.eq_iff_iff, beq_iff_eq, beq_iff_eq]
   exact ⟨hg x v, fun e => by rw [e]⟩
  rw [List.map_cons, List.foldl_cons, List.foldl_cons, <- ins_map hg r, ins, ins, e]
  split <;> simp
theorem varsOf_sub {g : Int -> Int} (hg : ∀ a b, g a = g b -> a = b) {l : List Tm} (h : nodesOks l = true) : varsOf (l.map (Tm.sub (varF g))) = (varsOf l).map g := by
 rw [varsOf_occ, varsOf_occ, occs_sub g h]
 exact ins_map hg _ []
theorem idx0_bound (l : List Int) (v : Int) : 0 <= idx0 l v /\ idx0 l v <= l.length := by
 rw [idx0]
 rcases h : idxI v l with _ | i
 ·simp
 ·have := idxI_lt h
  simp; omega
theorem idxI_get {v : Int} : ∀ {l : List Int}, v ∈ l -> ∃ i, idxI v l = some i /\ l[i]? = some v
 | x :: r, h => by
  by_cases e : v = x
  ·exact ⟨0, by simp [idxI, e], by simp [e]⟩
  ·obtain ⟨i, h1, h2⟩ := idxI_get ((List.mem_cons.1 h).resolve_left e)
   exact ⟨i + 1, by simp [idxI, e, h1], by simpa using h2⟩
end Go.Rip
namespace Go.Rip
open Go
set_option maxRecDepth 100000
variable {GL : Glob}
theorem idxI_not : ∀ {l : List Int} {v : Int}, v ∉ l -> idxI v l = none
 | [], _, _ => rfl
 | x :: r, v, h => by
  simp only [List.mem_cons, not_or] at h
  simp [idxI, h.1, idxI_not h.2]
theorem nodup_ins : ∀ (vs l : List Int), l.Nodup -> (vs.foldl ins l).Nodup
 | [], l, h => h
 | v :: r, l, h => by
  rw [List.foldl_cons]
  refine nodup_ins r _ ?_
  rw [ins]
  split
  ·rename_i hv
   rw [List.nodup_append]
   refine ⟨h, by simp, fun a ha b hb => ?_⟩
   simp only [List.mem_singleton] at hb
   subst hb
   rintro rfl
   simp only [List.any_eq_false, beq_iff_eq] at hv
   exact hv a ha rfl
  ·exact h
theorem nodup_varsOf (l : List Tm) : (varsOf l).Nodup := by rw [varsOf_occ]; exact nodup_ins _ _ List.nodup_nil
theorem not_before {l : List Int} (hn : l.Nodup) {j : Nat} (hj : j < l.length) : l[j] ∉ l.take j := fun hm => by
 obtain ⟨i, hi, he⟩ := List.mem_take_iff_getElem.1 hm
 exact List.pairwise_iff_getElem.1 hn i j (by omega) hj (by omega) he
theorem termsOk_ok {l : List Tm} (h : termsOk l = true) : ∀ t ∈ l, t.ok = true := fun t ht => by
 simp only [termsOk, Bool.and_eq_true, decide_eq_true_eq] at h
 simp only [Tm.ok, Bool.and_eq_true, decide_eq_true_eq]
 obtain ⟨i, hi, rfl⟩ := List.getElem_of_mem ht
 have := bO hi
 have := dC ht
 exact ⟨by omega, by omega, cK h.1 _ ht⟩
theorem h128 (l : List Tm) (hl : sizes l < 2 ^ 30) (hs : strss l) (hok : termsOk l = true) : Pure (PC GL) 128 [.sl 4 (l.map enc)] (.tup [.sl 4 ((l.map (Tm.sub (varF (idx0 (varsOf l))))).map enc), .sl 1 ((varsOf l).map encI), .i 0]) := by
 have h4 := aX l
 have q211 := h211v (GL := GL) l hl hs hok
 have hvl := varsOf_len l
 have hnd := nodup_varsOf l
 have hoks := termsOk_ok hok
 have h40 : sizes l <= 4000 := by simp only [termsOk, Bool.and_eq_true, decide_eq_true_eq] at hok; exact hok.2.2
 generalize hvs : varsOf l = vs at *
 refine k128.pure (by simp) (by simp [go_sem]) (by simp [go_sem, -List.map_map]) ?_
 simp -implicitDefEqProofs only [go_sem, c128, r128]
 refine aC hC q211 ?_
 simp -implicitDefEqProofs only [go_sem, ne00]
 refine bB hC (fun j _ => [(26, .i j), (24, .sl 1 (vs.map encI)), (25, .i vs.length), (7, .ref 1 0), (0, .sl 4 (l.map enc)), (5, .sl 1 (vs.map encI))]) (fun j (_ : Unit) h => h = [.map ((vs.take j).map encI) ((List.range j).map fun i => AV.i (i : Nat)), .cells 230 [.mp 0]]) vs.length ?_ fun j _ h hj hh => ?_
 ·exact ⟨(), _, Wk.pick (Nat.zero_le _) (by simp [go_sem]), by simp⟩
 subst hh
 simp -implicitDefEqProofs only [go_sem]
 refine aJ (fun hlt => ?_) (fun hlt => ?_)
 ·have hlt := aM hlt
  have w5 : IntKind.i64.wrap ((j : Int) + 1) = (j : Int) + 1 := aD _ (by omega)
  have hi := idxI_not (not_before hnd hlt)
  simp -implicitDefEqProofs only [go_sem, hlt, aW, encI, find_int, hi]
  refine ⟨(), _, Wk.pick (Nat.zero_le _) (by simp [go_sem, w5]), ?_⟩
  simp [cV hlt, encI]
 have hge := aN hlt
 simp -implicitDefEqProofs only [go_sem, hlt, dG hge]
 have hjl : j = vs.length := by omega
 subst hjl
 refine bB hC (fun j a => [(37, .i j), (10, .own a 4 ((l.take j).map fun t => enc (t.sub (varF (idx0 vs))))), (35, .sl 4 (l.map enc)), (36, .i l.length), (7, .ref 1 0), (5, .sl 1 (vs.map encI))]) (fun j a h => h[a]? = some (.spare 24 4) /\ h[0]? = some (.map (vs.map encI) ((List.range vs.length).map fun i => AV.i (i : Nat))) /\ h[1]? = some (.cells 230 [.mp 0])) l.length ?_ fun j a h hj ⟨ha, hm, hk⟩ => ?_
 ·refine ⟨2, _, (Wk.own_nil 24 4 10 (by simp [go_sem]) (by simp)).trans (Wk.pick (by simp) (by simp [go_sem])), rfl, rfl, rfl⟩
 have ha_g := fun l => aG (l := l) ha
 have ha_s := fun o l => aR (l := l) ha o
 have ha_e := fun o l => aS (o := o) (l := l) ha
 have ha_h := fun o => aL (o := o) ha
 have hm_g := fun l => aG (l := l) hm
 have hm_s := fun o l => aR (l := l) hm o
 have hm_e := fun o l => aS (o := o) (l := l) hm
 have hm_h := fun o => aL (o := o) hm
 have hk_g := fun l => aG (l := l) hk
 have hk_s := fun o l => aR (l := l) hk o
 have hk_e := fun o l => aS (o := o) (l := l) hk
 have hk_h := fun o => aL (o := o) hk
 simp -implicitDefEqProofs only [go_sem]
 refine aJ (fun hlt => ?_) (fun hlt => ?_)
 ·have hlt := aM hlt
  have g1 := bO hlt
  have w5 : IntKind.i64.wrap ((j : Int) + 1) = (j : Int) + 1 := aD _ (by omega)
  have hm1 := List.getElem_mem hlt
  have g2 := size_sub (idx0 vs) l[j]
  have g3 := ok_sub (idx0 vs) l[j] (hoks _ hm1) fun v _ => by have := idx0_bound vs v; omega
  simp -implicitDefEqProofs only [go_sem, hlt, aW]
  refine aH hC (h212 213 [.ref 1 0] (varF (idx0 vs)) (fun v => by rw [varF, cC, Tm.l_mk]; simp only [sizes]; omega) l[j] _ (by omega) (by omega) (strs_sub _ _ (cA hs _ hm1)) fun v h' hk' => h213 v vs 1 0 h' (hk'.got (hk_g _)) (hk'.got (hm_g _))) fun x h3 ⟨hx, hk3⟩ => ?_
  subst hx
  have a3 := hk3.got (ha_g _)
  have m3 := hk3.got (hm_g _)
  have k3 := hk3.got (hk_g _)
  have a3_g := fun l => aG (l := l) a3
  have a3_s := fun o l => aR (l := l) a3 o
  have a3_e := fun o l => aS (o := o) (l := l) a3
  have a3_h := fun o => aL (o := o) a3
  rw [if_pos g3, if_pos g3]
  simp -implicitDefEqProofs only [go_sem, List.append_assoc, a3_g, a3_s]
  refine ⟨by simp; omega, ?_⟩
  refine ⟨h3.length + 2, _, Wk.pick (Nat.zero_le _) (by simp [go_sem, w5, cV hlt]), ?_, ?_, ?_⟩
  ·rw [get_ge (by simp)]; simp
  ·exact cN m3 a3 (by simp)
  ·exact cN k3 a3 (by simp)
 ·have hge := aN hlt
  simp -implicitDefEqProofs only [go_sem, hlt, dG hge]
  refine aF ?_ (by simp [go_sem, -List.map_map])
  simp [go_sem]
theorem sizes_drop (l : List Tm) (j : Nat) : sizes (l.drop j) <= sizes l := by
 conv => rhs; rw [<- List.take_append_drop j l, dD]
 omega
def Cl.cut (c : Cl) (l : List Tm) (vars : Int) : Cl := ⟨c.mark, vars, l.take c.head.length, (l.drop c.head.length).take c.guard.length, l.drop (c.head.length + c.guard.length)⟩
theorem h141 (c : Cl) (l : List Tm) (vars : Int) (hl : sizes l < 2 ^ 30) (hab : c.head.length + c.guard.length <= l.length) : Pure (PC GL) 141 [encCl c, .sl 4 (l.map enc), .i vars] (encCl (c.cut l vars)) := by
 have h4 := aX l
 have w : IntKind.i64.wrap ((c.head.length : Int) + (c.guard.length : Int)) = ((c.head.length + c.guard.length : Nat) : Int) := by rw [aD _ (by omega)]; simp
 have e1 : ((l.map enc).drop (Int.toNat 0)).take (c.head.length - Int.toNat 0) = (l.take c.head.length).map enc := by simp
 have e2 : ((l.map enc).drop c.head.length).take (c.head.length + c.guard.length - c.head.length) = ((l.drop c.head.length).take c.guard.length).map enc := by rw [Nat.add_sub_cancel_left, List.map_take, List.map_drop]
 have e3 : ((l.map enc).drop (c.head.length + c.guard.length)).take (l.length - (c.head.length + c.guard.length)) = (l.drop (c.head.length + c.guard.length)).map enc := by rw [List.map_drop, List.take_of_length_le (by simp)]
 have q1 := h207 (GL := GL) (sizes l) (l.take c.head.length) (bG _ _) hl
 have q2 := h207 (GL := GL) (sizes l) ((l.drop c.head.length).take c.guard.length) (Nat.le_trans (bG _ _) (sizes_drop _ _)) hl
 have q3 := h207 (GL := GL) (sizes l) (l.drop (c.head.length + c.guard.length)) (sizes_drop _ _) hl
 refine k141.pure (by simp) (by simp [go_sem]) (by simp [go_sem]) ?_
 simp -implicitDefEqProofs only [go_sem, c141, r141, encCl, w, Int.toNat_natCast, e1, e2, e3]
 refine ⟨by omega, by omega, by omega, ?_⟩
 refine aC hC q1 ?_
 simp -implicitDefEqProofs only [go_sem]
 refine aC hC q2 ?_
 simp -implicitDefEqProofs only [go_sem]
 refine aC hC q3 ?_
 simp -implicitDefEqProofs only [go_sem]
 refine aF ?_ ?_ <;> simp [go_sem, Cl.cut, -List.map_take, -List.map_drop]
end Go.Rip
namespace Go.Rip
open Go
set_option maxRecDepth 100000
theorem sizes_sub (g : Int -> Int) (l : List Tm) : sizes (l.map (Tm.sub (varF g))) <= sizes l := sizes_map_le fun x _ => size_sub g x
def Cl.normal (c : Cl) : Cl := c.cut (c.parts.map (Tm.sub (varF (idx0 (varsOf c.parts))))) (varsOf c.parts).length
theorem shaped_terms {c : Cl} {ar : Int} (h : c.shaped ar = true) : termsOk c.parts = true := by
 simp only [Cl.shaped, Bool.and_eq_true] at h
 exact h.2.1
theorem h47ok (c : Cl) (ht : sizes c.parts < 2 ^ 30) (hs : strss c.parts) (h16 : c.head.length <= 16) (hsh : c.shaped c.head.length = true) : Pure (PC GLs) 47 [encCl c] (.tup [encCl c.normal, .i 0]) := by
 have hok := shaped_terms hsh
 have h4 := aX c.parts
 have q139 := h139 c c.head.length ht hs
 rw [hsh] at q139
 have q140 := h140 (GL := GLs) c (by omega)
 have q128 := h128 (GL := GLs) c.parts ht hs hok
 have q141 := h141 (GL := GLs) c (c.parts.map (Tm.sub (varF (idx0 (varsOf c.parts))))) (varsOf c.parts).length (by have := sizes_sub (idx0 (varsOf c.parts)) c.parts; omega) (by simp [Cl.parts])
 have e16 : decide ((c.head.length : Int) > 16) = false := decide_eq_false (by omega)
 simp only [encCl] at q139 q140 q141
 refine k47.pure (by simp) (by simp [go_sem]) (by simp [go_sem]) ?_
 simp -implicitDefEqProofs only [go_sem, c47, r47, encCl, e16]
 refine aC hC q139 ?_
 simp -implicitDefEqProofs only [go_sem, Bool.not_true]
 refine aC hC q140 ?_
 simp -implicitDefEqProofs only [go_sem]
 refine aC hC q128 ?_
 simp -implicitDefEqProofs only [go_sem, ne00]
 refine aC hC q141 ?_
 simp -implicitDefEqProofs only [go_sem]
 refine aF ?_ ?_ <;> simp [go_sem, Cl.normal]
end Go.Rip
namespace Go.Rip
open Go Go.Proofs
set_option maxRecDepth 100000
variable {GL : Glob}
end Go.Rip
namespace Go.Rip
open Go
set_option maxRecDepth 100000
end Go.Rip
namespace Go.Rip
open Go
set_option maxRecDepth 100000
variable {GL : Glob}
end Go.Rip
namespace Go.Rip
open Go
set_option maxRecDepth 100000
attribute [local simp] Tm.kind_mk Tm.n_mk Tm.s_mk Tm.l_mk
variable (g : Int -> Int)
theorem cU (t : Tm) : (t.sub (varF g)).kind = t.kind /\ (t.kind ≠ 1 -> (t.sub (varF g)).n = t.n /\ (t.sub (varF g)).s = t.s /\ (t.sub (varF g)).l = t.l.map (Tm.sub (varF g))) := by
 rw [sub_eq]
 by_cases h : t.kind = 1
 ·rw [if_pos h]; simp [varF, h]
 ·rw [if_neg h]; simp
theorem expr_sub (t : Tm) : (t.sub (varF g)).expr = t.expr := by
 induction t using dK with
 | _ t ih =>
 obtain ⟨a, b⟩ := cU g t
 rw [expr_eq, expr_eq t, a]
 by_cases h : t.kind = 1
 ·simp [h]
 ·obtain ⟨b1, b2, b3⟩ := b h
  have : ∀ l : List Tm, (∀ x ∈ l, (x.sub (varF g)).expr = x.expr) -> exprs (l.map (Tm.sub (varF g))) = exprs l := by
   intro l
   induction l with
   | nil => intro _; rfl
   | cons y r ihr => intro hl; simp only [List.map_cons, exprs]; rw [hl y (by simp), ihr fun x hx => hl x (by simp [hx])]
  rw [b2, b3, List.length_map, this t.l ih]
theorem exprs_sub (l : List Tm) : exprs (l.map (Tm.sub (varF g))) = exprs l := by
 induction l with
 | nil => rfl
 | cons y r ihr => simp only [List.map_cons, exprs]; rw [expr_sub, ihr]
theorem isAtom_sub (t : Tm) (s : List UInt8) : (t.sub (varF g)).isAtom s = t.isAtom s := by
 obtain ⟨a, b⟩ := cU g t
 rw [Tm.isAtom, Tm.isAtom, a]
 by_cases h : t.kind = 1
 ·simp [h]
 ·rw [(b h).2.1]
theorem isFun_sub (t : Tm) (s : List UInt8) (n : Int) : (t.sub (varF g)).isFun s n = t.isFun s n := by
 obtain ⟨a, b⟩ := cU g t
 rw [Tm.isFun, Tm.isFun, a]
 by_cases h : t.kind = 1
 ·simp [h]
 ·rw [(b h).2.1, (b h).2.2, List.length_map]
theorem test_sub (t : Tm) : (t.sub (varF g)).test = t.test := by
 obtain ⟨a, b⟩ := cU g t
 rw [Tm.test, Tm.test, isAtom_sub, a]
 by_cases h : t.kind = 1
 ·simp [h]
 ·rw [(b h).2.1, (b h).2.2, List.length_map, exprs_sub]
theorem gkind_sub (t : Tm) : (t.sub (varF g)).gkind = t.gkind := by
 obtain ⟨a, b⟩ := cU g t
 by_cases h : t.kind = 1
 ·have e1 : t.isSym = false := by simp [Tm.isSym, h]
  have e2 : (t.sub (varF g)).isSym = false := by simp [Tm.isSym, a, h]
  rw [Tm.gkind, if_pos e2, Tm.gkind, if_pos e1]
 ·have e : (t.sub (varF g)).sym = t.sym := by rw [Tm.sym, Tm.sym, (b h).2.1, (b h).2.2, List.length_map]
  rw [Tm.gkind, Tm.gkind, isAtom_sub, isFun_sub, isFun_sub, e, Tm.isSym, Tm.isSym, a]
theorem goal_sub (t : Tm) : ((t.sub (varF g)).goal).1 = t.goal.1 := by
 obtain ⟨a, b⟩ := cU g t
 have g0 : ∀ u : Tm, u.isFun [64] 2 = false -> u.goal.1 = u.gkind := fun u hu => by
  simp only [Tm.goal, hu]
  by_cases h : u.gkind = 0
  ·rw [if_pos h, h]
  ·rw [if_neg h]
 cases hf : t.isFun [64] 2
 ·rw [g0 _ (by rw [isFun_sub]; exact hf), g0 _ hf, gkind_sub]
 ·have h : t.kind ≠ 1 := by
   have := (isFun_inv hf).1
   rw [this]; simp
  rw [Tm.goal, Tm.goal, isFun_sub, gkind_sub, hf, (b h).2.2]
  rcases hl : t.l with _ | ⟨x, _ | ⟨p, _ | ⟨q, r⟩⟩⟩
  ·rfl
  ·rfl
  ·simp only [List.map_cons, List.map_nil]
   obtain ⟨pa, pb⟩ := cU g p
   rw [gkind_sub, pa]
   by_cases hp : p.kind = 1
   ·rw [if_pos (.inl (by omega)), if_pos (.inl (by omega))]
   ·rw [(pb hp).1]
    split <;> simp_all
  ·rfl
def Cl.mapT (c : Cl) (f : Tm -> Tm) (v : Int) : Cl := ⟨c.mark, v, c.head.map f, c.guard.map f, c.body.map f⟩
theorem cut_map (c : Cl) (f : Tm -> Tm) (v : Int) : c.cut (c.parts.map f) v = c.mapT f v := by
 simp only [Cl.cut, Cl.mapT, Cl.parts, List.map_append]
 congr 1
 ·rw [List.take_left' (by simp)]
 ·rw [List.drop_left' (by simp), List.take_left' (by simp)]
 ·rw [<- List.append_assoc, List.drop_left' (by simp)]
theorem mapT_parts (c : Cl) (f : Tm -> Tm) (v : Int) : (c.mapT f v).parts = c.parts.map f := by simp [Cl.mapT, Cl.parts]
theorem termsOk_map {g : Int -> Int} {l : List Tm} (h : termsOk l = true) (hg : ∀ v ∈ occ l, 0 <= g v /\ g v < 100000) : termsOk (l.map (Tm.sub (varF g))) = true := by
 simp only [termsOk, Bool.and_eq_true, decide_eq_true_eq] at h ⊢
 have h1 := sizes_sub g l
 have h2 : deeps (l.map (Tm.sub (varF g))) <= deeps l := deeps_map_le fun x _ => deep_sub g x
 exact ⟨nodesOks_map fun x hx => nodesOk_sub g x (cK h.1 x hx) fun v hv => hg v (occ_mem hx hv), by omega, by omega⟩
theorem shaped_map {g : Int -> Int} (hinj : ∀ a b, g a = g b -> a = b) {c : Cl} {ar v : Int} (h : c.shaped ar = true) (hg : ∀ v ∈ occ c.parts, 0 <= g v /\ g v < 100000) : (c.mapT (Tm.sub (varF g)) v).shaped ar = true := by
 have hto := shaped_terms h
 have hno : nodesOks c.parts = true := by simp only [termsOk, Bool.and_eq_true] at hto; exact hto.1
 have hnh : nodesOks c.head = true := by simp only [Cl.parts, dL, Bool.and_eq_true] at hno; exact hno.1
 have hng : nodesOks c.guard = true := by simp only [Cl.parts, dL, Bool.and_eq_true] at hno; exact hno.2.1
 have hs := sizes_sub g c.parts
 simp only [Cl.shaped, Bool.and_eq_true] at h ⊢
 obtain ⟨h1, h2, h3, h4, h5, h6, h7⟩ := h
 rw [mapT_parts]
 refine ⟨?_, termsOk_map h2 hg, ?_, ?_, ?_, ?_, ?_⟩
 ·have e : (c.mapT (Tm.sub (varF g)) v).bad ar = c.bad ar := by simp only [Cl.bad, Cl.mapT, List.length_map]; rfl
  rw [e]; exact h1
 ·simp only [Bool.not_eq_true', decide_eq_false_iff_not] at h3 ⊢; omega
 ·rw [varsOf_sub hinj hno, List.length_map]; exact h4
 ·simp only [Cl.mapT]
  rw [varsOf_sub hinj hng, varsOf_sub hinj hnh, List.any_map]
  have e : ((fun v => !(List.map g (varsOf c.head)).any fun x => v == x) ∘ g) = fun v => !(varsOf c.head).any fun x => v == x := by
   funext v
   simp only [Function.comp, List.any_map]
   congr 2
   funext x
   simp only [Function.comp]
   rw [Bool.eq_iff_iff, beq_iff_eq, beq_iff_eq]
   exact ⟨hinj v x, fun e => by rw [e]⟩
  rw [e]; exact h5
 ·simp only [Cl.mapT, List.any_map]
  have e : ((fun t : Tm => !t.test) ∘ Tm.sub (varF g)) = fun t => !t.test := by funext t; simp only [Function.comp, test_sub]
  rw [e]; exact h6
 ·simp only [Cl.mapT, List.any_map]
  have e : ((fun t : Tm => t.goal.1 == 0) ∘ Tm.sub (varF g)) = fun t => t.goal.1 == 0 := by funext t; simp only [Function.comp, goal_sub]
  rw [e]; exact h7
end Go.Rip
namespace Go.Rip
open Go
set_option maxRecDepth 100000
theorem sub_agree (f g : Int -> Int) (t : Tm) (h : t.nodesOk = true) (hg : ∀ v ∈ occ [t], f v = g v) : t.sub (varF f) = t.sub (varF g) := by
 induction t using dK with
 | _ t ih =>
 rw [sub_eq, sub_eq]
 split
 ·rename_i hk
  rw [varF, varF, hg t.n (by rw [occ_one, vn, if_pos hk]; simp)]
 ·rw [aY, Bool.and_eq_true] at h
  have : t.l.map (Tm.sub (varF f)) = t.l.map (Tm.sub (varF g)) := List.map_congr_left fun x hx => ih x hx (cK h.2 x hx) fun v hv => hg v (occ_kid hx hv)
  rw [this]
def gI (l : List Int) (v : Int) : Int := if v ∈ l then idx0 l v else if v < 0 then v else v + l.length + 1
theorem gI_mem {l : List Int} {v : Int} (h : v ∈ l) : gI l v = idx0 l v := if_pos h
theorem gI_inj (l : List Int) : ∀ a b, gI l a = gI l b -> a = b := fun a b e => by
 have ba := idx0_bound l a
 have bb := idx0_bound l b
 unfold gI at e
 by_cases ha : a ∈ l <;> by_cases hb : b ∈ l
 ·rw [if_pos ha, if_pos hb] at e
  obtain ⟨i, i1, i2⟩ := idxI_get ha
  obtain ⟨j, j1, j2⟩ := idxI_get hb
  rw [idx0, idx0, i1, j1] at e
  simp only [Option.getD_some] at e
  obtain rfl : i = j := by omega
  exact Option.some.inj (i2.symm.trans j2)
 ·rw [if_pos ha, if_neg hb] at e; split at e <;> omega
 ·rw [if_neg ha, if_pos hb] at e; split at e <;> omega
 ·rw [if_neg ha, if_neg hb] at e; split at e <;> split at e <;> omega
theorem ins_nodup : ∀ (vs l : List Int), l.Nodup -> (vs.foldl ins l).Nodup
 | [], l, h => h
 | v :: r, l, h => by
  rw [List.foldl_cons]
  refine ins_nodup r _ ?_
  unfold ins
  split
  ·rename_i hv
   rw [List.nodup_append]
   refine ⟨h, by simp, fun a ha b hb => ?_⟩
   rw [List.mem_singleton] at hb
   subst hb
   rw [List.any_eq_false] at hv
   have := hv a ha
   simpa using this
  ·exact h
theorem varsOf_nodup (l : List Tm) : (varsOf l).Nodup := by rw [varsOf_occ]; exact ins_nodup _ _ (by simp)
theorem idxI_at : ∀ {l : List Int} (_ : l.Nodup) {j : Nat} (hj : j < l.length), idxI l[j] l = some j
 | k :: r, hn, 0, _ => by simp [idxI]
 | k :: r, hn, j + 1, hj => by
  obtain ⟨h1, h2⟩ := List.nodup_cons.1 hn
  have hj' : j < r.length := by simpa using hj
  have e : ¬ r[j] = k := fun e => h1 (e ▸ List.getElem_mem hj')
  simp only [List.getElem_cons_succ, idxI, if_neg e, idxI_at h2 hj']; rfl
theorem range_idx (l : List Int) (hn : l.Nodup) : isRange (l.map (gI l)) = true := by
 unfold isRange
 refine decide_eq_true fun i hi => ?_
 have hi : i < l.length := by simpa using hi
 rw [List.getElem?_map, List.getElem?_eq_getElem hi, Option.map_some, gI_mem (List.getElem_mem hi), idx0, idxI_at hn hi]; rfl
theorem normal_eq {c : Cl} (h : nodesOks c.parts = true) : c.normal = c.mapT (Tm.sub (varF (gI (varsOf c.parts)))) (varsOf c.parts).length := by
 rw [Cl.normal, <- cut_map]
 congr 1
 refine List.map_congr_left fun t ht => sub_agree _ _ t (cK h t ht) fun v hv => ?_
 exact (gI_mem (mem_varsOf.2 (occ_mem ht hv))).symm
theorem normal_ok {c : Cl} {ar : Int} (h : c.shaped ar = true) : c.normal.ok ar = true := by
 have hto := shaped_terms h
 have hno : nodesOks c.parts = true := by simp only [termsOk, Bool.and_eq_true] at hto; exact hto.1
 have hsz : (varsOf c.parts).length <= 64 := by
  simp only [Cl.shaped, Bool.and_eq_true] at h
  have := of_decide_eq_true h.2.2.2.1
  omega
 have hb : ∀ v ∈ occ c.parts, 0 <= gI (varsOf c.parts) v /\ gI (varsOf c.parts) v < 100000 := fun v hv => by
  rw [gI_mem (mem_varsOf.2 hv)]
  have := idx0_bound (varsOf c.parts) v
  omega
 rw [normal_eq hno, Cl.ok, shaped_map (gI_inj _) h hb, Bool.true_and, mapT_parts, normT, varsOf_sub (gI_inj _) hno, range_idx _ (varsOf_nodup _), Bool.true_and, List.length_map]
 simp [Cl.mapT]
theorem sizes_sub_le : ∀ {a b : List Tm}, a.Sublist b -> sizes a <= sizes b := fun h => by
 induction h with
 | slnil => exact Nat.le_refl _
 | cons x _ ih => simp only [sizes]; omega
 | cons_cons x _ ih => simp only [sizes]; omega
theorem deeps_sub_le : ∀ {a b : List Tm}, a.Sublist b -> deeps a <= deeps b := fun h => by
 induction h with
 | slnil => exact Nat.le_refl _
 | cons x _ ih => simp only [deeps]; omega
 | cons_cons x _ ih => simp only [deeps]; omega
theorem nodesOks_sub {a b : List Tm} (h : a.Sublist b) (hb : nodesOks b = true) : nodesOks a = true := by
 induction h with
 | slnil => rfl
 | cons x _ ih => simp only [nodesOks, Bool.and_eq_true] at hb; exact ih hb.2
 | cons_cons x _ ih => simp only [nodesOks, Bool.and_eq_true] at hb ⊢; exact ⟨hb.1, ih hb.2⟩
theorem occ_of_mem {l : List Tm} {v : Int} (h : v ∈ occ l) : ∃ t ∈ l, v ∈ occ [t] := by
 induction l with
 | nil => rw [occ_nil] at h; simp at h
 | cons t r ih =>
  rw [occ_cons, List.mem_append] at h
  rcases h with h | h
  ·exact ⟨t, by simp, h⟩
  ·obtain ⟨x, hx, hv⟩ := ih h
   exact ⟨x, by simp [hx], hv⟩
theorem occ_sublist {a b : List Tm} (h : a.Sublist b) {v : Int} (hv : v ∈ occ a) : v ∈ occ b := by
 obtain ⟨t, ht, hv⟩ := occ_of_mem hv
 exact occ_mem (h.subset ht) hv
theorem nodup_len : ∀ {a b : List Int}, a.Nodup -> (∀ x ∈ a, x ∈ b) -> a.length <= b.length
 | [], _, _, _ => Nat.zero_le _
 | x :: r, b, hn, h => by
  obtain ⟨h1, h2⟩ := List.nodup_cons.1 hn
  have hx := h x (by simp)
  have := nodup_len h2 (b := b.erase x) fun y hy => by
   have hyx : y ≠ x := fun e => h1 (e ▸ hy)
   exact (List.mem_erase_of_ne hyx).2 (h y (by simp [hy]))
  rw [List.length_erase_of_mem hx] at this
  have := List.length_pos_of_mem hx
  simp only [List.length_cons]; omega
theorem shaped_less {c d : Cl} {ar : Int} (h : c.shaped ar = true) (hm : d.mark = c.mark) (hh : d.head = c.head) (hg : d.guard.Sublist c.guard) (hb : d.body.Sublist c.body) : d.shaped ar = true := by
 have hp : d.parts.Sublist c.parts := by
  rw [Cl.parts, Cl.parts, hh]
  exact (List.Sublist.refl _).append (hg.append hb)
 simp only [Cl.shaped, Bool.and_eq_true] at h ⊢
 obtain ⟨h1, h2, h3, h4, h5, h6, h7⟩ := h
 have lg := hg.length_le
 have lb := hb.length_le
 refine ⟨?_, ?_, ?_, ?_, ?_, ?_, ?_⟩
 ·simp only [Cl.bad, hm, hh, Bool.not_eq_true', Bool.or_eq_false_iff, decide_eq_false_iff_not] at h1 ⊢
  exact ⟨h1.1, h1.2.1, h1.2.2.1, by omega, by omega⟩
 ·simp only [termsOk, Bool.and_eq_true, decide_eq_true_eq] at h2 ⊢
  have := sizes_sub_le hp
  have := deeps_sub_le hp
  exact ⟨nodesOks_sub hp h2.1, by omega, by omega⟩
 ·have := sizes_sub_le hp
  simp only [Bool.not_eq_true', decide_eq_false_iff_not] at h3 ⊢; omega
 ·have := nodup_len (varsOf_nodup d.parts) (b := varsOf c.parts) fun x hx => mem_varsOf.2 (occ_sublist hp (mem_varsOf.1 hx))
  simp only [decide_eq_true_eq] at h4 ⊢; omega
 ·rw [hh]
  simp only [Bool.not_eq_true', List.any_eq_false] at h5 ⊢
  exact fun x hx => h5 x (mem_varsOf.2 (occ_sublist hg (mem_varsOf.1 hx)))
 ·simp only [Bool.not_eq_true', List.any_eq_false] at h6 ⊢
  exact fun x hx => h6 x (hg.subset hx)
 ·simp only [Bool.not_eq_true', List.any_eq_false] at h7 ⊢
  exact fun x hx => h7 x (hb.subset hx)
end Go.Rip
namespace Go.Rip
open Go Go.Proofs
variable {GL : Glob}
attribute [local irreducible] Pure
def Adds (C : Calling) (f : FuncId) (args : List AV) (h : List AObj) (v : AV) : Prop := Gives C f args h fun x h' => x = v /\ Keep All h h'
theorem cS {C : Calling} (hC : C.Mono) {f : FuncId} {args : List AV} {h : List AObj} {v : AV} (hp : Adds C f args h v) {R : ARes -> List AObj -> Prop} (hR : ∀ h', Keep All h h' -> R (.val v) h') : C (.fn f) args h R :=
 aH hC hp fun x h' e => by rw [e.1]; exact hR h' e.2
theorem h291K (l : List Sym) (f : FuncId) (cap : List AV) (p : Sym -> Bool) (h0 : List AObj) (hl : l.length < 2 ^ 47) (hf : ∀ x ∈ l, ∀ h, Keep All h0 h -> Adds (PC GL) f (encSym x :: cap) h (.b (p x))) (h : List AObj) (hk : Keep All h0 h) :
  Adds (PC GL) 291 [.sl 2 (l.map encSym), .fn (.func f) [] cap] h (.i (idxF p l)) := by
 refine k291.gives (by simp) ?_
 simp -implicitDefEqProofs only [go_sem, c291, r291]
 refine bB hC (fun j _ => [(8, .i j), (7, .i l.length), (0, .sl 2 (l.map encSym)), (1, .fn (.func f) [] cap)]) (fun j (_ : Unit) h' => (l.take j).any p = false /\ Keep All h h') l.length ?_ ?_
 ·exact ⟨(), h, Wk.pick (Nat.le_refl _) (by simp [go_sem]), rfl, Keep.refl _ _⟩
 ·rintro j - h1 hj ⟨hI, hk1⟩
  simp -implicitDefEqProofs only [go_sem]
  refine aJ (fun hlt => ?_) (fun hlt => ?_)
  ·have hlt := aM hlt
   have g1 := any_snoc hlt p
   have w5 : IntKind.i64.wrap ((j : Int) + 1) = (j : Int) + 1 := aD _ (by omega)
   have hx := hf _ (List.getElem_mem hlt) h1 (hk.trans hk1)
   simp -implicitDefEqProofs only [go_sem, hlt, aW, encSym]
   simp only [encSym] at hx
   refine cS hC hx fun h2 hk2 => ?_
   simp -implicitDefEqProofs only [go_sem]
   refine aJ (fun hx => ?_) (fun hx => ?_)
   ·simp -implicitDefEqProofs only [go_sem, hx]
    exact aK (hk1.trans hk2).1 ⟨by rw [idxF_hit hlt hI hx], hk1.trans hk2⟩
   ·simp -implicitDefEqProofs only [go_sem, hx]
    exact ⟨(), h2, Wk.pick (hk1.trans hk2).1 (by simp [go_sem, w5]), by rw [g1, hI, hx]; rfl, hk1.trans hk2⟩
  ·have hge := aN hlt
   rw [aV hge] at hI
   simp -implicitDefEqProofs only [go_sem, hlt]
   exact aK hk1.1 ⟨by rw [idxF_none hI], hk1⟩
theorem h254K (l : List Sym) (f : FuncId) (cap : List AV) (p : Sym -> Bool) (h0 : List AObj) (hl : l.length < 2 ^ 47) (hf : ∀ x ∈ l, ∀ h, Keep All h0 h -> Adds (PC GL) f (encSym x :: cap) h (.b (p x))) (h : List AObj) (hk : Keep All h0 h) :
  Adds (PC GL) 254 [.sl 2 (l.map encSym), .fn (.func f) [] cap] h (.b (l.any p)) := by
 refine k254.gives (by simp) ?_
 simp -implicitDefEqProofs only [go_sem, c254, r254]
 refine cS hC (h291K l f cap p h0 hl hf h hk) fun h1 hk1 => ?_
 simp -implicitDefEqProofs only [go_sem, idxF_ge]
 exact aK hk1.1 ⟨rfl, hk1⟩
def Tm.callee (t : Tm) : Option Sym := if t.goal.1 == 1 then some t.goal.2.2.sym else none
def calledS (l : List Tm) : List Sym := l.filterMap Tm.callee
theorem calledS_len (l : List Tm) : (calledS l).length <= l.length := List.length_filterMap_le _ _
theorem calledS_snoc {l : List Tm} {j : Nat} (h : j < l.length) : calledS (l.take (j + 1)) = calledS (l.take j) ++ (match l[j].callee with | some s => [s] | none => []) := by
 rw [bH h, calledS, List.filterMap_append, calledS]
 congr 1
 cases hc : l[j].callee <;> simp [hc]
theorem h226 (l : List Tm) (hl : l.length < 2 ^ 40) : Pure (PC GL) 226 [.sl 4 (l.map enc)] (.sl 2 ((calledS l).map encSym)) := by
 refine k226.pure (by simp) (by simp [go_sem]) (by simp [go_sem]) ?_
 simp -implicitDefEqProofs only [go_sem, c226, r226]
 refine bB hC (fun j a => [(13, .i j), (11, .sl 4 (l.map enc)), (12, .i l.length), (3, .own a 2 ((calledS (l.take j)).map encSym))]) (fun _ a h => h[a]? = some (.spare 26 2)) l.length ?_ fun j a h hj ha => ?_
 ·refine ⟨0, [.spare 26 2], (Wk.own_nil (h := []) 26 2 3 (by simp [go_sem]) (Nat.zero_le _)).trans (Wk.pick (Nat.zero_le _) ?_), rfl⟩
  simp [go_sem, calledS]
 ·have g1 := calledS_len (l.take j)
  have g2 : (l.take j).length <= l.length := by simp; omega
  have ha' := fun l => aG (l := l) ha
  simp -implicitDefEqProofs only [go_sem]
  refine aJ (fun hlt => ?_) (fun hlt => ?_)
  ·have hlt := aM hlt
   have w5 : IntKind.i64.wrap ((j : Int) + 1) = (j : Int) + 1 := aD _ (by omega)
   have q96 := h96 (GL := GL) l[j]
   simp only [encG] at q96
   have q234 := h234 (GL := GL) l[j].goal.2.2
   have hs := calledS_snoc hlt
   simp -implicitDefEqProofs only [go_sem, hlt, aW]
   refine aC hC q96 ?_
   simp -implicitDefEqProofs only [go_sem, aE, aU, List.append_assoc]
   refine aJ (fun hx => ?_) (fun hx => ?_)
   ·have e : l[j].callee = some l[j].goal.2.2.sym := by simp only [Tm.callee, hx, if_true]
    rw [e] at hs
    dsimp only at hs
    simp -implicitDefEqProofs only [go_sem, hx, aE]
    refine aC hC q234 ?_
    simp -implicitDefEqProofs only [go_sem, aE, aU, List.append_assoc, encSym, ha']
    refine ⟨by simp only [List.length_cons, List.length_nil]; omega, ?_⟩
    refine ⟨h.length + 4, _, Wk.pick (Nat.zero_le _) (by simp [go_sem, w5, hs, encSym]), ?_⟩
    rw [get_ge (by simp)]; simp
   ·have e : l[j].callee = none := by simp only [Tm.callee, hx]; rfl
    rw [e, List.append_nil] at hs
    simp -implicitDefEqProofs only [go_sem, hx]
    exact ⟨a, _, Wk.pick (Nat.zero_le _) (by simp [go_sem, w5, hs]), ha' _⟩
  ·have hge := aN hlt
   simp -implicitDefEqProofs only [go_sem, hlt, aV hge]
   refine aF ?_ (by simp [go_sem])
   simp [go_sem]
def findS (s : Sym) (l : List Sym) : Int := match idxS s l with
 | some i => i
 | none => -1
theorem idxS_mem (s : Sym) (l : List Sym) : (idxS s l).isSome = decide (s ∈ l) := by
 by_cases h : s ∈ l
 ·obtain ⟨i, h1, -⟩ := idxS_some h
  simp [h, h1]
 ·simp [h, idxS_none h]
def encIx (n : Nat) : List AV := (List.range n).map fun (i : Nat) => AV.i (i : Int)
theorem idx_get {s : Sym} {l : List Sym} {i : Nat} (h : idxS s l = some i) : i < l.length := by
 have : s ∈ l := by
  have := idxS_mem s l
  rw [h] at this
  simpa using this.symm
 obtain ⟨j, h1, h2⟩ := idxS_some this
 rw [h] at h1; cases h1; exact h2
def tabV (k : Nat) : AV := .agg [.mp k, .v (.map none)]
def tabO (l : List Sym) : AObj := .map (l.map encSym) (encIx l.length)
theorem h142 (l : List Sym) (s : Sym) (k : Nat) (h : List AObj) (hk : h[k]? = some (tabO l)) : Adds (PC GL) 142 [tabV k, encSym s] h (.tup [.i (findS s l), .b (decide (s ∈ l))]) := by
 rw [tabO] at hk
 have hk' := fun l' => aG (l := l') hk
 have hm := idxS_mem s l
 obtain ⟨a, n⟩ := s
 refine k142.gives (by simp) ?_
 simp -implicitDefEqProofs only [go_sem, c142, r142, tabV, encSym, aE, List.append_assoc, hk', find_sym']
 rcases hi : idxS ⟨a, n⟩ l with _ | i
 ·rw [hi] at hm
  refine aK (by simp) ⟨?_, Keep.app _ _ _⟩
  rw [<- hm, findS, hi]; rfl
 ·rw [hi] at hm
  have hlt := idx_get hi
  have e : (encIx l.length).getD i .any = .i i := by simp [encIx, List.getD, hlt]
  refine aK (by simp) ⟨?_, Keep.app _ _ _⟩
  rw [<- hm, findS, hi, e]; rfl
theorem h255 (l : List Sym) (s : Sym) (k b : Nat) (h : List AObj) (hk : h[k]? = some (tabO l)) (hb : h[b]? = some (.cells 151 [.mp k, .v (.map none)])) : Adds (PC GL) 255 [encSym s, .ref b 0] h (.b (!decide (s ∈ l))) := by
 have hb' := fun l' => aG (l := l') hb
 have q := h142 (GL := GL) l s k (h ++ [.cells 26 (encSym s).cells]) (aG hk)
 obtain ⟨a, n⟩ := s
 simp only [encSym, tabV, AV.cells] at q
 refine k255.gives (by simp) ?_
 simp -implicitDefEqProofs only [go_sem, c255, r255, encSym, hb']
 refine cS hC q fun h1 hk1 => ?_
 simp -implicitDefEqProofs only [go_sem]
 exact aK hk1.left.1 ⟨rfl, hk1.left⟩
def okOpt (p : Sym -> Bool) : Option Sym -> Bool
 | some s => p s
 | none => true
theorem called_all (l : List Tm) (p : Sym -> Bool) : (!(calledS l).any fun s => !p s) = l.all fun t => okOpt p t.callee := by
 rw [List.not_any_eq_all_not]
 induction l with
 | nil => rfl
 | cons t r ih =>
  simp only [calledS, List.filterMap_cons, List.all_cons] at ih ⊢
  cases t.callee with
  | none => simpa [okOpt] using ih
  | some s =>
   simp only [List.all_cons, Bool.not_not, okOpt] at ih ⊢
   rw [ih]
def okCalls (l more : List Sym) (goals : List Tm) : Bool := goals.all fun t => okOpt (fun s => decide (s ∈ l) || decide (s ∈ more)) t.callee
theorem okCalls_nil (l : List Sym) (goals : List Tm) : okCalls l [] goals = !(calledS goals).any fun s => !decide (s ∈ l) := by
 rw [called_all goals fun s => decide (s ∈ l), okCalls]
 congr 1
 funext t
 cases t.callee <;> simp [okOpt]
theorem h220 (l : List Sym) (goals : List Tm) (k : Nat) (h : List AObj) (hl : goals.length < 2 ^ 40) (hk : h[k]? = some (tabO l)) : Adds (PC GL) 220 [tabV k, .sl 4 (goals.map enc)] h (.b (okCalls l [] goals)) := by
 rw [okCalls_nil]
 have hn := calledS_len goals
 have q226 := h226 (GL := GL) goals hl
 have q254 := h254K (GL := GL) (calledS goals) 255 [.ref h.length 0] (fun s => !decide (s ∈ l)) (h ++ [.cells 151 [.mp k, .v (.map none)]]) (by omega)
  (fun s _ h' hk' => h255 l s k h.length h' (hk'.got (aG hk)) (hk'.got (by simp))) _ (Keep.refl _ _)
 simp only [tabV]
 refine k220.gives (by simp) ?_
 simp -implicitDefEqProofs only [go_sem, c220, r220]
 refine aC hC q226 ?_
 simp -implicitDefEqProofs only [go_sem]
 refine cS hC q254 fun h1 hk1 => ?_
 simp -implicitDefEqProofs only [go_sem]
 exact aK hk1.left.1 ⟨rfl, hk1.left⟩
def Pr.sym (q : Pr) : Sym := ⟨q.name, q.arity⟩
def Pr.head (seen : List Sym) (q : Pr) : Bool := !decide (q.sym ∈ seen) && (nameOk q.name && (!decide (q.arity < 0) && (!decide (q.arity > 16) && (!q.sym.res && !decide ((q.clauses.length : Int) > 32)))))
def headsOk : List Sym -> List Pr -> Bool
 | _, [] => true
 | seen, q :: r => q.head seen && headsOk (seen ++ [q.sym]) r
def Pg.syms (p : Pg) : List Sym := p.procs.map Pr.sym
theorem headsOk_app (seen : List Sym) : ∀ (a b : List Pr), headsOk seen (a ++ b) = (headsOk seen a && headsOk (seen ++ a.map Pr.sym) b)
 | [], b => by simp [headsOk]
 | q :: r, b => by simp only [List.cons_append, headsOk, headsOk_app (seen ++ [q.sym]) r b, Bool.and_assoc, List.map_cons, List.append_assoc, List.cons_append, List.nil_append]
theorem headsOk_snoc {l : List Pr} {j : Nat} (h : j < l.length) : headsOk [] (l.take (j + 1)) = (headsOk [] (l.take j) && l[j].head ((l.take j).map Pr.sym)) := by
 rw [bH h, headsOk_app]; simp [headsOk]
theorem headsOk_stop {l : List Pr} {j : Nat} (h : headsOk [] (l.take j) = false) : headsOk [] l = false := by
 have : l = l.take j ++ l.drop j := (List.take_append_drop j l).symm
 rw [this, headsOk_app, h]; rfl
def Pg.tabled (p : Pg) : Bool := !decide ((p.procs.length : Int) > 64) && headsOk [] p.procs
theorem tabO_snoc (l : List Sym) (s : Sym) : AObj.map (l.map encSym ++ [encSym s]) (encIx l.length ++ [.i l.length]) = tabO (l ++ [s]) := by
 simp [tabO, encIx, List.range_succ]
theorem h197 (p : Pg) (hl : p.procs.length < 2 ^ 40) (hn : ∀ q ∈ p.procs, q.name.length < 2 ^ 30) (h : List AObj) :
  Gives (PC GL) 197 [encPg p] h fun x h' => ∃ k, x = .tup [tabV k, .b p.tabled] /\ Keep All h h' /\ (p.tabled = true -> h'[k]? = some (tabO p.syms)) := by
 have hall : Pg.tabled p = (!decide ((p.procs.length : Int) > 64) && headsOk [] p.procs) := rfl
 refine k197.gives (by simp) ?_
 simp -implicitDefEqProofs only [go_sem, c197, r197, encPg, aE, aU, List.append_assoc]
 refine aJ (fun h1 => ?_) (fun h1 => ?_)
 ·rw [h1] at hall
  simp -implicitDefEqProofs only [go_sem, h1, aE, aU]
  exact aK (by simp) ⟨h.length + 2, by rw [hall]; rfl, Keep.app _ _ _, fun e => by rw [hall] at e; cases e⟩
 ·rw [h1] at hall
  simp -implicitDefEqProofs only [go_sem, h1]
  refine bB hC (fun j _ => [(20, .i j), (18, .sl 3 (p.procs.map encPr)), (19, .i p.procs.length), (2, .ref (h.length + 1) 0), (4, .ref (h.length + 3) 0)])
   (fun j (_ : Unit) h' => headsOk [] (p.procs.take j) = true /\ Keep All h h' /\ h'[h.length + 1]? = some (.cells 151 [.v (.map none), .v (.map none)]) /\ h'[h.length + 2]? = some (tabO ((p.procs.take j).map Pr.sym)) /\ h'[h.length + 3]? = some (.cells 151 [.mp (h.length + 2), .v (.map none)])) p.procs.length ?_ ?_
  ·exact ⟨(), _, Wk.pick (by simp) (by simp [go_sem]), rfl, Keep.app _ _ _, aE h _ 1, aE h _ 2, aE h _ 3⟩
  ·rintro j - h2 hj ⟨hI, hk, o1, o2, o3⟩
   have o1' := fun l => aG (l := l) o1
   have o2' := fun l => aG (l := l) o2
   have o3' := fun l => aG (l := l) o3
   simp only [tabO] at o2'
   simp -implicitDefEqProofs only [go_sem]
   refine aJ (fun hlt => ?_) (fun hlt => ?_)
   ·have hlt := aM hlt
    have w5 : IntKind.i64.wrap ((j : Int) + 1) = (j : Int) + 1 := aD _ (by omega)
    have hs := headsOk_snoc hlt
    have q229 := h229 (GL := GL) p.procs[j].name (hn _ (List.getElem_mem hlt))
    have q25 := h25 (GL := GL) p.procs[j].sym
    have hm := idxS_mem p.procs[j].sym ((p.procs.take j).map Pr.sym)
    have fin0 : p.procs[j].head ((p.procs.take j).map Pr.sym) = false -> p.tabled = false := fun e => by
     rw [hall, Bool.not_false, Bool.true_and]
     exact headsOk_stop (j := j + 1) (by rw [hs, hI, e]; rfl)
    simp only [Pr.sym] at q25 hm
    simp -implicitDefEqProofs only [go_sem, hlt, aW, encPr, aE, aU, List.append_assoc, o1', o2', o3', find_sym']
    have s1' := fun o l => aR (l := l) o1 o
    have s2' := fun o l => aR (l := l) o2 o
    have e1' : ∀ o l, (h2.set (h.length + 1) o ++ l)[h.length + 1]? = some o := fun o l => by rw [List.getElem?_append_left (by simpa using aQ o1)]; exact aL o1
    have k1' : ∀ o l, Keep All h (h2.set (h.length + 1) o ++ l) := fun o l => hk.trans' (K' := fun i _ => i = h.length + 1) ((Keep.set o o1 rfl).trans (Keep.app _ _ _)) fun i o' hi e => by have := aQ hi; omega
    have k2' : ∀ o l, Keep All h (h2.set (h.length + 2) o ++ l) := fun o l => hk.trans' (K' := fun i _ => i = h.length + 2) ((Keep.set o o2 rfl).trans (Keep.app _ _ _)) fun i o' hi e => by have := aQ hi; omega
    have bad : p.procs[j].head ((p.procs.take j).map Pr.sym) = false -> ∀ o l, ∃ y h', Wk GL h.length [(0, .tup [.agg [.mp (h.length + 2), .v (.map none)], .v (.bool false)])] (h2.set (h.length + 1) o ++ l) [(0, y)] h' /\ ∃ x, ARes.val y = ARes.val x /\ ∃ k, x = .tup [tabV k, .b p.tabled] /\ Keep All h h' /\ (p.tabled = true -> h'[k]? = some (tabO p.syms)) :=
     fun e o l => aK (k1' o l).1 ⟨h.length + 2, by rw [fin0 e]; rfl, k1' o l, fun e' => by rw [fin0 e] at e'; cases e'⟩
    have ok : p.procs[j].head ((p.procs.take j).map Pr.sym) = true -> headsOk [] (p.procs.take (j + 1)) = true := fun e => by rw [hs, hI, e]; rfl
    clear fin0 hs hall
    rcases hi : idxS ⟨p.procs[j].name, p.procs[j].arity⟩ ((p.procs.take j).map Pr.sym) with _ | i
    ·rw [hi] at hm
     simp only [encSym] at q25
     repeat' (first | simp -implicitDefEqProofs only [go_sem, *, aE, find_sym'] | with_reducible refine aZ (fun _ => ?_) (fun _ => ?_) | with_reducible refine bA (fun _ => ?_) (fun _ => ?_) | with_reducible refine aJ (fun _ => ?_) (fun _ => ?_) | with_reducible refine aF ?_ ?_ | ((with_reducible apply aC hC); (exact q229)) | ((with_reducible apply aC hC); (exact q25)) | ((with_reducible refine And.intro ?bnd ?_); (case bnd => decide)) | fail)
     all_goals first
      | (refine bad ?_ _ _; simp_all [Pr.head, Pr.sym]; done)
      | (exfalso; clear ok bad k1' k2' e1' s1' s2' o1' o2' o3' hk; simp_all; done)
      | skip
     refine ⟨(), _, Wk.pick (k2' _ _).1 (by simp [go_sem]), ok ?_, k2' _ _, ?_, ?_, ?_⟩
     ·clear ok bad k1' k2' e1' s1' s2' o1' o2' o3' hk
      simp_all [Pr.head, Pr.sym]
     ·rw [List.getElem?_append_left (by simpa using aQ o1), aT (by omega)]; exact o1
     ·rw [List.getElem?_append_left (by simpa using aQ o2), aL o2, bH hlt, List.map_append]
      have := tabO_snoc ((p.procs.take j).map Pr.sym) p.procs[j].sym
      have hj' : min j p.procs.length = j := by omega
      simp only [List.length_map, List.length_take, hj', List.map_cons, List.map_nil] at this ⊢
      rw [<- this]; rfl
     ·rw [List.getElem?_append_left (by simpa using aQ o3), aT (by omega)]; exact o3
    ·rw [hi] at hm
     have hlt' := idx_get hi
     have e : (encIx ((p.procs.take j).map Pr.sym).length).getD i .any = .i i := by rw [encIx, List.getD, List.getElem?_map, List.getElem?_range hlt']; rfl
     repeat' (first | simp -implicitDefEqProofs only [go_sem, *] | with_reducible refine aZ (fun _ => ?_) (fun _ => ?_) | with_reducible refine bA (fun _ => ?_) (fun _ => ?_) | with_reducible refine aJ (fun _ => ?_) (fun _ => ?_) | with_reducible refine aF ?_ ?_ | ((with_reducible apply aC hC); (exact q229)) | ((with_reducible apply aC hC); (exact q25)) | ((with_reducible refine And.intro ?bnd ?_); (case bnd => decide)) | fail)
     refine bad ?_ _ _
     simp only [Pr.head, Pr.sym, <- hm]; rfl
   ·have hge := aN hlt
    rw [aV hge] at hI o2
    have s1' := fun o l => aR (l := l) o1 o
    have e1' : ∀ o, (h2.set (h.length + 1) o)[h.length + 1]? = some o := fun o => aL o1
    have k1' : ∀ o, Keep All h (h2.set (h.length + 1) o) := fun o => hk.trans' (K' := fun i _ => i = h.length + 1) (Keep.set o o1 rfl) fun i o' hi e => by have := aQ hi; omega
    have e2' : ∀ o, (h2.set (h.length + 1) o)[h.length + 2]? = some (tabO (p.procs.map Pr.sym)) := fun o => by rw [aT (by omega)]; exact o2
    simp -implicitDefEqProofs only [go_sem, hlt, o3, o1, e1']
    exact aK (k1' _).1 ⟨h.length + 2, by rw [hall, hI]; rfl, k1' _, fun _ => e2' _⟩
def okClauses (l more : List Sym) (q : Pr) : Bool := q.clauses.all fun c => c.ok q.arity && okCalls l more c.body
structure Pg.fits (p : Pg) : Prop where
 l : p.procs.length < 2 ^ 40
 n : ∀ q ∈ p.procs, q.name.length < 2 ^ 30
 c : ∀ q ∈ p.procs, q.clauses.length < 2 ^ 40
 t : ∀ q ∈ p.procs, ∀ c ∈ q.clauses, sizes c.parts < 2 ^ 30 /\ strss c.parts
theorem body_len (c : Cl) : c.body.length <= sizes c.parts := by
 have := aX c.body
 simp only [Cl.parts, dD]; omega
theorem h198 (p : Pg) (hp : p.fits) (l : List Sym) (k : Nat) (h : List AObj) (hk : h[k]? = some (tabO l)) : Adds (PC GLs) 198 [tabV k, encPg p] h (.b (p.procs.all (okClauses l []))) := by
 have h4 := hp.l
 refine k198.gives (by simp) ?_
 simp -implicitDefEqProofs only [go_sem, c198, r198, encPg, tabV, aE, List.append_assoc]
 refine bB hC (fun i _ => [(12, .i i), (10, .sl 3 (p.procs.map encPr)), (11, .i p.procs.length), (2, .ref h.length 0)])
  (fun i (_ : Unit) h' => (p.procs.take i).all (okClauses l []) = true /\ Keep All h h' /\ h'[h.length]? = some (.cells 151 [.mp k, .v (.map none)])) p.procs.length ?_ ?_
 ·exact ⟨(), _, Wk.pick (by simp) (by simp [go_sem]), rfl, Keep.app _ _ _, by rw [get_at]; rfl⟩
 ·rintro i - h2 hi ⟨hI, hk2, o1⟩
  simp -implicitDefEqProofs only [go_sem]
  refine aJ (fun hlt => ?_) (fun hlt => ?_)
  ·have hlt := aM hlt
   have w5 : IntKind.i64.wrap ((i : Int) + 1) = (i : Int) + 1 := aD _ (by omega)
   have hm := List.getElem_mem hlt
   have hcl := hp.c _ hm
   have hct := hp.t _ hm
   generalize hq : p.procs[i] = q at *
   simp -implicitDefEqProofs only [go_sem, hlt, aW, hq, encPr]
   refine bB hC (fun j _ => [(19, .i j), (17, .sl 5 (q.clauses.map encCl)), (18, .i q.clauses.length), (6, .ref h2.length 0), (2, .ref h.length 0), (12, .i i), (10, .sl 3 (p.procs.map encPr)), (11, .i p.procs.length)])
    (fun j (_ : Unit) h' => (q.clauses.take j).all (fun c => c.ok q.arity && okCalls l [] c.body) = true /\ Keep All h h' /\ h'[h.length]? = some (.cells 151 [.mp k, .v (.map none)]) /\ h'[h2.length]? = some (.cells 60 [.str q.name, .i q.arity, .sl 5 (q.clauses.map encCl)])) q.clauses.length ?_ ?_
   ·exact ⟨(), _, Wk.pick (by have := hk2.1; simp; omega) (by simp [go_sem]), rfl, hk2.trans (Keep.app _ _ _), aG o1, by rw [get_at]; rfl⟩
   ·rintro j - h3 hj ⟨hJ, hk3, o3, o4⟩
    have o3' := fun l => aG (l := l) o3
    have o4' := fun l => aG (l := l) o4
    simp -implicitDefEqProofs only [go_sem]
    refine aJ (fun hlt2 => ?_) (fun hlt2 => ?_)
    ·have hlt2 := aM hlt2
     have w6 : IntKind.i64.wrap ((j : Int) + 1) = (j : Int) + 1 := aD _ (by omega)
     have hm2 := List.getElem_mem hlt2
     have hs := hct _ hm2
     have hbl := body_len q.clauses[j]
     have q143 := h143 q.clauses[j] q.arity hs.1 hs.2
     have hall : (q.clauses[j].ok q.arity && okCalls l [] q.clauses[j].body) = false -> p.procs.all (okClauses l []) = false := fun e =>
      List.all_eq_false.2 ⟨q, hm, by simp only [okClauses, Bool.not_eq_true]; exact List.all_eq_false.2 ⟨_, hm2, by simp [e]⟩⟩
     simp only [encCl] at q143
     simp -implicitDefEqProofs only [go_sem, hlt2, aW, encCl, o4']
     refine aC hC q143 ?_
     have q220 := fun h' (hk' : Keep All h h') => h220 (GL := GLs) l q.clauses[j].body k h' (by omega) (hk'.got hk)
     simp only [tabV] at q220
     rcases hok : q.clauses[j].ok q.arity with _ | _
     ·have e := hall (by rw [hok]; rfl)
      simp -implicitDefEqProofs only [go_sem]
      exact aK (by have := hk3.1; simp; omega) ⟨by rw [e], hk3.trans (Keep.app _ _ _)⟩
     ·simp -implicitDefEqProofs only [go_sem, Bool.not_true, o3']
      refine cS hC (q220 _ (hk3.trans (Keep.app _ _ _))) fun h5 hk5 => ?_
      have hk6 := hk3.trans hk5.left
      rcases hoc : okCalls l [] q.clauses[j].body with _ | _
      ·have e := hall (by rw [hok, hoc]; rfl)
       simp -implicitDefEqProofs only [go_sem, Bool.not_false]
       exact aK hk6.1 ⟨by rw [e], hk6⟩
      ·simp -implicitDefEqProofs only [go_sem, Bool.not_true]
       exact ⟨(), h5, Wk.pick hk6.1 (by simp [go_sem, w6]), by rw [all_snoc hlt2, hJ, hok, hoc]; rfl, hk6, hk5.got (o3' _), hk5.got (o4' _)⟩
    ·have hge2 := aN hlt2
     rw [aV hge2] at hJ
     simp -implicitDefEqProofs only [go_sem, hlt2]
     exact ⟨(), h3, Wk.pick hk3.1 (by simp [go_sem, w5]), by rw [all_snoc hlt, hI, hq, okClauses, hJ]; rfl, hk3, o3⟩
  ·have hge := aN hlt
   rw [aV hge] at hI
   simp -implicitDefEqProofs only [go_sem, hlt]
   exact aK hk2.1 ⟨by rw [hI], hk2⟩
def Pg.ok (p : Pg) : Bool := p.tabled && p.procs.all (okClauses p.syms [])
def okE (b : Bool) : Int := if b then 0 else 5
theorem h116 (p : Pg) (hp : p.fits) (h : List AObj) : Gives (PC GLs) 116 [encPg p] h fun x h' => ∃ y, x = .tup [y, .i (okE p.ok)] /\ Keep All h h' /\
  ((p.ok = true /\ ∃ k, y = .agg [.sl 3 (p.procs.map encPr), .mp k, .v (.map none)] /\ h'[k]? = some (tabO p.syms)) ∨ (p.ok = false /\ y = .agg [.v (.slice none 0 0), .v (.map none), .v (.map none)])) := by
 have q197 := fun h' => h197 (GL := GLs) p hp.l hp.n h'
 have q198 := fun k h' (hk : h'[k]? = some (tabO p.syms)) => h198 p hp p.syms k h' hk
 have hok : p.ok = (p.tabled && p.procs.all (okClauses p.syms [])) := rfl
 simp only [encPg] at q197 q198
 refine k116.gives (by simp) ?_
 simp -implicitDefEqProofs only [go_sem, c116, r116, encPg, List.append_assoc]
 refine aH hC (q197 _) fun x h1 ⟨k, hx, hk1, hkt⟩ => ?_
 subst hx
 have o1 := hk1.got (i := h.length) (by rw [get_at]; rfl)
 have o2 := hk1.got (i := h.length + 1) (aE h _ 1)
 have o1_g := fun l => aG (l := l) o1
 have o1_s := fun o l => aR (l := l) o1 o
 have o1_e := fun o l => aS (o := o) (l := l) o1
 have o1_h := fun o => aL (o := o) o1
 have o2_g := fun l => aG (l := l) o2
 have o2_s := fun o l => aR (l := l) o2 o
 have o2_e := fun o l => aS (o := o) (l := l) o2
 have o2_h := fun o => aL (o := o) o2
 have hk0 : Keep All h h1 := hk1.left
 have bad : p.ok = false -> ∀ (h3 l : List AObj) o o', Keep All h h3 -> h3[h.length + 1]? = some o' -> ∃ y h', Wk GLs h.length [(0, .tup [.agg [.v (.slice none 0 0), .v (.map none), .v (.map none)], .v (.int .i64 5)])] (h3.set (h.length + 1) o ++ l) [(0, y)] h' /\
   ∃ x, ARes.val y = ARes.val x /\ ∃ y, x = .tup [y, .i (okE p.ok)] /\ Keep All h h' /\ ((p.ok = true /\ ∃ k, y = .agg [.sl 3 (p.procs.map encPr), .mp k, .v (.map none)] /\ h'[k]? = some (tabO p.syms)) ∨ (p.ok = false /\ y = .agg [.v (.slice none 0 0), .v (.map none), .v (.map none)])) :=
  fun e h3 l o o' e1 e2 => by
   have kf := (e1.turn o e2 (Nat.le_add_right _ _)).trans (Keep.app All _ l)
   exact aK kf.1 ⟨_, by rw [e]; rfl, kf, .inr ⟨e, rfl⟩⟩
 rcases ht : p.tabled with _ | _
 ·have e := hok
  rw [ht, Bool.false_and] at e
  simp -implicitDefEqProofs only [go_sem, tabV, o2_g, o2_s, o2_e, Bool.not_false]
  exact bad e h1 _ _ _ hk0 o2
 ·rw [ht, Bool.true_and] at hok
  have o3 := hkt ht
  simp -implicitDefEqProofs only [go_sem, tabV, o1_g, Bool.not_true]
  have q := q198 k (h1 ++ [.cells 151 [.mp k, .v (.map none)]]) (aG o3)
  simp only [tabV] at q
  refine cS hC q fun h2 hk2 => ?_
  have o4 := hk2.got (o1_g _)
  have o5 := hk2.got (o2_g _)
  have o6 := hk2.got (i := h1.length) (by rw [get_at]; rfl)
  have hk3 := hk0.trans hk2.left
  have o4_g := fun l => aG (l := l) o4
  have o4_s := fun o l => aR (l := l) o4 o
  have o4_e := fun o l => aS (o := o) (l := l) o4
  have o4_h := fun o => aL (o := o) o4
  have o5_g := fun l => aG (l := l) o5
  have o5_s := fun o l => aR (l := l) o5 o
  have o5_e := fun o l => aS (o := o) (l := l) o5
  have o5_h := fun o => aL (o := o) o5
  have o6_g := fun l => aG (l := l) o6
  have o6_s := fun o l => aR (l := l) o6 o
  have o6_e := fun o l => aS (o := o) (l := l) o6
  have o6_h := fun o => aL (o := o) o6
  rcases hs : p.procs.all (okClauses p.syms []) with _ | _
  ·rw [hs] at hok
   simp -implicitDefEqProofs only [go_sem, o5, o5_h, Bool.not_false]
   have := bad hok h2 [] (.cells 153 [.v (.slice none 0 0), .v (.map none), .v (.map none)]) _ hk3 o5
   rwa [List.append_nil] at this
  ·rw [hs] at hok
   simp -implicitDefEqProofs only [go_sem, o4, o5, o5_h, o6, Bool.not_true]
   have kf := hk3.turn (.cells 153 [.sl 3 (p.procs.map encPr), .mp k, .v (.map none)]) o5 (Nat.le_add_right _ _)
   have hne : h.length + 1 ≠ k := by rintro rfl; rw [o2] at o3; cases o3
   exact aK kf.1 ⟨_, by rw [hok]; rfl, kf, .inl ⟨hok, k, rfl, by rw [aT hne]; exact hk2.got (aG o3)⟩⟩
theorem h32 (p : Pg) (hp : p.fits) : Pure (PC GLs) 32 [encPg p] (.i (okE p.ok)) := by
 have q := fun h => h116 p hp h
 simp only [encPg] at q
 refine k32.pure (by simp) (by simp [go_sem]) (by simp [go_sem]) ?_
 simp -implicitDefEqProofs only [go_sem, c32, r32, encPg]
 refine aH hC (q _) fun x h1 ⟨y, hx, hk1, hy⟩ => ?_
 subst hx
 rcases hy with ⟨hy, k, rfl, hk⟩ | ⟨hy, rfl⟩
 ·simp -implicitDefEqProofs only [go_sem]
  refine aF ?_ ?_ <;> simp [go_sem]
 ·simp -implicitDefEqProofs only [go_sem]
  refine aF ?_ ?_ <;> simp [go_sem]
def Qy.ok (q : Qy) : Bool := decide ((q.goals.length : Int) <= 16) && (termsOk q.goals && (decide ((sizes q.goals : Int) <= 400) && (decide (q.vars <= 64) && (normT q.goals q.vars && !(q.goals.any fun t => t.goal.1 == 0)))))
structure Qy.fits (q : Qy) : Prop where
 s : sizes q.goals < 2 ^ 30
 t : strss q.goals
theorem h94at (t : Tm) (ht : t.wid) (left deep : Int) (hl : 0 <= left /\ left < 2 ^ 40) (hd : 0 <= deep /\ deep < 2 ^ 40) (k : Nat) (h : List AObj) (hk : h[k]? = some (.cells 3 [.i left])) :
  PC GL (.fn 94) [enc t, .ref k 0, .i deep] h fun r h' => h' = h.set k (.cells 3 [.i (t.cnt left deep).2]) /\ r = .val (.b (t.cnt left deep).1) := by
 have := lift2 (h1 := cel left) (h2 := cel (t.cnt left deep).2) (by simp [bd]) (by simp [bds, bd, cel, go_sem]) cel_bd cel_bd rfl (h94 (GL := GL) t ht left deep hl hd) (fun _ => k) (H := h) (H2 := h.set k (.cells 3 [.i (t.cnt left deep).2])) ?_ ?_ (by simp) ?_ ?_
 ·simpa [rens, ren, ren_enc] using this
 ·intro i x hx
  cases i with
  | zero => simp [cel] at hx; subst hx; simpa [renO, rens, ren] using hk
  | succ i => simp [cel] at hx
 ·intro i x hx
  cases i with
  | zero => simp [cel] at hx; subst hx; simp [renO, rens, ren, aL hk]
  | succ i => simp [cel] at hx
 ·intro j hj
  rw [aT (hj 0 (by simp [cel]))]
 ·intro i j hi hj _
  simp [cel] at hi hj
  omega
structure Pr.small (q : Pr) : Prop where
 n : q.name.length <= 500
 c : q.clauses.length <= 120
 t : ∀ c ∈ q.clauses, sizes c.parts <= 5000 /\ strss c.parts
structure Pg.small (p : Pg) : Prop where
 l : p.procs.length <= 80
 q : ∀ q ∈ p.procs, q.small
theorem Pg.small.fits {p : Pg} (h : p.small) : p.fits :=
 ⟨by have := h.l; omega, fun q hq => by have := (h.q q hq).n; omega, fun q hq => by have := (h.q q hq).c; omega, fun q hq c hc => ⟨by have := ((h.q q hq).t c hc).1; omega, ((h.q q hq).t c hc).2⟩⟩
theorem h27 (p : Pg) (hw : p.wid) (h : List AObj) : Gives (PC GL) 27 [encPg p] h fun x h' => ∃ b, x = .b b /\ Keep All h h' /\ (b = true -> p.small) := by
 have hpl := hw.2
 refine k27.gives (by simp) ?_
 simp -implicitDefEqProofs only [go_sem, c27, r27, encPg, aE, aU, List.append_assoc]
 refine aJ (fun h1 => ?_) (fun h1 => ?_)
 ·simp -implicitDefEqProofs only [go_sem, h1]
  exact aK (by simp) ⟨false, rfl, Keep.app _ _ _, fun e => by cases e⟩
 have hl80 : p.procs.length <= 80 := by have := of_decide_eq_false h1; omega
 simp -implicitDefEqProofs only [go_sem, h1]
 refine bB hC (fun i (a : Int × Int) => [(20, .i i), (18, .sl 3 (p.procs.map encPr)), (19, .i p.procs.length), (3, .ref (h.length + 1) 0), (4, .i a.2)])
  (fun i (a : Int × Int) h' => (0 <= a.1 /\ a.1 <= 5000) /\ (0 <= a.2 /\ a.2 <= 120) /\ (∀ q ∈ p.procs.take i, q.small) /\ Keep All h h' /\ h'[h.length + 1]? = some (.cells 3 [.i a.1])) p.procs.length ?_ ?_
 ·exact ⟨(5000, 0), _, Wk.pick (by simp) (by simp [go_sem]), by simp, by simp, fun q hq => by simp at hq, Keep.app _ _ _, aE h _ 1⟩
 rintro i ⟨z, m⟩ h2 hi ⟨hz, hmm, hI, hk2, o1⟩
 simp -implicitDefEqProofs only [go_sem]
 refine aJ (fun hlt => ?_) (fun hlt => ?_)
 ·have hlt := aM hlt
  have w5 : IntKind.i64.wrap ((i : Int) + 1) = (i : Int) + 1 := aD _ (by omega)
  have hqw := hw.1 _ (List.getElem_mem hlt)
  have hti : p.procs.take (i + 1) = p.procs.take i ++ [p.procs[i]] := bH hlt
  generalize hq : p.procs[i] = q at *
  obtain ⟨n1, n2, n3⟩ := hqw
  have w6 : IntKind.i64.wrap (m + (q.clauses.length : Int)) = m + q.clauses.length := aD _ (by simp only at hmm; omega)
  have fin : ∀ h', Keep All h h' -> ∃ y h'', Wk GL h.length [(0, .v (.bool false))] h' [(0, y)] h'' /\ ∃ x, ARes.val y = ARes.val x /\ ∃ b, x = .b b /\ Keep All h h'' /\ (b = true -> p.small) := fun h' hk => aK hk.1 ⟨false, rfl, hk, fun e => by cases e⟩
  have ha := hk2.trans (Keep.app All h2 [.cells 60 [.str q.name, .i q.arity, .sl 5 (q.clauses.map encCl)]])
  simp -implicitDefEqProofs only [go_sem, hlt, aW, hq, encPr, w6]
  rcases hb1 : decide (m + (q.clauses.length : Int) > 120) with _ | _
  ·simp -implicitDefEqProofs only [go_sem]
   rcases hb2 : decide ((q.name.length : Int) > 500) with _ | _
   ·have hb1 := of_decide_eq_false hb1
    have hb2 := of_decide_eq_false hb2
    simp -implicitDefEqProofs only [go_sem]
    have hc120 : q.clauses.length <= 120 := by simp only at hmm; omega
    refine bB hC (fun j (z : Int) => [(40, .i j), (38, .sl 5 (q.clauses.map encCl)), (39, .i q.clauses.length), (3, .ref (h.length + 1) 0), (4, .i (m + q.clauses.length)), (20, .i i), (18, .sl 3 (p.procs.map encPr)), (19, .i p.procs.length)])
     (fun j (z : Int) h' => (0 <= z /\ z <= 5000) /\ (∀ c ∈ q.clauses.take j, sizes c.parts <= 5000 /\ strss c.parts) /\ Keep All h h' /\ h'[h.length + 1]? = some (.cells 3 [.i z])) q.clauses.length ?_ ?_
    ·exact ⟨z, _, Wk.pick ha.1 (by simp [go_sem]), hz, fun q hq => by simp at hq, ha, aG o1⟩
    rintro j z1 h3 hj ⟨hz1, hJ, hk3, o3⟩
    simp -implicitDefEqProofs only [go_sem]
    refine aJ (fun hlt2 => ?_) (fun hlt2 => ?_)
    ·have hlt2 := aM hlt2
     have w7 : IntKind.i64.wrap ((j : Int) + 1) = (j : Int) + 1 := aD _ (by omega)
     have hcw := n2 _ (List.getElem_mem hlt2)
     have htj : q.clauses.take (j + 1) = q.clauses.take j ++ [q.clauses[j]] := bH hlt2
     generalize hc : q.clauses[j] = c at *
     obtain ⟨⟨w1, w1'⟩, ⟨w2, w2'⟩, w3, w3'⟩ := hcw
     obtain ⟨ls, hls⟩ : ∃ ls, ls = [c.head, c.guard, c.body] := ⟨_, rfl⟩
     have lsw : ∀ l ∈ ls, wids l /\ l.length <= 2 ^ 47 := by
      intro l hl
      rw [hls] at hl
      simp only [List.mem_cons, List.not_mem_nil, or_false] at hl
      rcases hl with rfl | rfl | rfl
      ·exact ⟨w1, w1'⟩
      ·exact ⟨w2, w2'⟩
      ·exact ⟨w3, w3'⟩
     have lsl : ls.length = 3 := by rw [hls]; rfl
     have hk4 : ∀ l, Keep All h (h3 ++ l) := fun l => hk3.trans (Keep.app _ _ _)
     simp -implicitDefEqProofs only [go_sem, hlt2, aW, hc, encCl, List.append_assoc, show Nat.blt 1 3 = true from rfl, show Nat.blt 2 3 = true from rfl, show Nat.blt 0 3 = true from rfl]
     refine bB hC (fun a (y : Int × Nat) => [(52, .i a), (50, .own y.2 1 (ls.map encL)), (51, .i (3 : Nat)), (40, .i j), (38, .sl 5 (q.clauses.map encCl)), (39, .i q.clauses.length), (3, .ref (h.length + 1) 0), (4, .i (m + q.clauses.length)), (20, .i i), (18, .sl 3 (p.procs.map encPr)), (19, .i p.procs.length)])
      (fun a (y : Int × Nat) h' => (0 <= y.1 /\ y.1 <= 5000) /\ cnts (ls.take a).flatten z1 1 = (true, y.1) /\ Keep All h h' /\ h'[h.length + 1]? = some (.cells 3 [.i y.1])) 3 ?_ ?_
     ·refine ⟨(z1, h3.length + 1), _, Wk.pick (hk4 _).1 ?_, hz1, rfl, hk4 _, aG o3⟩
      simp [go_sem, hls, encL]
     rintro a ⟨z2, k2⟩ h4 ha3 ⟨hz2, hA, hk5, o4⟩
     simp -implicitDefEqProofs only [go_sem]
     refine aJ (fun hlt3 => ?_) (fun hlt3 => ?_)
     ·have hlt3 := aM hlt3
      have hlt3' : a < ls.length := by omega
      have w8 : IntKind.i64.wrap ((a : Int) + 1) = (a : Int) + 1 := aD _ (by omega)
      obtain ⟨lw, ll⟩ := lsw _ (List.getElem_mem hlt3')
      have hta : (ls.take (a + 1)).flatten = (ls.take a).flatten ++ ls[a] := flat_snoc hlt3'
      generalize hl : ls[a] = l at *
      have bb : bounds (a : Int) (ls.map encL).length := by simp [bounds]; omega
      simp -implicitDefEqProofs only [go_sem, hlt3, hlt3', aW, hl, encL]
      refine bB hC (fun b (z : Int) => [(58, .i b), (56, .sl 4 (l.map enc)), (57, .i l.length), (52, .i a), (50, .own k2 1 (ls.map encL)), (51, .i (3 : Nat)), (40, .i j), (38, .sl 5 (q.clauses.map encCl)), (39, .i q.clauses.length), (3, .ref (h.length + 1) 0), (4, .i (m + q.clauses.length)), (20, .i i), (18, .sl 3 (p.procs.map encPr)), (19, .i p.procs.length)])
       (fun b (z : Int) h' => (0 <= z /\ z <= 5000) /\ cnts ((ls.take a).flatten ++ l.take b) z1 1 = (true, z) /\ Keep All h h' /\ h'[h.length + 1]? = some (.cells 3 [.i z])) l.length ?_ ?_
      ·refine ⟨z2, h4, Wk.pick hk5.1 ?_, hz2, by rw [List.take_zero, List.append_nil]; exact hA, hk5, o4⟩
       simp [go_sem]
      rintro b z3 h5 hb ⟨hz3, hB, hk6, o5⟩
      simp -implicitDefEqProofs only [go_sem]
      refine aJ (fun hlt4 => ?_) (fun hlt4 => ?_)
      ·have hlt4 := aM hlt4
       have w9 : IntKind.i64.wrap ((b : Int) + 1) = (b : Int) + 1 := aD _ (by omega)
       have q94 := h94at (GL := GL) l[b] (wids_mem lw _ (List.getElem_mem hlt4)) z3 1 (by omega) (by omega) (h.length + 1) (h5 ++ [.cells 24 [.v (.int .i64 l[b].kind), .v (.int .i64 l[b].n), .str l[b].s, .sl 4 (l[b].l.map enc)]]) (aG o5)
       have hk7 := hk6.trans (Keep.app All h5 [.cells 24 [.v (.int .i64 l[b].kind), .v (.int .i64 l[b].n), .str l[b].s, .sl 4 (l[b].l.map enc)]])
       simp -implicitDefEqProofs only [go_sem, hlt4, aW]
       refine call_any hC q94 fun r h6 ⟨e6, er⟩ => ?_
       subst er
       have hk8 : Keep All h h6 := by rw [e6]; exact hk7.turn _ (aG o5) (Nat.le_add_right _ _)
       rcases hy : l[b].cnt z3 1 with ⟨_ | _, z4⟩
       ·simp -implicitDefEqProofs only [go_sem, Bool.not_false]
        exact fin _ hk8
       ·have hcn : cnts ((ls.take a).flatten ++ l.take (b + 1)) z1 1 = (true, z4) := by
         rw [bH hlt4, <- List.append_assoc, cnts_app, hB]
         simp only [cnts, hy]
        have hz4 := cnts_le hz1.1 hcn
        simp -implicitDefEqProofs only [go_sem, Bool.not_true]
        refine ⟨z4, h6, Wk.pick hk8.1 (by simp [go_sem, w9]), by omega, hcn, hk8, ?_⟩
        rw [e6, hy]
        exact aL (aG o5)
      ·have hge4 := aN hlt4
       rw [aV hge4] at hB
       simp -implicitDefEqProofs only [go_sem, hlt4]
       exact ⟨(z3, k2), h5, Wk.pick hk6.1 (by simp [go_sem, w8]), hz3, by rw [hta]; exact hB, hk6, o5⟩
     ·have hge3 := aN hlt3
      rw [aV (by omega)] at hA
      have hfl : ls.flatten = c.parts := by rw [hls]; simp [Cl.parts]
      rw [hfl] at hA
      have hx := cnts_true _ _ _ _ hz1.1 hA
      simp -implicitDefEqProofs only [go_sem, hlt3]
      refine ⟨z2, h4, Wk.pick hk5.1 (by simp [go_sem, w7]), hz2, ?_, hk5, o4⟩
      intro c' hc'
      rw [htj, List.mem_append, List.mem_singleton] at hc'
      rcases hc' with hc' | rfl
      ·exact hJ c' hc'
      ·exact ⟨by simp only at hx; omega, hx.2.2⟩
    ·have hge2 := aN hlt2
     rw [aV hge2] at hJ
     simp -implicitDefEqProofs only [go_sem, hlt2]
     refine ⟨(z1, m + q.clauses.length), h3, Wk.pick hk3.1 (by simp [go_sem, w5]), hz1, by simp only at hmm ⊢; omega, ?_, hk3, o3⟩
     intro q' hq'
     rw [hti, List.mem_append, List.mem_singleton] at hq'
     rcases hq' with hq' | rfl
     ·exact hI q' hq'
     ·exact ⟨by omega, hc120, hJ⟩
   ·simp -implicitDefEqProofs only [go_sem]
    exact fin _ ha
  ·simp -implicitDefEqProofs only [go_sem]
   exact fin _ ha
 ·have hge := aN hlt
  rw [aV hge] at hI
  simp -implicitDefEqProofs only [go_sem, hlt]
  exact aK hk2.1 ⟨true, rfl, hk2, fun _ => ⟨hl80, hI⟩⟩
end Go.Rip
