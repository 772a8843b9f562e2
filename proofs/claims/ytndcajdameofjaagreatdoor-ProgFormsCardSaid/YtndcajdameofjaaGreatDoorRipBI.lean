/- Trees that are made anew: copied, limited; what a call hands back, frozen. -/
import Derived.Test.YtndcajdameofjaaGreatDoorRipBH
import Derived.Test.YtndcajdameofjaaGreatDoorRipAU
import Derived.Test.YtndcajdameofjaaGreatDoorRipBG
import Derived.Test.YtndcajdameofjaaGreatDoorRipAI
import Derived.Test.YtndcajdameofjaaGreatDoorRipAP
import Derived.Test.YtndcajdameofjaaGreatDoorRipBD
import Derived.Test.YtndcajdameofjaaGreatDoorRipAJ
import Derived.Test.YtndcajdameofjaaGreatDoorRipAS
import Derived.Test.YtndcajdameofjaaGreatDoorRipBC
namespace Go.Rip
open Go
set_option maxRecDepth 100000
variable {GL : Glob}
theorem wkr_made {t : Tm} {a : Nat} : wkr (.agg [.v (.int .i64 t.kind), .v (.int .i64 t.n), .str t.s, .own a 4 (t.l.map enc)]) (enc t) := by rw [lX]; simp [wkr, wkrs]
theorem h290 (t : Tm) (ht : t.size < 2 ^ 30) : Pure (PC GL) 290 [enc t] (enc t) := by
 induction t using bY with
 | _ t ih =>
 have hs := bC t
 have h4 := aM t.l
 refine k290.pure (by simp) (by simp [go_sem]) (by simp [go_sem]) ?_
 simp -implicitDefEqProofs only [c290, r290, go_sem]
 refine aZ hC (fun j a => [(9, .i j), (3, .own a 4 ((t.l.take j).map enc)), (7, .sl 4 (t.l.map enc)), (8, .i t.l.length), (1, .ref 0 0), (2, .ref 1 0)]) (fun j a h => h[a]? = some (.spare 24 4) /\ h[0]? = some (.cells 24 [.v (.int .i64 t.kind), .v (.int .i64 t.n), .str t.s, .sl 4 (t.l.map enc)]) /\ h[1]? = some (.cells 24 [.v (.int .i64 0), .v (.int .i64 0), .str [], .v (.slice none 0 0)])) t.l.length ?_ fun j a h hj ⟨ha, hb, hd⟩ => ?_
 ·refine ⟨2, [.cells 24 [.v (.int .i64 t.kind), .v (.int .i64 t.n), .str t.s, .sl 4 (t.l.map enc)], .cells 24 [.v (.int .i64 0), .v (.int .i64 0), .str [], .v (.slice none 0 0)], .spare 24 4], (Wk.own_nil (h := [.cells 24 [.v (.int .i64 t.kind), .v (.int .i64 t.n), .str t.s, .sl 4 (t.l.map enc)], .cells 24 [.v (.int .i64 0), .v (.int .i64 0), .str [], .v (.slice none 0 0)]]) 24 4 3 (by simp [go_sem]) (Nat.zero_le _)).trans (Wk.pick (Nat.zero_le _) ?_), rfl, rfl, rfl⟩
  simp [go_sem]
 ·skip
  have ha_g := fun l => aE (l := l) ha
  have ha_s := fun o l => aJ (l := l) ha o
  have ha_e := fun o l => aH (o := o) (l := l) ha
  have ha_h := fun o => aL (o := o) ha
  have hb_g := fun l => aE (l := l) hb
  have hb_s := fun o l => aJ (l := l) hb o
  have hb_e := fun o l => aH (o := o) (l := l) hb
  have hb_h := fun o => aL (o := o) hb
  have hd_g := fun l => aE (l := l) hd
  have hd_s := fun o l => aJ (l := l) hd o
  have hd_e := fun o l => aH (o := o) (l := l) hd
  have hd_h := fun o => aL (o := o) hd
  simp -implicitDefEqProofs only [go_sem]
  refine aG (fun hlt => ?_) (fun hlt => ?_)
  ·have hlt := aI hlt
   have g1 := bA hlt
   have w5 : IntKind.i64.wrap ((j : Int) + 1) = (j : Int) + 1 := aF _ (by omega)
   simp -implicitDefEqProofs only [go_sem, hlt, aP]
   refine aC hC (ih _ (List.getElem_mem hlt) (by omega)) ?_
   simp -implicitDefEqProofs only [go_sem, List.append_assoc, ha_g, ha_s]
   refine ⟨by simp; omega, ?_⟩
   refine ⟨h.length + 2, _, Wk.pick (Nat.zero_le _) (by simp [go_sem, w5, bI hlt]), ?_, ?_, ?_⟩
   ·rw [cX (by simp)]; simp
   ·exact bE hb ha (by simp)
   ·exact bE hd ha (by simp)
  ·have hge := aK hlt
   have hd1 := fun o => (aN (h := h) (o := o) (show 0 ≠ 1 by decide)).trans hd
   have hd2 := fun o o' => aL (o := o') (hd1 o)
   simp -implicitDefEqProofs only [go_sem, hlt, cC hge, hb, hb_h, hd1, hd2]
   exact aD wkr_made (by simp [go_sem])
theorem ne30 : ((3 : Int) != 0) = true := rfl
theorem ne00 : ((0 : Int) != 0) = false := rfl
def Tm.nul : Tm := .mk 0 0 [] []
theorem wkr_nul : wkr (.agg [.v (.int .i64 0), .v (.int .i64 0), .str [], .v (.slice none 0 0)]) (enc Tm.nul) := by rw [Tm.nul, eJ]; simp [wkr, wkrs]
theorem h251 (t : Tm) (ht : t.size < 2 ^ 30) (hs : t.strs) : Pure (PC GL) 251 [enc t] (.tup [enc (if t.ok then t else Tm.nul), .i (if t.ok then 0 else 2)]) := by
 refine k251.pure (by simp) (by simp [go_sem]) (by simp [go_sem]) ?_
 simp -implicitDefEqProofs only [c251, r251, go_sem]
 refine aC hC (h95 t ht hs) ?_
 rcases t.ok with _ | _
 ·simp -implicitDefEqProofs only [go_sem, if_neg Bool.false_ne_true, ne30]
  exact aD (bL wkr_nul rfl) (by simp [go_sem])
 ·simp -implicitDefEqProofs only [go_sem, if_pos, ne00]
  refine aC hC (h290 t ht) ?_
  simp -implicitDefEqProofs only [go_sem]
  exact aD (fF _) (by simp [go_sem])
mutual
def Tm.sub (F : Int -> Tm) : Tm -> Tm
 | .mk k n s l => if k = 1 then F n else .mk k n s (Tm.subs F l)
def Tm.subs (F : Int -> Tm) : List Tm -> List Tm
 | [] => []
 | t :: r => t.sub F :: Tm.subs F r
end
theorem sI (F : Int -> Tm) : ∀ l, Tm.subs F l = l.map (Tm.sub F)
 | [] => rfl
 | t :: r => by rw [Tm.subs, sI F r]; rfl
theorem dO (F : Int -> Tm) (t : Tm) : t.sub F = if t.kind = 1 then F t.n else .mk t.kind t.n t.s (t.l.map (Tm.sub F)) := by cases t; rw [Tm.sub, sI]; rfl
theorem pH {t : Tm} {a : Nat} {F : Int -> Tm} : wkr (.agg [.v (.int .i64 t.kind), .v (.int .i64 t.n), .str t.s, .own a 4 (t.l.map fun x => enc (x.sub F))]) (enc (.mk t.kind t.n t.s (t.l.map (Tm.sub F)))) := by rw [eJ]; simp [wkr, wkrs]
theorem Keep.turn' {K : Nat -> AObj -> Prop} {h h' : List AObj} (a : Keep K h h') {k : Nat} (o : AObj) {x : AObj} (hx : h'[k]? = some x) (hk : h.length <= k) : Keep K h (h'.set k o) :=
 a.trans' (K' := fun i _ => i = k) (Keep.set o hx rfl) fun i o' hi e => by have := aX hi; omega
theorem h250 (f : FuncId) (cap : List AV) (F : Int -> Tm) (hF : ∀ v, (F v).size < 2 ^ 30) (t : Tm) : ∀ (left : Int) (kb : Nat) (h : List AObj), t.size < 2 ^ 30 -> ((t.sub F).size : Int) <= left -> left < 2 ^ 40 -> h[kb]? = some (.cells 262 [.v (.int .i64 left)]) ->
  (∀ v h', Keep (fun i _ => i = kb) h h' -> Gives (PC GL) f (.i v :: cap) h' fun x h'' => x = .tup [enc (F v), .v (.bool true)] /\ Keep All h' h'') ->
  Gives (PC GL) 250 [.ref kb 0, enc t, .fn (.func f) [] cap] h fun x h' => x = enc (t.sub F) /\ h'[kb]? = some (.cells 262 [.v (.int .i64 (left - (t.sub F).size))]) /\ Keep (fun i _ => i = kb) h h' := by
 induction t using bY with
 | _ t ih =>
 intro left kb h ht hle hlt hk hf
 have hs := bC t
 have h4 := aM t.l
 have hse := dO F t
 have hkl := aX hk
 have hk_g := fun l => aE (l := l) hk
 have hk_s := fun o l => aJ (l := l) hk o
 have hk_e := fun o l => aH (o := o) (l := l) hk
 have hk_h := fun o => aL (o := o) hk
 refine k250.gives (by simp) ?_
 simp -implicitDefEqProofs only [go_sem, c250, r250, List.append_assoc]
 by_cases hx : t.kind = 1
 ·have e : (t.kind == 1) = true := by simpa using hx
  rw [if_pos hx] at hse
  rw [hse] at hle ⊢
  simp -implicitDefEqProofs only [go_sem, e]
  refine aR hC (hf t.n _ (Keep.app _ _ _)) fun x h2 ⟨hx2, hk2⟩ => ?_
  subst hx2
  have q0 := hk2.got (hk_g _)
  have q1 := hk2.got (i := h.length) (o := .cells 24 [.v (.int .i64 t.kind), .v (.int .i64 t.n), .str t.s, .sl 4 (t.l.map enc)]) (by rw [iJ]; rfl)
  have q2 := hk2.got (i := h.length + 1) (o := .cells 24 [.v (.int .i64 0), .v (.int .i64 0), .str [], .v (.slice none 0 0)]) (by rw [aW]; rfl)
  have hL := hk2.1
  simp only [List.length_append, List.length_cons, List.length_nil] at hL
  have q0_g := fun l => aE (l := l) q0
  have q0_s := fun o l => aJ (l := l) q0 o
  have q0_e := fun o l => aH (o := o) (l := l) q0
  have q0_h := fun o => aL (o := o) q0
  have q1_g := fun l => aE (l := l) q1
  have q1_s := fun o l => aJ (l := l) q1 o
  have q1_e := fun o l => aH (o := o) (l := l) q1
  have q1_h := fun o => aL (o := o) q1
  have q2_g := fun l => aE (l := l) q2
  have q2_s := fun o l => aJ (l := l) q2 o
  have q2_e := fun o l => aH (o := o) (l := l) q2
  have q2_h := fun o => aL (o := o) q2
  have w1 : IntKind.i64.wrap (left - (F t.n).size) = left - (F t.n).size := aF _ (by omega)
  simp -implicitDefEqProofs only [go_sem]
  refine aC hC (h248 _ (hF t.n)) ?_
  have q2_q0b := fun o l => bE (o := o) (l := l) q2 q0 (by simp)
  have q2_q0s := fun o l x => dJ (o := o) (l := l) (x' := x) q2 q0 (by simp)
  have q2_q0g := fun o l x => cZ (o := o) (l := l) (x' := x) q2 q0 (by simp)
  have q2_q0k := fun o l x => cY (o := o) (l := l) (x' := x) q2 q0 (by simp)
  simp -implicitDefEqProofs only [go_sem, kG, q0_g, q0_s, w1, q2_q0b, q2_q0s, q2_q0g]
  refine eC ?_ (fF _) ?_
  ·simp; omega
  ·refine ⟨rfl, q2_q0k _ _ _, ?_⟩
   have hk1 : Keep (fun i _ => i = kb) h (h2.set kb (.cells 262 [.v (.int .i64 (left - (F t.n).size))])) := ((Keep.app _ h _).trans hk2.of_all).trans (Keep.set _ q0 rfl)
   exact (hk1.turn' _ ((aN (by omega)).trans q2) (Nat.le_succ _)).trans (Keep.app _ _ _)
 ·have e : (t.kind == 1) = false := by simpa using hx
  rw [if_neg hx] at hse
  rw [hse] at hle ⊢
  have w1 : IntKind.i64.wrap (left - 1) = left - 1 := aF _ (by omega)
  have hsz : (Tm.mk t.kind t.n t.s (t.l.map (Tm.sub F))).size = 1 + sizes (t.l.map (Tm.sub F)) := by rw [bC, Tm.l_mk]; omega
  rw [hsz] at hle ⊢
  simp -implicitDefEqProofs only [go_sem, e, hk_g, hk_s, w1, kG]
  refine aZ hC (fun j a => [(49, .i j), (11, .own a 4 ((t.l.take j).map fun x => enc (x.sub F))), (47, .sl 4 (t.l.map enc)), (48, .i t.l.length), (0, .ref kb 0), (2, .fn (.func f) [] cap), (4, .ref h.length 0), (6, .ref (h.length + 1) 0)]) (fun j a h' => h'[a]? = some (.spare 24 4) /\ h'[kb]? = some (.cells 262 [.v (.int .i64 (left - 1 - sizes ((t.l.take j).map (Tm.sub F))))]) /\ h'[h.length]? = some (.cells 24 [.v (.int .i64 t.kind), .v (.int .i64 t.n), .str t.s, .sl 4 (t.l.map enc)]) /\ h'[h.length + 1]? = some (.cells 24 [.v (.int .i64 0), .v (.int .i64 0), .str [], .v (.slice none 0 0)]) /\ h.length <= a /\ Keep (fun i _ => i = kb) h h') t.l.length ?_ fun j a h2 hj ⟨ha, hb, hd, he, hak, hkk⟩ => ?_
  ·refine ⟨h.length + 2, _, (Wk.own_nil 24 4 11 (by simp [go_sem]) (by simp)).trans (Wk.pick (by simp) (by simp [go_sem])), ?_, ?_, ?_, ?_, Nat.le_add_right _ _, ?_⟩
   ·rw [cX (by simp)]; simp
   ·rw [List.append_assoc, hk_e]; simp [sizes]
   ·rw [List.append_assoc, kG]; rfl
   ·rw [List.append_assoc, mR]; rfl
   ·rw [List.append_assoc]; exact (Keep.set _ hk rfl).trans (Keep.app _ _ _)
  ·skip
   have ha_g := fun l => aE (l := l) ha
   have ha_s := fun o l => aJ (l := l) ha o
   have ha_e := fun o l => aH (o := o) (l := l) ha
   have ha_h := fun o => aL (o := o) ha
   have hb_g := fun l => aE (l := l) hb
   have hb_s := fun o l => aJ (l := l) hb o
   have hb_e := fun o l => aH (o := o) (l := l) hb
   have hb_h := fun o => aL (o := o) hb
   have hd_g := fun l => aE (l := l) hd
   have hd_s := fun o l => aJ (l := l) hd o
   have hd_e := fun o l => aH (o := o) (l := l) hd
   have hd_h := fun o => aL (o := o) hd
   have he_g := fun l => aE (l := l) he
   have he_s := fun o l => aJ (l := l) he o
   have he_e := fun o l => aH (o := o) (l := l) he
   have he_h := fun o => aL (o := o) he
   simp -implicitDefEqProofs only [go_sem]
   refine aG (fun hlt => ?_) (fun hlt => ?_)
   ·have hlt := aI hlt
    have g1 := bA hlt
    have w5 : IntKind.i64.wrap ((j : Int) + 1) = (j : Int) + 1 := aF _ (by omega)
    have g2 : sizes ((t.l.take j).map (Tm.sub F)) + ((t.l[j]).sub F).size <= sizes (t.l.map (Tm.sub F)) := by
     have := bF (t.l.map (Tm.sub F)) (j + 1)
     rw [bH (l := t.l.map (Tm.sub F)) (by simpa using hlt), List.getElem_map, <- List.map_take] at this
     exact this
    have e2 : decide (left - 1 - (sizes ((t.l.take j).map (Tm.sub F)) : Int) < 0) = false := decide_eq_false (by omega)
    have g3 : sizes ((t.l.take (j + 1)).map (Tm.sub F)) = sizes ((t.l.take j).map (Tm.sub F)) + ((t.l[j]).sub F).size := by
     have := bH (l := t.l.map (Tm.sub F)) (j := j) (by simpa using hlt)
     rwa [List.getElem_map, <- List.map_take, <- List.map_take] at this
    have nak : a ≠ kb := bS ha hb (by simp)
    simp -implicitDefEqProofs only [go_sem, hlt, aP, hb_g, e2]
    refine aR hC (ih _ (List.getElem_mem hlt) (left - 1 - sizes ((t.l.take j).map (Tm.sub F))) kb _ (by omega) (by omega) (by omega) (hb_g _) fun v h' hk' => hf v h' ((hkk.trans (Keep.app _ _ _)).trans hk')) fun x h3 ⟨hx3, b3, hk3⟩ => ?_
    subst hx3
    have a3 := hk3.get (ha_g _) nak
    have d3 := hk3.get (hd_g _) (by omega)
    have e3 := hk3.get (he_g _) (by omega)
    have k3 := (hkk.trans (Keep.app _ _ _)).trans hk3
    have a3_g := fun l => aE (l := l) a3
    have a3_s := fun o l => aJ (l := l) a3 o
    have a3_e := fun o l => aH (o := o) (l := l) a3
    have a3_h := fun o => aL (o := o) a3
    simp -implicitDefEqProofs only [go_sem, List.append_assoc, a3_g, a3_s]
    refine ⟨by simp; omega, ?_⟩
    refine ⟨h3.length + 1, _, Wk.pick (by simp; have := k3.1; omega) (by simp [go_sem, w5, bI hlt]), ?_, ?_, ?_, ?_, by have := k3.1; omega, ?_⟩
    ·rw [cX (by simp)]; simp
    ·rw [bE b3 a3 (by simp), g3]; simp; omega
    ·exact bE d3 a3 (by simp)
    ·exact bE e3 a3 (by simp)
    ·exact (k3.trans' (K' := fun i _ => i = a) (Keep.set _ a3 rfl) fun i o' hi e => by have := aX hi; omega).trans (Keep.app _ _ _)
   ·have hge := aK hlt
    have he1 := fun o => (aN (h := h2) (o := o) (show h.length ≠ h.length + 1 by omega)).trans he
    have he2 := fun o o' => aL (o := o') (he1 o)
    rw [aQ hge] at hb
    simp -implicitDefEqProofs only [go_sem, hlt, cC hge, hd, hd_h, he1, he2]
    have hk1 := (hkk.turn' (.cells 24 [.v (.int .i64 t.kind), .v (.int .i64 t.n), .str t.s, .own a 4 (t.l.map fun x => enc (x.sub F))]) hd (Nat.le_refl _)).turn' (.cells 24 [.v (.int .i64 t.kind), .v (.int .i64 t.n), .str t.s, .own a 4 (t.l.map fun x => enc (x.sub F))]) (he1 _) (Nat.le_succ _)
    refine eC hk1.1 pH ⟨rfl, ?_, hk1⟩
    rw [aN (by omega), aN (by omega), hb]
    simp; omega
def varF (g : Int -> Int) : Int -> Tm := fun v => .mk 1 (g v) [] []
theorem rF {g : Int -> Int} {v : Int} : wkr (.tup [.agg [.v (.int .i64 1), .v (.int .i64 (g v)), .str [], .v (.slice none 0 0)], .v (.bool true)]) (.tup [enc (varF g v), .v (.bool true)]) := by
 refine bL ?_ rfl
 rw [varF, eJ]; simp [wkr, wkrs]
theorem h224 (v n : Int) (k : Nat) (h : List AObj) (hk : h[k]? = some (.cells 3 [.v (.int .i64 n)])) : Gives (PC GL) 224 [.i v, .ref k 0] h fun x h' => x = .tup [enc (varF (fun v => IntKind.i64.wrap (v + n)) v), .v (.bool true)] /\ Keep All h h' := by
 refine k224.gives (by simp) ?_
 have hk_g := fun l => aE (l := l) hk
 have hk_s := fun o l => aJ (l := l) hk o
 have hk_e := fun o l => aH (o := o) (l := l) hk
 have hk_h := fun o => aL (o := o) hk
 simp -implicitDefEqProofs only [go_sem, c224, r224, hk_g]
 exact eC (by simp) (rF (g := fun v => IntKind.i64.wrap (v + n))) ⟨rfl, Keep.app _ _ _⟩
theorem nG {s : Int} : ∀ {ks : List Int} {i : Nat}, idxI s ks = some i -> i < ks.length
 | k :: r, i, h => by
  simp only [idxI] at h
  split at h
  ·cases h; simp
  ·rw [Option.map_eq_some_iff] at h
   obtain ⟨j, hj, rfl⟩ := h
   simpa using nG hj
def idx0 (l : List Int) (v : Int) : Int := ((idxI v l).getD 0 : Nat)
theorem h213 (v : Int) (l : List Int) (k m : Nat) (h : List AObj) (hk : h[k]? = some (.cells 230 [.mp m])) (hm : h[m]? = some (.map (l.map encI) ((List.range l.length).map fun i => AV.i (i : Nat)))) : Gives (PC GL) 213 [.i v, .ref k 0] h fun x h' => x = .tup [enc (varF (idx0 l) v), .v (.bool true)] /\ Keep All h h' := by
 refine k213.gives (by simp) ?_
 have hk_g := fun l => aE (l := l) hk
 have hk_s := fun o l => aJ (l := l) hk o
 have hk_e := fun o l => aH (o := o) (l := l) hk
 have hk_h := fun o => aL (o := o) hk
 have hm_g := fun l => aE (l := l) hm
 have hm_s := fun o l => aJ (l := l) hm o
 have hm_e := fun o l => aH (o := o) (l := l) hm
 have hm_h := fun o => aL (o := o) hm
 rcases hi : idxI v l with _ | i
 ·simp -implicitDefEqProofs only [go_sem, c213, r213, hk_g, hm_g, fJ, hi]
  refine eC (y := .tup [enc (varF (idx0 l) v), .v (.bool true)]) (by simp) ?_ ⟨rfl, Keep.app _ _ _⟩
  have := rF (g := idx0 l) (v := v)
  rw [idx0, hi] at this
  exact this
 ·have hlt : i < l.length := nG hi
  have e : ((List.range l.length).map fun i => AV.i (i : Nat)).getD i .any = .i (i : Nat) := by simp [List.getD, hlt]
  simp -implicitDefEqProofs only [go_sem, c213, r213, hk_g, hm_g, fJ, hi, e]
  refine eC (y := .tup [enc (varF (idx0 l) v), .v (.bool true)]) (by simp) ?_ ⟨rfl, Keep.app _ _ _⟩
  have := rF (g := idx0 l) (v := v)
  rw [idx0, hi] at this
  exact this
theorem h212 (f : FuncId) (cap : List AV) (F : Int -> Tm) (hF : ∀ v, (F v).size < 2 ^ 30) (t : Tm) (h : List AObj) (ht : t.size < 2 ^ 30) (hs : (t.sub F).size <= 4000) (hS : (t.sub F).strs)
  (hf : ∀ v h', Keep All h h' -> Gives (PC GL) f (.i v :: cap) h' fun x h'' => x = .tup [enc (F v), .v (.bool true)] /\ Keep All h' h'') :
  Gives (PC GL) 212 [enc t, .fn (.func f) [] cap] h fun x h' => x = .tup [enc (if (t.sub F).ok then t.sub F else Tm.nul), .i (if (t.sub F).ok then 0 else 2)] /\ Keep All h h' := by
 refine k212.gives (by simp) ?_
 simp -implicitDefEqProofs only [go_sem, c212, r212, List.append_assoc]
 refine aR hC (h250 f cap F hF t 4000 (h.length + 2) _ ht (by omega) (by omega) (aW h _ 2) fun v h' hk => hf v h' ((Keep.app All h _).trans' hk fun i o hi e => ?_)) fun x h2 ⟨hx, hb, hk2⟩ => ?_
 ·have := aX hi; omega
 subst hx
 have q1 := hk2.get (i := h.length + 1) (o := .cells 24 [.v (.int .i64 0), .v (.int .i64 0), .str [], .v (.slice none 0 0)]) (by rw [aW]; rfl) (by omega)
 have hk3 : Keep All h h2 := (Keep.app All h _).trans' hk2 fun i o hi e => by have := aX hi; omega
 have hL := hk2.1
 simp only [List.length_append, List.length_cons, List.length_nil] at hL
 have q1_g := fun l => aE (l := l) q1
 have q1_s := fun o l => aJ (l := l) q1 o
 have q1_e := fun o l => aH (o := o) (l := l) q1
 have q1_h := fun o => aL (o := o) q1
 have hb_g := fun l => aE (l := l) hb
 have hb_s := fun o l => aJ (l := l) hb o
 have hb_e := fun o l => aH (o := o) (l := l) hb
 have hb_h := fun o => aL (o := o) hb
 have e2 : decide ((4000 : Int) - ((t.sub F).size : Int) < 0) = false := decide_eq_false (by omega)
 have q := h251 (GL := GL) (t.sub F) (by omega) hS
 simp -implicitDefEqProofs only [go_sem, hb_g, e2]
 refine aC hC q ?_
 simp -implicitDefEqProofs only [go_sem, q1_g, q1_s, q1_e]
 refine eC (by simp; omega) (fF _) ⟨?_, ?_⟩
 ·simp only [go_sem]
 ·exact (hk3.turn' _ q1 (Nat.le_succ _)).trans (Keep.app _ _ _)
end Go.Rip
namespace Go.Rip
open Go
set_option maxRecDepth 100000
attribute [local simp] Tm.kind_mk Tm.n_mk Tm.s_mk Tm.l_mk
theorem gG {f : Tm -> Tm} : ∀ {l : List Tm}, (∀ x ∈ l, (f x).size <= x.size) -> sizes (l.map f) <= sizes l
 | [], _ => Nat.le_refl _
 | x :: r, h => by
  simp only [List.map_cons, sizes]
  have := h x (by simp)
  have := gG (l := r) fun y hy => h y (by simp [hy])
  omega
theorem gM {f : Tm -> Tm} : ∀ {l : List Tm}, (∀ x ∈ l, (f x).deep <= x.deep) -> deeps (l.map f) <= deeps l
 | [], _ => Nat.le_refl _
 | x :: r, h => by
  simp only [List.map_cons, deeps]
  have := h x (by simp)
  have := gM (l := r) fun y hy => h y (by simp [hy])
  omega
theorem lJ {f : Tm -> Tm} : ∀ {l : List Tm}, (∀ x ∈ l, (f x).strs) -> strss (l.map f)
 | [], _ => trivial
 | x :: r, h => ⟨h x (by simp), lJ (l := r) fun y hy => h y (by simp [hy])⟩
theorem gS {f : Tm -> Tm} : ∀ {l : List Tm}, (∀ x ∈ l, (f x).nodesOk = true) -> nodesOks (l.map f) = true
 | [], _ => rfl
 | x :: r, h => by simp only [List.map_cons, nodesOks, Bool.and_eq_true]; exact ⟨h x (by simp), gS (l := r) fun y hy => h y (by simp [hy])⟩
theorem bP : ∀ {l : List Tm}, nodesOks l = true -> ∀ x ∈ l, x.nodesOk = true
 | y :: r, h, x, hx => by
  simp only [nodesOks, Bool.and_eq_true] at h
  rcases List.mem_cons.1 hx with rfl | hx
  ·exact h.1
  ·exact bP h.2 x hx
variable (g : Int -> Int)
theorem lA (t : Tm) : (t.sub (varF g)).size <= t.size := by
 induction t using bY with
 | _ t ih =>
 rw [dO]
 split
 ·rw [varF, bC]; have := uN t; simp only [Tm.l_mk, sizes]; omega
 ·rw [bC, bC t, Tm.l_mk]; have := gG ih; omega
theorem tF (t : Tm) : (t.sub (varF g)).deep <= t.deep := by
 induction t using bY with
 | _ t ih =>
 rw [dO]
 split
 ·rw [varF, gE, gE t]; simp only [Tm.l_mk, deeps]; omega
 ·rw [gE, gE t, Tm.l_mk]; have := gM ih; omega
theorem oF (t : Tm) (h : t.strs) : (t.sub (varF g)).strs := by
 induction t using bY with
 | _ t ih =>
 rw [iW] at h
 rw [dO]
 split
 ·rw [varF, iW]; exact ⟨by simp only [Tm.s_mk, List.length_nil]; omega, trivial⟩
 ·rw [iW, Tm.s_mk, Tm.l_mk]; exact ⟨h.1, lJ fun x hx => ih x hx (cW h.2 x hx)⟩
def vn (t : Tm) : Option Int := if t.kind = 1 then some t.n else none
def occ (l : List Tm) : List Int := (pres l).filterMap vn
theorem occ_nil : occ [] = [] := rfl
theorem occ_app (a b : List Tm) : occ (a ++ b) = occ a ++ occ b := by simp [occ, kN]
theorem fS (t : Tm) (r : List Tm) : occ (t :: r) = occ [t] ++ occ r := occ_app [t] r
theorem dT (t : Tm) : occ [t] = (match vn t with | some v => v :: occ t.l | none => occ t.l) := by
 simp only [occ, pres, List.append_nil, iM, List.filterMap_cons]
 cases vn t <;> rfl
theorem jA {l : List Tm} {t : Tm} (ht : t ∈ l) {v : Int} (hv : v ∈ occ [t]) : v ∈ occ l := by
 induction l with
 | nil => cases ht
 | cons x r ih =>
  rw [fS]
  rcases List.mem_cons.1 ht with rfl | ht
  ·exact List.mem_append_left _ hv
  ·exact List.mem_append_right _ (ih ht)
theorem lD {t x : Tm} (hx : x ∈ t.l) {v : Int} (hv : v ∈ occ [x]) : v ∈ occ [t] := by
 rw [dT]
 have := jA hx hv
 split
 ·exact List.mem_cons_of_mem _ this
 ·exact this
theorem iG {t : Tm} (h : t.nodesOk = true) (hk : t.kind = 1) : t.s = [] /\ t.l = [] /\ 0 <= t.n /\ t.n < 100000 := by
 rw [bD, Bool.and_eq_true, Tm.nodeOk, if_pos hk, Tm.bare] at h
 simp at h
 exact ⟨h.1.1.1, h.1.1.2, h.1.2⟩
theorem mH (t : Tm) (h : t.nodesOk = true) (hg : ∀ v ∈ occ [t], 0 <= g v /\ g v < 100000) : (t.sub (varF g)).nodesOk = true := by
 induction t using bY with
 | _ t ih =>
 have hn := h
 rw [bD, Bool.and_eq_true] at h
 rw [dO]
 split
 ·rename_i hk
  have := hg t.n (by rw [dT, vn, if_pos hk]; simp)
  rw [varF, bD, Tm.nodeOk, if_pos (by rfl), Tm.bare]
  simp [nodesOks, this]
 ·rename_i hk
  rw [bD, Tm.l_mk, Bool.and_eq_true]
  refine ⟨?_, gS fun x hx => ih x hx (bP h.2 x hx) fun v hv => hg v (lD hx hv)⟩
  have e : (Tm.mk t.kind t.n t.s (t.l.map (Tm.sub (varF g)))).nodeOk = t.nodeOk := by simp only [Tm.nodeOk, Tm.bare, Tm.kind_mk, Tm.n_mk, Tm.s_mk, Tm.l_mk, List.length_map]; rfl
  rw [e]; exact h.1
theorem ok_sub (t : Tm) (h : t.ok = true) (hg : ∀ v ∈ occ [t], 0 <= g v /\ g v < 100000) : (t.sub (varF g)).ok = true := by
 simp only [Tm.ok, Bool.and_eq_true, decide_eq_true_eq] at h ⊢
 have := lA g t
 have := tF g t
 exact ⟨by omega, by omega, mH g t h.2.2 hg⟩
theorem occ_sub (t : Tm) (h : t.nodesOk = true) : occ [t.sub (varF g)] = (occ [t]).map g := by
 induction t using bY with
 | _ t ih =>
 rw [dO]
 split
 ·rename_i hk
  obtain ⟨-, b, -⟩ := iG h hk
  rw [dT t, vn, if_pos hk, b, dT, varF, vn, if_pos (by rfl)]
  simp [occ_nil]
 ·rename_i hk
  rw [dT, dT t, vn, vn, if_neg hk, if_neg (by simpa using hk), Tm.l_mk]
  rw [bD, Bool.and_eq_true] at h
  have : ∀ l : List Tm, (∀ x ∈ l, occ [x.sub (varF g)] = (occ [x]).map g) -> occ (l.map (Tm.sub (varF g))) = (occ l).map g := by
   intro l
   induction l with
   | nil => intro _; rfl
   | cons y r ihr =>
    intro hl
    rw [List.map_cons, fS, fS y, List.map_append, hl y (by simp), ihr fun x hx => hl x (by simp [hx])]
  exact this t.l fun x hx => ih x hx (bP h.2 x hx)
theorem occs_sub {l : List Tm} (h : nodesOks l = true) : occ (l.map (Tm.sub (varF g))) = (occ l).map g := by
 induction l with
 | nil => rfl
 | cons y r ihr =>
  simp only [nodesOks, Bool.and_eq_true] at h
  rw [List.map_cons, fS, fS y, List.map_append, occ_sub g y h.1, ihr h.2]
def ins (l : List Int) (v : Int) : List Int := if (l.any fun x => x == v) = false then l ++ [v] else l
theorem uZ : ∀ (ts : List Tm) (l : List Int), ts.foldl addV l = (ts.filterMap vn).foldl ins l
 | [], l => rfl
 | t :: r, l => by
  rw [List.foldl_cons, uZ r, List.filterMap_cons]
  by_cases hk : t.kind = 1
  ·rw [vn, if_pos hk]; simp only [List.foldl_cons, addV, ins, hk, true_and]
  ·rw [vn, if_neg hk, addV, if_neg (by simp [hk])]
theorem eV (l : List Tm) : varsOf l = (occ l).foldl ins [] := uZ _ _
theorem mem_ins : ∀ (vs l : List Int) (x : Int), x ∈ vs.foldl ins l ↔ x ∈ l ∨ x ∈ vs
 | [], l, x => by simp
 | v :: r, l, x => by
  rw [List.foldl_cons, mem_ins r, ins]
  split
  ·simp [or_assoc]
  ·rename_i h
   simp only [Bool.not_eq_false, List.any_eq_true, beq_iff_eq] at h
   obtain ⟨y, hy, rfl⟩ := h
   simp only [List.mem_cons]
   constructor
   ·rintro (a | a)
    ·exact .inl a
    ·exact .inr (.inr a)
   ·rintro (a | rfl | a)
    ·exact .inl a
    ·exact .inl hy
    ·exact .inr a
theorem mem_varsOf {l : List Tm} {x : Int} : x ∈ varsOf l ↔ x ∈ occ l := by rw [eV, mem_ins]; simp
theorem ins_map {g : Int -> Int} (hg : ∀ a b, g a = g b -> a = b) : ∀ (vs l : List Int), (vs.map g).foldl ins (l.map g) = (vs.foldl ins l).map g
 | [], l => rfl
 | v :: r, l => by
  have e : ((l.map g).any fun x => x == g v) = l.any fun x => x == v := by
   rw [List.any_map]
   congr 1
   funext x
   simp only [Function.comp]
   rw [Bool.eq_iff_iff, beq_iff_eq, beq_iff_eq]
   exact ⟨hg x v, fun e => by rw [e]⟩
  rw [List.map_cons, List.foldl_cons, List.foldl_cons, <- ins_map hg r, ins, ins, e]
  split <;> simp
theorem dI {g : Int -> Int} (hg : ∀ a b, g a = g b -> a = b) {l : List Tm} (h : nodesOks l = true) : varsOf (l.map (Tm.sub (varF g))) = (varsOf l).map g := by
 rw [eV, eV, occs_sub g h]
 exact ins_map hg _ []
theorem gH (l : List Int) (v : Int) : 0 <= idx0 l v /\ idx0 l v <= l.length := by
 rw [idx0]
 rcases h : idxI v l with _ | i
 ·simp
 ·have := nG h
  simp; omega
theorem kQ {v : Int} : ∀ {l : List Int}, v ∈ l -> ∃ i, idxI v l = some i /\ l[i]? = some v
 | x :: r, h => by
  by_cases e : v = x
  ·exact ⟨0, by simp [idxI, e], by simp [e]⟩
  ·obtain ⟨i, h1, h2⟩ := kQ ((List.mem_cons.1 h).resolve_left e)
   exact ⟨i + 1, by simp [idxI, e, h1], by simpa using h2⟩
end Go.Rip
namespace Go.Rip
open Go
set_option maxRecDepth 100000
variable {GL : Glob}
theorem sF : ∀ {l : List Int} {v : Int}, v ∉ l -> idxI v l = none
 | [], _, _ => rfl
 | x :: r, v, h => by
  simp only [List.mem_cons, not_or] at h
  simp [idxI, h.1, sF h.2]
theorem pQ : ∀ (vs l : List Int), l.Nodup -> (vs.foldl ins l).Nodup
 | [], l, h => h
 | v :: r, l, h => by
  rw [List.foldl_cons]
  refine pQ r _ ?_
  rw [ins]
  split
  ·rename_i hv
   rw [List.nodup_append]
   refine ⟨h, by simp, fun a ha b hb => ?_⟩
   simp only [List.mem_singleton] at hb
   subst hb
   rintro rfl
   simp only [List.any_eq_false, beq_iff_eq] at hv
   exact hv a ha rfl
  ·exact h
theorem rW (l : List Tm) : (varsOf l).Nodup := by rw [eV]; exact pQ _ _ List.nodup_nil
theorem wD {l : List Int} (hn : l.Nodup) {j : Nat} (hj : j < l.length) : l[j] ∉ l.take j := fun hm => by
 obtain ⟨i, hi, he⟩ := List.mem_take_iff_getElem.1 hm
 exact List.pairwise_iff_getElem.1 hn i j (by omega) hj (by omega) he
theorem jZ {l : List Tm} (h : termsOk l = true) : ∀ t ∈ l, t.ok = true := fun t ht => by
 simp only [termsOk, Bool.and_eq_true, decide_eq_true_eq] at h
 simp only [Tm.ok, Bool.and_eq_true, decide_eq_true_eq]
 obtain ⟨i, hi, rfl⟩ := List.getElem_of_mem ht
 have := bA hi
 have := iZ ht
 exact ⟨by omega, by omega, bP h.1 _ ht⟩
theorem h128 (l : List Tm) (hl : sizes l < 2 ^ 30) (hs : strss l) (hok : termsOk l = true) : Pure (PC GL) 128 [.sl 4 (l.map enc)] (.tup [.sl 4 ((l.map (Tm.sub (varF (idx0 (varsOf l))))).map enc), .sl 1 ((varsOf l).map encI), .i 0]) := by
 have h4 := aM l
 have q211 := sE (GL := GL) l hl hs hok
 have hvl := cB l
 have hnd := rW l
 have hoks := jZ hok
 have h40 : sizes l <= 4000 := by simp only [termsOk, Bool.and_eq_true, decide_eq_true_eq] at hok; exact hok.2.2
 generalize hvs : varsOf l = vs at *
 refine k128.pure (by simp) (by simp [go_sem]) (by simp [go_sem, -List.map_map]) ?_
 simp -implicitDefEqProofs only [go_sem, c128, r128]
 refine aC hC q211 ?_
 simp -implicitDefEqProofs only [go_sem, ne00]
 refine aZ hC (fun j _ => [(26, .i j), (24, .sl 1 (vs.map encI)), (25, .i vs.length), (7, .ref 1 0), (0, .sl 4 (l.map enc)), (5, .sl 1 (vs.map encI))]) (fun j (_ : Unit) h => h = [.map ((vs.take j).map encI) ((List.range j).map fun i => AV.i (i : Nat)), .cells 230 [.mp 0]]) vs.length ?_ fun j _ h hj hh => ?_
 ·exact ⟨(), _, Wk.pick (Nat.zero_le _) (by simp [go_sem]), by simp⟩
 subst hh
 simp -implicitDefEqProofs only [go_sem]
 refine aG (fun hlt => ?_) (fun hlt => ?_)
 ·have hlt := aI hlt
  have w5 : IntKind.i64.wrap ((j : Int) + 1) = (j : Int) + 1 := aF _ (by omega)
  have hi := sF (wD hnd hlt)
  simp -implicitDefEqProofs only [go_sem, hlt, aP, encI, fJ, hi]
  refine ⟨(), _, Wk.pick (Nat.zero_le _) (by simp [go_sem, w5]), ?_⟩
  simp [bI hlt, encI]
 have hge := aK hlt
 simp -implicitDefEqProofs only [go_sem, hlt, cC hge]
 have hjl : j = vs.length := by omega
 subst hjl
 refine aZ hC (fun j a => [(37, .i j), (10, .own a 4 ((l.take j).map fun t => enc (t.sub (varF (idx0 vs))))), (35, .sl 4 (l.map enc)), (36, .i l.length), (7, .ref 1 0), (5, .sl 1 (vs.map encI))]) (fun j a h => h[a]? = some (.spare 24 4) /\ h[0]? = some (.map (vs.map encI) ((List.range vs.length).map fun i => AV.i (i : Nat))) /\ h[1]? = some (.cells 230 [.mp 0])) l.length ?_ fun j a h hj ⟨ha, hm, hk⟩ => ?_
 ·refine ⟨2, _, (Wk.own_nil 24 4 10 (by simp [go_sem]) (by simp)).trans (Wk.pick (by simp) (by simp [go_sem])), rfl, rfl, rfl⟩
 have ha_g := fun l => aE (l := l) ha
 have ha_s := fun o l => aJ (l := l) ha o
 have ha_e := fun o l => aH (o := o) (l := l) ha
 have ha_h := fun o => aL (o := o) ha
 have hm_g := fun l => aE (l := l) hm
 have hm_s := fun o l => aJ (l := l) hm o
 have hm_e := fun o l => aH (o := o) (l := l) hm
 have hm_h := fun o => aL (o := o) hm
 have hk_g := fun l => aE (l := l) hk
 have hk_s := fun o l => aJ (l := l) hk o
 have hk_e := fun o l => aH (o := o) (l := l) hk
 have hk_h := fun o => aL (o := o) hk
 simp -implicitDefEqProofs only [go_sem]
 refine aG (fun hlt => ?_) (fun hlt => ?_)
 ·have hlt := aI hlt
  have g1 := bA hlt
  have w5 : IntKind.i64.wrap ((j : Int) + 1) = (j : Int) + 1 := aF _ (by omega)
  have hm1 := List.getElem_mem hlt
  have g2 := lA (idx0 vs) l[j]
  have g3 := ok_sub (idx0 vs) l[j] (hoks _ hm1) fun v _ => by have := gH vs v; omega
  simp -implicitDefEqProofs only [go_sem, hlt, aP]
  refine aR hC (h212 213 [.ref 1 0] (varF (idx0 vs)) (fun v => by rw [varF, bC, Tm.l_mk]; simp only [sizes]; omega) l[j] _ (by omega) (by omega) (oF _ _ (cW hs _ hm1)) fun v h' hk' => h213 v vs 1 0 h' (hk'.got (hk_g _)) (hk'.got (hm_g _))) fun x h3 ⟨hx, hk3⟩ => ?_
  subst hx
  have a3 := hk3.got (ha_g _)
  have m3 := hk3.got (hm_g _)
  have k3 := hk3.got (hk_g _)
  have a3_g := fun l => aE (l := l) a3
  have a3_s := fun o l => aJ (l := l) a3 o
  have a3_e := fun o l => aH (o := o) (l := l) a3
  have a3_h := fun o => aL (o := o) a3
  rw [if_pos g3, if_pos g3]
  simp -implicitDefEqProofs only [go_sem, List.append_assoc, a3_g, a3_s]
  refine ⟨by simp; omega, ?_⟩
  refine ⟨h3.length + 2, _, Wk.pick (Nat.zero_le _) (by simp [go_sem, w5, bI hlt]), ?_, ?_, ?_⟩
  ·rw [cX (by simp)]; simp
  ·exact bE m3 a3 (by simp)
  ·exact bE k3 a3 (by simp)
 ·have hge := aK hlt
  simp -implicitDefEqProofs only [go_sem, hlt, cC hge]
  refine aD ?_ (by simp [go_sem, -List.map_map])
  simp [go_sem]
theorem oZ (l : List Tm) (j : Nat) : sizes (l.drop j) <= sizes l := by
 conv => rhs; rw [<- List.take_append_drop j l, cF]
 omega
def Cl.cut (c : Cl) (l : List Tm) (vars : Int) : Cl := ⟨c.mark, vars, l.take c.head.length, (l.drop c.head.length).take c.guard.length, l.drop (c.head.length + c.guard.length)⟩
theorem h141 (c : Cl) (l : List Tm) (vars : Int) (hl : sizes l < 2 ^ 30) (hab : c.head.length + c.guard.length <= l.length) : Pure (PC GL) 141 [encCl c, .sl 4 (l.map enc), .i vars] (encCl (c.cut l vars)) := by
 have h4 := aM l
 have w : IntKind.i64.wrap ((c.head.length : Int) + (c.guard.length : Int)) = ((c.head.length + c.guard.length : Nat) : Int) := by rw [aF _ (by omega)]; simp
 have e1 : ((l.map enc).drop (Int.toNat 0)).take (c.head.length - Int.toNat 0) = (l.take c.head.length).map enc := by simp
 have e2 : ((l.map enc).drop c.head.length).take (c.head.length + c.guard.length - c.head.length) = ((l.drop c.head.length).take c.guard.length).map enc := by rw [Nat.add_sub_cancel_left, List.map_take, List.map_drop]
 have e3 : ((l.map enc).drop (c.head.length + c.guard.length)).take (l.length - (c.head.length + c.guard.length)) = (l.drop (c.head.length + c.guard.length)).map enc := by rw [List.map_drop, List.take_of_length_le (by simp)]
 have q1 := h207 (GL := GL) (sizes l) (l.take c.head.length) (bF _ _) hl
 have q2 := h207 (GL := GL) (sizes l) ((l.drop c.head.length).take c.guard.length) (Nat.le_trans (bF _ _) (oZ _ _)) hl
 have q3 := h207 (GL := GL) (sizes l) (l.drop (c.head.length + c.guard.length)) (oZ _ _) hl
 refine k141.pure (by simp) (by simp [go_sem]) (by simp [go_sem]) ?_
 simp -implicitDefEqProofs only [go_sem, c141, r141, encCl, w, Int.toNat_natCast, e1, e2, e3]
 refine ⟨by omega, by omega, by omega, ?_⟩
 refine aC hC q1 ?_
 simp -implicitDefEqProofs only [go_sem]
 refine aC hC q2 ?_
 simp -implicitDefEqProofs only [go_sem]
 refine aC hC q3 ?_
 simp -implicitDefEqProofs only [go_sem]
 refine aD ?_ ?_ <;> simp [go_sem, Cl.cut, -List.map_take, -List.map_drop]
end Go.Rip
namespace Go.Rip
open Go
set_option maxRecDepth 100000
theorem dG (g : Int -> Int) (l : List Tm) : sizes (l.map (Tm.sub (varF g))) <= sizes l := gG fun x _ => lA g x
def Cl.normal (c : Cl) : Cl := c.cut (c.parts.map (Tm.sub (varF (idx0 (varsOf c.parts))))) (varsOf c.parts).length
theorem cS {c : Cl} {ar : Int} (h : c.shaped ar = true) : termsOk c.parts = true := by
 simp only [Cl.shaped, Bool.and_eq_true] at h
 exact h.2.1
theorem h47ok (c : Cl) (ht : sizes c.parts < 2 ^ 30) (hs : strss c.parts) (h16 : c.head.length <= 16) (hsh : c.shaped c.head.length = true) : Pure (PC GLs) 47 [encCl c] (.tup [encCl c.normal, .i 0]) := by
 have hok := cS hsh
 have h4 := aM c.parts
 have q139 := h139 c c.head.length ht hs
 rw [hsh] at q139
 have q140 := h140 (GL := GLs) c (by omega)
 have q128 := h128 (GL := GLs) c.parts ht hs hok
 have q141 := h141 (GL := GLs) c (c.parts.map (Tm.sub (varF (idx0 (varsOf c.parts))))) (varsOf c.parts).length (by have := dG (idx0 (varsOf c.parts)) c.parts; omega) (by simp [Cl.parts])
 have e16 : decide ((c.head.length : Int) > 16) = false := decide_eq_false (by omega)
 simp only [encCl] at q139 q140 q141
 refine k47.pure (by simp) (by simp [go_sem]) (by simp [go_sem]) ?_
 simp -implicitDefEqProofs only [go_sem, c47, r47, encCl, e16]
 refine aC hC q139 ?_
 simp -implicitDefEqProofs only [go_sem, Bool.not_true]
 refine aC hC q140 ?_
 simp -implicitDefEqProofs only [go_sem]
 refine aC hC q128 ?_
 simp -implicitDefEqProofs only [go_sem, ne00]
 refine aC hC q141 ?_
 simp -implicitDefEqProofs only [go_sem]
 refine aD ?_ ?_ <;> simp [go_sem, Cl.normal]
end Go.Rip
namespace Go.Rip
open Go Go.Proofs
set_option maxRecDepth 100000
variable {GL : Glob}
theorem h257p {Φ : List Tm -> List AObj -> Prop} {K : Nat -> AObj -> Prop} {p : Tm -> Prop} (happ : ∀ v h l, Φ v h -> Φ v (h ++ l)) (hK : ∀ v h, Φ v h -> ∀ i cs, h.length <= i -> ¬ K i (.cells 24 cs)) (k N : Nat)
  (hY : ∀ v x h, p x -> v.length < N -> Φ v h -> PC GL (.yld k) [enc x] h fun r h' => r = .val (.b true) /\ Φ (v ++ [x]) h' /\ Keep K h h') (t : Tm) (ht : t.size < 2 ^ 30) (hp : ∀ x ∈ t.pre, p x) :
  ∀ v h, v.length + t.size <= N -> Φ v h -> Gives (PC GL) 257 [enc t, .yld k] h fun x h' => x = .b true /\ Φ (v ++ t.pre) h' /\ Keep K h h' := by
 induction t using bY with
 | _ t ih =>
 intro v h hN hv
 have hs := bC t
 have h4 := aM t.l
 have hpk : ∀ x ∈ t.l, ∀ y ∈ x.pre, p y := fun x hx y hy => hp y (by
  rw [iM]
  obtain ⟨a, b, e⟩ := List.append_of_mem hx
  rw [e, kN]
  simp only [pres, List.mem_cons, List.mem_append]
  exact .inr (.inr (.inl hy)))
 refine k257.gives (by simp) ?_
 simp -implicitDefEqProofs only [go_sem, c257, r257]
 refine fC hC (hY v t _ (hp t (by rw [iM]; simp)) (by omega) (happ _ _ _ hv)) fun r h1 ⟨hr, hv1, hk1⟩ => ?_
 subst hr
 have hb : h1[h.length]? = some (.cells 24 (enc t).cells) := hk1.get (by simp [go_sem]) (hK v h hv _ _ (Nat.le_refl _))
 have hk0 : Keep K h h1 := hk1.left
 simp -implicitDefEqProofs only [go_sem, hb]
 refine aZ hC (fun j _ => [(14, .i j), (12, .sl 4 (t.l.map enc)), (13, .i t.l.length), (1, .yld k)]) (fun j (_ : Unit) h' => Φ (v ++ (t :: pres (t.l.take j))) h' /\ Keep K h h') t.l.length ?_ ?_
 ·exact ⟨(), h1, Wk.pick hk0.1 (by simp [go_sem]), by simpa [pres] using hv1, hk0⟩
 ·rintro j - h2 hj ⟨hv2, hk2⟩
  simp -implicitDefEqProofs only [go_sem]
  refine aG (fun hlt => ?_) (fun hlt => ?_)
  ·have hlt := aI hlt
   have g1 := bA hlt
   have g2 := bF t.l (j + 1)
   have g3 := bH hlt
   have w5 : IntKind.i64.wrap ((j : Int) + 1) = (j : Int) + 1 := aF _ (by omega)
   simp -implicitDefEqProofs only [go_sem, hlt, aP]
   refine aR hC (ih _ (List.getElem_mem hlt) (by omega) (hpk _ (List.getElem_mem hlt)) (v ++ (t :: pres (t.l.take j))) _ (by simp only [List.length_append, List.length_cons, cE]; omega) (happ _ _ _ hv2)) fun x h3 ⟨hx, hv3, hk3⟩ => ?_
   subst hx
   have hk4 : Keep K h h3 := hk2.trans hk3.left
   simp -implicitDefEqProofs only [go_sem]
   exact ⟨(), h3, Wk.pick hk4.1 (by simp [go_sem, w5]), by rw [dX hlt]; simpa using hv3, hk4⟩
  ·have hge := aK hlt
   rw [aQ hge] at hv2
   simp -implicitDefEqProofs only [go_sem, hlt]
   exact aS hk2.1 ⟨rfl, by rw [iM]; exact hv2, hk2⟩
theorem g256p {Φ : List Tm -> List AObj -> Prop} {K : Nat -> AObj -> Prop} {p : Tm -> Prop} (happ : ∀ v h l, Φ v h -> Φ v (h ++ l)) (hK : ∀ v h, Φ v h -> ∀ i cs, h.length <= i -> ¬ K i (.cells 24 cs)) (k N : Nat)
  (hY : ∀ v x h, p x -> v.length < N -> Φ v h -> PC GL (.yld k) [enc x] h fun r h' => r = .val (.b true) /\ Φ (v ++ [x]) h' /\ Keep K h h') (t : Tm) (ht : t.size < 2 ^ 30) (hp : ∀ x ∈ t.pre, p x)
  (v : List Tm) (h : List AObj) (b : Nat) (hN : v.length + t.size <= N) (hv : Φ v h) (hb : h[b]? = some (.cells 24 (enc t).cells)) : PC GL (.gen 256) [.yld k, .ref b 0] h fun r h' => (∃ x, r = .val x) /\ Φ (v ++ t.pre) h' /\ Keep K h h' := by
 refine k256.gen (by simp) ?_
 simp -implicitDefEqProofs only [go_sem, c256, r256, hb]
 refine aR hC (h257p happ hK k N hY t ht hp v _ hN hv) fun x h3 ⟨hx, hv3, hk3⟩ => ?_
 simp -implicitDefEqProofs only [go_sem]
 exact ⟨_, h3, Wk.refl hk3.1, ⟨_, rfl⟩, hv3, hk3⟩
theorem y148 {τ : List (Nat × AV)} (h3 : tget τ 3 = .ref 1 0) (n : Int) (k : Nat) (x : Tm) (hx : x.kind = 1 -> 0 <= x.n /\ x.n < 100000 /\ 0 <= x.n + n /\ x.n + n < 100000) (h : List AObj) (h1 : h[1]? = some (.cells 3 [.v (.int .i64 n)]))
  (hl : h[k]? = some (.loop τ 40 [16] (rfAt Tryz.prog Tryz.f148 0).1 (rfAt Tryz.prog Tryz.f148 0).2 .ready none)) :
  PC GL (.yld k) [enc x] h fun r h' => r = .val (.b true) /\ Keep All h h' := by
 refine ayieldP hl kra148_0 krb148_0 rfl rfl rfl rfl ?_
 have hl' := fun l => aE (l := l) hl
 simp -implicitDefEqProofs only [go_sem, ra148_0, hl']
 rw [aJ hl]
 generalize hB : h.set k (AObj.loop τ 40 [16] (rfAt Tryz.prog Tryz.f148 0).1 (rfAt Tryz.prog Tryz.f148 0).2 LoopState.busy none) = hb
 have hne : k ≠ 1 := by rintro rfl; rw [hl] at h1; cases h1
 have q1 : hb[1]? = some (.cells 3 [.v (.int .i64 n)]) := by rw [<- hB, aN hne]; exact h1
 have qk : hb[k]? = some (.loop τ 40 [16] (rfAt Tryz.prog Tryz.f148 0).1 (rfAt Tryz.prog Tryz.f148 0).2 .busy none) := by rw [<- hB]; exact aL hl
 have hlen : h.length = hb.length := by rw [<- hB]; simp
 rw [hlen]
 have q1' := fun l => aE (l := l) q1
 have qk' := fun l => aE (l := l) qk
 have same : ∀ cs, ∃ h', Wk GL hb.length [] ((hb ++ [AObj.cells 24 cs]).set k (AObj.loop τ 40 [16] (rfAt Tryz.prog Tryz.f148 0).1 (rfAt Tryz.prog Tryz.f148 0).2 LoopState.ready none)) [] h' /\ Keep All h h' := fun cs => by
  refine ⟨_, Wk.refl (by simp), ?_⟩
  rw [aJ qk, <- hB, uT hl]
  exact Keep.app _ _ _
 by_cases hk : x.kind = 1
 ·have e : (x.kind == 1) = true := by simpa using hk
  obtain ⟨a1, a2, a3, a4⟩ := hx hk
  have w1 : IntKind.i64.wrap (0 - x.n) = 0 - x.n := aF _ (by omega)
  have w2 : IntKind.i64.wrap (100000 - x.n) = 100000 - x.n := aF _ (by omega)
  have d1 : decide (n < 0 - x.n) = false := decide_eq_false (by omega)
  have d2 : decide (n >= 100000 - x.n) = false := decide_eq_false (by omega)
  simp -implicitDefEqProofs only [go_sem, rb148_0, e, h3, q1', w1, w2, d1, d2, qk', Bool.not_false]
  exact same _
 ·have e : (x.kind == 1) = false := by simpa using hk
  simp -implicitDefEqProofs only [go_sem, rb148_0, e, qk']
  exact same _
theorem sub_congr {f g : Int -> Int} (t : Tm) (hg : ∀ v ∈ occ [t], f v = g v) : t.sub (varF f) = t.sub (varF g) := by
 induction t using bY with
 | _ t ih =>
 rw [dO (varF f), dO (varF g)]
 split
 ·rename_i hk
  rw [varF, varF, hg t.n (by rw [dT, vn, if_pos hk]; simp)]
 ·congr 1
  exact List.map_congr_left fun x hx => ih x hx fun v hv => hg v (lD hx hv)
theorem rT {t x : Tm} (hx : x ∈ t.pre) (hk : x.kind = 1) : x.n ∈ occ [t] := by
 simp only [occ, pres, List.append_nil, List.mem_filterMap]
 exact ⟨x, hx, by rw [vn, if_pos hk]⟩
theorem pX {t : Tm} (h : t.nodesOk = true) : ∀ v ∈ occ [t], 0 <= v /\ v < 100000 := by
 induction t using bY with
 | _ t ih =>
 intro v hv
 rw [dT] at hv
 have hh := h
 rw [bD, Bool.and_eq_true] at h
 have kids : v ∈ occ t.l -> 0 <= v /\ v < 100000 := by
  have : ∀ l : List Tm, (∀ x ∈ l, ∀ v ∈ occ [x], 0 <= v /\ v < 100000) -> v ∈ occ l -> 0 <= v /\ v < 100000 := by
   intro l
   induction l with
   | nil => intro _ hv; simp [occ_nil] at hv
   | cons y r ihr =>
    intro hl hv
    rw [fS, List.mem_append] at hv
    rcases hv with hv | hv
    ·exact hl y (by simp) v hv
    ·exact ihr (fun x hx => hl x (by simp [hx])) hv
  exact this t.l fun x hx => ih x hx (bP h.2 x hx)
 by_cases hk : t.kind = 1
 ·rw [vn, if_pos hk] at hv
  simp only [List.mem_cons] at hv
  rcases hv with rfl | hv
  ·exact (iG hh hk).2.2
  ·exact kids hv
 ·rw [vn, if_neg hk] at hv
  exact kids hv
theorem range148 {τ : List (Nat × AV)} (h3 : tget τ 3 = .ref 1 0) (n : Int) (t : Tm) (ht : t.size < 2 ^ 30) (hp : ∀ x ∈ t.pre, x.kind = 1 -> 0 <= x.n /\ x.n < 100000 /\ 0 <= x.n + n /\ x.n + n < 100000) (h : List AObj) {R : ARes -> List AObj -> Prop}
  (h0 : h = [.cells 24 [.v (.int .i64 t.kind), .v (.int .i64 t.n), .str t.s, .sl 4 (t.l.map enc)], .cells 3 [.v (.int .i64 n)], .cells 24 [.v (.int .i64 0), .v (.int .i64 0), .str [], .v (.slice none 0 0)], .cells 39 [.v (.int .i64 0)], .cells 24 [.v (.int .i64 t.kind), .v (.int .i64 t.n), .str t.s, .sl 4 (t.l.map enc)], .loop τ 40 [16] (rfAt Tryz.prog Tryz.f148 0).1 (rfAt Tryz.prog Tryz.f148 0).2 .ready none])
  {args : List AV} (ha : args = [.yld 5, .ref 4 0])
  (hR : ∀ x h', h'[0]? = some (.cells 24 [.v (.int .i64 t.kind), .v (.int .i64 t.n), .str t.s, .sl 4 (t.l.map enc)]) -> h'[1]? = some (.cells 3 [.v (.int .i64 n)]) -> h'[2]? = some (.cells 24 [.v (.int .i64 0), .v (.int .i64 0), .str [], .v (.slice none 0 0)]) -> h'[3]? = some (.cells 39 [.v (.int .i64 0)]) -> h'[5]? = some (.loop τ 40 [16] (rfAt Tryz.prog Tryz.f148 0).1 (rfAt Tryz.prog Tryz.f148 0).2 .ready none) -> R (.val x) h') : PC GL (.gen 256) args h R := by
 subst h0 ha
 refine fC hC (g256p (K := All) (p := fun x => x.kind = 1 -> 0 <= x.n /\ x.n < 100000 /\ 0 <= x.n + n /\ x.n + n < 100000) (Φ := fun _ h' => h'[0]? = some (.cells 24 [.v (.int .i64 t.kind), .v (.int .i64 t.n), .str t.s, .sl 4 (t.l.map enc)]) /\ h'[1]? = some (.cells 3 [.v (.int .i64 n)]) /\ h'[2]? = some (.cells 24 [.v (.int .i64 0), .v (.int .i64 0), .str [], .v (.slice none 0 0)]) /\ h'[3]? = some (.cells 39 [.v (.int .i64 0)]) /\ h'[5]? = some (.loop τ 40 [16] (rfAt Tryz.prog Tryz.f148 0).1 (rfAt Tryz.prog Tryz.f148 0).2 .ready none))
  (fun _ h' l e => by obtain ⟨a, b, c, d, f⟩ := e; exact ⟨aE a, aE b, aE c, aE d, aE f⟩) (fun _ _ _ _ _ _ => id) 5 (2 ^ 32) (fun v x h' hx hN e => fC hC (y148 h3 n 5 x hx h' e.2.1 e.2.2.2.2) fun r h'' q => by obtain ⟨a, b, c, d, f⟩ := e; exact ⟨q.1, ⟨q.2.got a, q.2.got b, q.2.got c, q.2.got d, q.2.got f⟩, q.2⟩)
  t ht hp [] _ 4 (by simp; omega) ⟨rfl, rfl, rfl, rfl, rfl⟩ (by rw [gA]; rfl)) fun r h2 q => ?_
 obtain ⟨⟨x, rfl⟩, ⟨q0, q1, q2, q3, q5⟩, -⟩ := q
 exact hR x h2 q0 q1 q2 q3 q5
theorem h148 (t : Tm) (n : Int) (ht : t.size < 2 ^ 30) (hs : t.strs) (hok : t.ok = true) (hg : ∀ v ∈ occ [t], 0 <= v + n /\ v + n < 100000) : Pure (PC GL) 148 [enc t, .i n] (.tup [enc (t.sub (varF fun v => v + n)), .i 0]) := by
 have q95 := h95 (GL := GL) t ht hs
 rw [hok, if_pos rfl] at q95
 have hnk : t.nodesOk = true := by simp only [Tm.ok, Bool.and_eq_true] at hok; exact hok.2.2
 have hob := pX hnk
 have h40 : t.size <= 4000 := by simp only [Tm.ok, Bool.and_eq_true, decide_eq_true_eq] at hok; exact hok.1
 have hc : t.sub (varF fun v => IntKind.i64.wrap (v + n)) = t.sub (varF fun v => v + n) := sub_congr t fun v hv => by
  have := hg v hv
  exact aF _ (by omega)
 have gs := lA (fun v => IntKind.i64.wrap (v + n)) t
 have gk := ok_sub (fun v => v + n) t hok hg
 refine k148.pure (by simp) (by simp [go_sem]) (by simp [go_sem]) ?_
 simp -implicitDefEqProofs only [c148, r148, go_sem]
 refine aC hC q95 ?_
 simp -implicitDefEqProofs only [go_sem, ne00]
 refine aR hC (h223 _ _) fun x h1 ⟨hx, hh⟩ => ?_
 subst hx; subst hh
 simp -implicitDefEqProofs only [go_sem]
 refine range148 (by simp [go_sem]) n t ht (fun x hx hk => ⟨(hob _ (rT hx hk)).1, (hob _ (rT hx hk)).2, hg _ (rT hx hk)⟩) _ rfl rfl fun x h2 q0 q1 q2 q3 q5 => ?_
 have k0 : (h2.set 5 .dead)[0]? = some (.cells 24 [.v (.int .i64 t.kind), .v (.int .i64 t.n), .str t.s, .sl 4 (t.l.map enc)]) := by rw [aN (by decide)]; exact q0
 have k1 : (h2.set 5 .dead)[1]? = some (.cells 3 [.v (.int .i64 n)]) := by rw [aN (by decide)]; exact q1
 have k2 : (h2.set 5 .dead)[2]? = some (.cells 24 [.v (.int .i64 0), .v (.int .i64 0), .str [], .v (.slice none 0 0)]) := by rw [aN (by decide)]; exact q2
 have k3 : (h2.set 5 .dead)[3]? = some (.cells 39 [.v (.int .i64 0)]) := by rw [aN (by decide)]; exact q3
 simp -implicitDefEqProofs only [go_sem, q5, k0]
 refine aR hC (h212 224 [.ref 1 0] (varF fun v => IntKind.i64.wrap (v + n)) (fun v => by rw [varF, bC, Tm.l_mk]; simp only [sizes]; omega) t _ ht (by omega) (oF _ _ hs) fun v h' hk' => h224 v n 1 h' (hk'.got k1)) fun x h3 ⟨hx, hk3⟩ => ?_
 subst hx
 rw [hc, if_pos gk, if_pos gk]
 have m2 := hk3.got k2
 have m3 := hk3.got k3
 have m4 := fun o => (aN (h := h3) (o := o) (show 2 ≠ 3 by decide)).trans m3
 have m5 := fun o o' => aL (o := o') (m4 o)
 have m6 := fun o o' => (aN (h := h3.set 2 o) (o := o') (show 3 ≠ 2 by decide)).trans (aL (o := o) m2)
 simp -implicitDefEqProofs only [go_sem, m2, m4, m5, m6]
 refine aD ?_ ?_ <;> simp [go_sem, iU]
end Go.Rip
namespace Go.Rip
open Go
set_option maxRecDepth 100000
def Cl.nul : Cl := ⟨0, 0, [], [], []⟩
theorem cN : wkr (.agg [.v (.int .i64 0), .v (.int .i64 0), .v (.slice none 0 0), .v (.slice none 0 0), .v (.slice none 0 0)]) (encCl Cl.nul) := by simp [encCl, Cl.nul, wkr, wkrs]
def Cl.fresh (c : Cl) (m : Int) : Cl := c.cut (c.parts.map (Tm.sub (varF fun v => v + m))) c.vars
def freshBad (c : Cl) (m : Int) : Prop := m < 0 ∨ m >= 100000 ∨ m > 100000 - c.vars
theorem oH {c : Cl} {ar : Int} (h : c.ok ar = true) : c.shaped ar = true /\ isRange (varsOf c.parts) = true /\ ((varsOf c.parts).length : Int) = c.vars := by
 simpa only [Cl.ok, normT, Bool.and_eq_true, beq_iff_eq] using h
theorem qL {l : List Int} (h : isRange l = true) {v : Int} (hv : v ∈ l) : 0 <= v /\ v < l.length := by
 obtain ⟨i, h1, h2⟩ := kQ hv
 have hi := nG h1
 rw [isRange, decide_eq_true_eq] at h
 rw [h i hi] at h2
 have := Option.some.inj h2
 omega
theorem h58ok (c : Cl) (m : Int) (ht : sizes c.parts < 2 ^ 30) (hs : strss c.parts) (h16 : c.head.length <= 16) (hok : c.ok c.head.length = true) : ∀ (_ : ¬ freshBad c m), Pure (PC GLs) 58 [encCl c, .i m] (.tup [encCl (c.fresh m), .i 0]) := by
 intro hb
 have b1 : ¬ m < 0 := fun h => hb (.inl h)
 have b2 : ¬ m >= 100000 := fun h => hb (.inr (.inl h))
 have b3 : ¬ m > 100000 - c.vars := fun h => hb (.inr (.inr h))
 obtain ⟨hsh, hr, hv⟩ := oH hok
 have hto := cS hsh
 have hoks := jZ hto
 have h4 := aM c.parts
 have hvl := cB c.parts
 have q143 := h143 c c.head.length ht hs
 rw [hok] at q143
 have q140 := h140 (GL := GLs) c (by omega)
 have q141 := h141 (GL := GLs) c (c.parts.map (Tm.sub (varF fun v => v + m))) c.vars (by have := dG (fun v => v + m) c.parts; omega) (by simp [Cl.parts])
 have e16 : decide ((c.head.length : Int) > 16) = false := decide_eq_false (by omega)
 have d1 : decide (m < 0) = false := decide_eq_false (by omega)
 have d2 : decide (m >= 100000) = false := decide_eq_false (by omega)
 have w0 : IntKind.i64.wrap (100000 - c.vars) = 100000 - c.vars := aF _ (by omega)
 have d3 : decide (m > 100000 - c.vars) = false := decide_eq_false (by omega)
 have hvar : ∀ t ∈ c.parts, ∀ v ∈ occ [t], 0 <= v + m /\ v + m < 100000 := fun t htm v hvm => by
  have := qL hr (mem_varsOf.2 (jA htm hvm))
  omega
 simp only [encCl] at q143 q140 q141
 refine k58.pure (by simp) (by simp [go_sem]) (by simp [go_sem]) ?_
 simp -implicitDefEqProofs only [go_sem, c58, r58, encCl, e16]
 refine aC hC q143 ?_
 simp -implicitDefEqProofs only [go_sem, Bool.not_true, d1, d2, w0, d3]
 refine aC hC q140 ?_
 simp -implicitDefEqProofs only [go_sem]
 refine aZ hC (fun j a => [(41, .i j), (6, .own a 4 ((c.parts.take j).map fun t => enc (t.sub (varF fun v => v + m)))), (39, .sl 4 (c.parts.map enc)), (40, .i c.parts.length), (1, .i m), (2, .ref 0 0), (4, .ref 1 0)]) (fun j a h => h[a]? = some (.spare 24 4) /\ h[0]? = some (.cells 68 (encCl c).cells) /\ h[1]? = some (.cells 68 [.v (.int .i64 0), .v (.int .i64 0), .v (.slice none 0 0), .v (.slice none 0 0), .v (.slice none 0 0)])) c.parts.length ?_ fun j a h hj ⟨ha, hm, hk⟩ => ?_
 ·refine ⟨2, _, (Wk.own_nil 24 4 6 (by simp [go_sem]) (by simp)).trans (Wk.pick (by simp) (by simp [go_sem])), rfl, rfl, rfl⟩
 simp only [encCl, AV.cells] at hm
 have ha_g := fun l => aE (l := l) ha
 have ha_s := fun o l => aJ (l := l) ha o
 have ha_e := fun o l => aH (o := o) (l := l) ha
 have ha_h := fun o => aL (o := o) ha
 have hm_g := fun l => aE (l := l) hm
 have hm_s := fun o l => aJ (l := l) hm o
 have hm_e := fun o l => aH (o := o) (l := l) hm
 have hm_h := fun o => aL (o := o) hm
 have hk_g := fun l => aE (l := l) hk
 have hk_s := fun o l => aJ (l := l) hk o
 have hk_e := fun o l => aH (o := o) (l := l) hk
 have hk_h := fun o => aL (o := o) hk
 simp -implicitDefEqProofs only [go_sem]
 refine aG (fun hlt => ?_) (fun hlt => ?_)
 ·have hlt := aI hlt
  have g1 := bA hlt
  have w5 : IntKind.i64.wrap ((j : Int) + 1) = (j : Int) + 1 := aF _ (by omega)
  have hm1 := List.getElem_mem hlt
  simp -implicitDefEqProofs only [go_sem, hlt, aP]
  refine aC hC (h148 c.parts[j] m (by omega) (cW hs _ hm1) (hoks _ hm1) (hvar _ hm1)) ?_
  simp -implicitDefEqProofs only [go_sem, aW, bG, List.append_assoc, ha_g, ha_s, ne00]
  refine ⟨by simp; omega, ?_⟩
  refine ⟨h.length + 3, _, Wk.pick (Nat.zero_le _) (by simp [go_sem, w5, bI hlt]), ?_, ?_, ?_⟩
  ·rw [cX (by simp)]; simp
  ·simp only [encCl, AV.cells]; exact bE hm ha (by simp)
  ·exact bE hk ha (by simp)
 ·have hge := aK hlt
  simp -implicitDefEqProofs only [go_sem, hlt, cC hge, hm]
  have em : (c.parts.map fun t => enc (t.sub (varF fun v => v + m))) = (c.parts.map (Tm.sub (varF fun v => v + m))).map enc := by simp
  rw [em]
  refine gX q141 (by simp [fzs, fzGs, fzG, dZ, <- fB, -List.map_map]) ?_
  simp -implicitDefEqProofs only [go_sem, hk, hk_h]
  refine aD ?_ ?_ <;> simp [go_sem, Cl.fresh]
theorem h58bad (c : Cl) (m : Int) (ht : sizes c.parts < 2 ^ 30) (hs : strss c.parts) (h16 : c.head.length <= 16) (hok : c.ok c.head.length = true) (hb : freshBad c m) : Pure (PC GLs) 58 [encCl c, .i m] (.tup [encCl Cl.nul, .i 1]) := by
 obtain ⟨hsh, hr, hv⟩ := oH hok
 have hvl := cB c.parts
 have q143 := h143 c c.head.length ht hs
 rw [hok] at q143
 have e16 : decide ((c.head.length : Int) > 16) = false := decide_eq_false (by omega)
 have w0 : IntKind.i64.wrap (100000 - c.vars) = 100000 - c.vars := aF _ (by omega)
 simp only [encCl] at q143
 refine k58.pure (by simp) (by simp [go_sem]) (by simp [go_sem]) ?_
 simp -implicitDefEqProofs only [go_sem, c58, r58, encCl, e16]
 refine aC hC q143 ?_
 by_cases b1 : m < 0
 ·have d1 : decide (m < 0) = true := decide_eq_true b1
  simp -implicitDefEqProofs only [go_sem, Bool.not_true, d1]
  exact aD (bL cN rfl) (by simp [go_sem])
 have d1 : decide (m < 0) = false := decide_eq_false b1
 by_cases b2 : m >= 100000
 ·have d2 : decide (m >= 100000) = true := decide_eq_true b2
  simp -implicitDefEqProofs only [go_sem, Bool.not_true, d1, d2]
  exact aD (bL cN rfl) (by simp [go_sem])
 have d2 : decide (m >= 100000) = false := decide_eq_false b2
 have d3 : decide (m > 100000 - c.vars) = true := decide_eq_true ((hb.resolve_left b1).resolve_left b2)
 simp -implicitDefEqProofs only [go_sem, Bool.not_true, d1, d2, w0, d3]
 exact aD (bL cN rfl) (by simp [go_sem])
end Go.Rip
namespace Go.Rip
open Go
set_option maxRecDepth 100000
variable {GL : Glob}
theorem h130 (t : Tm) (ht : t.size < 2 ^ 30) (hs : t.strs) (hok : t.ok = true) : Pure (PC GL) 130 [enc t] (.i 0) := by
 have q := h97 (GL := GL) t ht hs
 rw [hok] at q
 refine k130.pure (by simp) (by simp [go_sem]) (by simp [go_sem]) ?_
 simp -implicitDefEqProofs only [c130, r130, go_sem]
 refine aC hC q ?_
 simp -implicitDefEqProofs only [go_sem, Bool.not_true]
 refine aD ?_ ?_ <;> simp [go_sem]
theorem eU {h l : List AObj} {i j : Nat} {y o : AObj} (hj : h[j]? = some y) (hn : i ≠ j) : (h.set i o ++ l)[j]? = some y := aE ((aN hn).trans hj)
theorem gW {h l : List AObj} {i i' j : Nat} {y o o' : AObj} (hj : h[j]? = some y) (hn : i ≠ j) (hn' : i' ≠ j) : ((h.set i o).set i' o' ++ l)[j]? = some y := aE ((aN hn').trans ((aN hn).trans hj))
def ShAt (t : Tm) (m : Int) (g : Int -> Int) (j : Nat) (h : List AObj) : Prop :=
 h[0]? = some (.cells 24 [.v (.int .i64 t.kind), .v (.int .i64 t.n), .str t.s, .sl 4 (t.l.map enc)]) /\ h[1]? = some (.cells 24 [.v (.int .i64 0), .v (.int .i64 0), .str [], .v (.slice none 0 0)]) /\ ((j = 0 /\ h[2]? = some (.cells 24 [.v (.int .i64 t.kind), .v (.int .i64 m), .str t.s, .v (.slice none 0 0)])) ∨
  ∃ a, h[2]? = some (.cells 24 [.v (.int .i64 t.kind), .v (.int .i64 m), .str t.s, .own a 4 ((t.l.take j).map fun x => enc (x.sub (varF g)))]) /\ h[a]? = some (.spare 24 4))
theorem h222 (n : Int) (hn : -100000 <= n /\ n <= 100000) (t : Tm) (ht : t.size < 2 ^ 30) (hnk : t.nodesOk = true) (hg : ∀ v ∈ occ [t], 0 <= v + n /\ v + n < 100000) : Pure (PC GL) 222 [enc t, .i n] (.tup [enc (t.sub (varF fun v => v + n)), .b true]) := by
 induction t using bY with
 | _ t ih =>
 have hs := bC t
 have h4 := aM t.l
 have hnk' := hnk
 rw [bD, Bool.and_eq_true] at hnk
 have hse := dO (varF fun v => v + n) t
 have hob := pX hnk'
 refine k222.pure (by simp) (by simp [go_sem]) (by simp [go_sem]) ?_
 simp -implicitDefEqProofs only [c222, r222, go_sem]
 by_cases hx : t.kind = 1
 ·have e : (t.kind == 1) = true := by simpa using hx
  rw [if_pos hx] at hse
  obtain ⟨va, vb, vc, vd⟩ := iG hnk' hx
  have hv := hg t.n (by rw [dT, vn, if_pos hx]; simp)
  have w1 : IntKind.i64.wrap (t.n + n) = t.n + n := aF _ (by omega)
  have d1 : decide (n > 100000) = false := decide_eq_false (by omega)
  have d2 : decide (n < -100000) = false := decide_eq_false (by omega)
  have d3 : decide (t.n + n < 0) = false := decide_eq_false (by omega)
  have d4 : decide (t.n + n >= 100000) = false := decide_eq_false (by omega)
  simp -implicitDefEqProofs only [go_sem, e, d1, d2, w1, d3, d4]
  refine aZ hC (fun j (_ : Unit) => [(7, .i j), (1, .i n), (2, .ref 0 0), (4, .ref 1 0), (6, .ref 2 0)]) (fun j (_ : Unit) h => h = [.cells 24 [.v (.int .i64 t.kind), .v (.int .i64 t.n), .str t.s, .sl 4 (t.l.map enc)], .cells 24 [.v (.int .i64 0), .v (.int .i64 0), .str [], .v (.slice none 0 0)], .cells 24 [.v (.int .i64 t.kind), .v (.int .i64 (t.n + n)), .str t.s, .v (.slice none 0 0)]]) 0 ⟨(), _, Wk.pick (Nat.zero_le _) (by simp [go_sem]), rfl⟩ fun j _ h hj hh => ?_
  have hj0 : j = 0 := by omega
  subst hj0 hh
  simp -implicitDefEqProofs only [go_sem, vb, List.map_nil, List.length_nil, show decide (((0 : Nat) : Int) < ((0 : Nat) : Int)) = false from rfl]
  refine aD (bL ?_ rfl) (by simp [go_sem])
  rw [hse, varF, eJ, va, hx]
  simp [wkr, wkrs]
 ·have e : (t.kind == 1) = false := by simpa using hx
  rw [if_neg hx] at hse
  simp -implicitDefEqProofs only [go_sem, e]
  refine aZ hC (fun j (_ : Unit) => [(7, .i j), (1, .i n), (2, .ref 0 0), (4, .ref 1 0), (6, .ref 2 0)]) (fun j (_ : Unit) h => ShAt t t.n (fun v => v + n) j h) t.l.length ⟨(), _, Wk.pick (Nat.zero_le _) (by simp [go_sem]), rfl, rfl, .inl ⟨rfl, rfl⟩⟩ fun j _ h hj ⟨o0, o1, o2⟩ => ?_
  have o0_g := fun l => aE (l := l) o0
  have o0_s := fun o l => aJ (l := l) o0 o
  have o0_e := fun o l => aH (o := o) (l := l) o0
  have o0_h := fun o => aL (o := o) o0
  have o1_g := fun l => aE (l := l) o1
  have o1_s := fun o l => aJ (l := l) o1 o
  have o1_e := fun o l => aH (o := o) (l := l) o1
  have o1_h := fun o => aL (o := o) o1
  simp -implicitDefEqProofs only [go_sem, o0]
  refine aG (fun hlt => ?_) (fun hlt => ?_)
  ·have hlt := aI hlt
   have g1 := bA hlt
   have w5 : IntKind.i64.wrap ((j : Int) + 1) = (j : Int) + 1 := aF _ (by omega)
   have hm1 := List.getElem_mem hlt
   simp -implicitDefEqProofs only [go_sem, hlt, aP, o0]
   refine aC hC (ih _ hm1 (by omega) (bP hnk.2 _ hm1) fun v hv => hg v (lD hm1 hv)) ?_
   simp -implicitDefEqProofs only [go_sem, List.append_assoc, Bool.not_true]
   rcases o2 with ⟨hj0, o2⟩ | ⟨a, o2, ha⟩
   ·subst hj0
    have o2_g := fun l => aE (l := l) o2
    have o2_s := fun o l => aJ (l := l) o2 o
    have o2_e := fun o l => aH (o := o) (l := l) o2
    have o2_h := fun o => aL (o := o) o2
    simp -implicitDefEqProofs only [go_sem, o2_g, o2_s]
    refine ⟨by simp only [List.length_cons, List.length_nil]; decide, ?_⟩
    refine ⟨(), _, Wk.pick (Nat.zero_le _) (by simp [go_sem, show IntKind.i64.wrap 1 = 1 from rfl]), eU o0 (by decide), eU o1 (by decide), .inr ⟨h.length + 2, ?_, ?_⟩⟩
    ·rw [o2_e, List.take_succ_eq_append_getElem hlt]; rfl
    ·rw [cX (by simp)]; simp
   ·skip
    have o2_g := fun l => aE (l := l) o2
    have o2_s := fun o l => aJ (l := l) o2 o
    have o2_e := fun o l => aH (o := o) (l := l) o2
    have o2_h := fun o => aL (o := o) o2
    have ha_g := fun l => aE (l := l) ha
    have ha_s := fun o l => aJ (l := l) ha o
    have ha_e := fun o l => aH (o := o) (l := l) ha
    have ha_h := fun o => aL (o := o) ha
    have o2_hab := fun o l => bE (o := o) (l := l) o2 ha (by simp)
    have o2_has := fun o l x => dJ (o := o) (l := l) (x' := x) o2 ha (by simp)
    have o2_hag := fun o l x => cZ (o := o) (l := l) (x' := x) o2 ha (by simp)
    have o2_hak := fun o l x => cY (o := o) (l := l) (x' := x) o2 ha (by simp)
    simp -implicitDefEqProofs only [go_sem, List.append_assoc, o2_g, ha_g, ha_s, o2_hab, o2_has]
    refine ⟨by simp; omega, ?_⟩
    have n0 := bS ha o0 (by simp)
    have n1 := bS ha o1 (by simp)
    refine ⟨(), _, Wk.pick (Nat.zero_le _) (by simp [go_sem, w5]), gW o0 n0 (by decide), gW o1 n1 (by decide), .inr ⟨h.length + 2, ?_, ?_⟩⟩
    ·rw [o2_hag, bI hlt]
    ·rw [cX (by simp)]; simp
  ·have hge := aK hlt
   have o1a := fun o => aL (o := o) o1
   rcases o2 with ⟨hj0, o2⟩ | ⟨a, o2, ha⟩
   ·have hnil : t.l = [] := List.length_eq_zero_iff.1 (by omega)
    simp -implicitDefEqProofs only [go_sem, hlt, o1, o2, o1a]
    refine aD (bL ?_ rfl) (by simp [go_sem])
    rw [hse, eJ, hnil]
    simp [wkr, wkrs]
   ·simp -implicitDefEqProofs only [go_sem, hlt, o1, o2, o1a, aQ hge]
    refine aD (bL ?_ rfl) (by simp [go_sem])
    rw [hse]
    exact pH (F := varF fun v => v + n)
theorem h147 (n : Int) (hn : -100000 <= n /\ n <= 100000) (t : Tm) (ht : t.size < 2 ^ 30) (hs : t.strs) (hok : t.ok = true) (hg : ∀ v ∈ occ [t], 0 <= v + n /\ v + n < 100000) : Pure (PC GL) 147 [enc t, .i n] (.tup [enc (t.sub (varF fun v => v + n)), .i 0]) := by
 have hnk : t.nodesOk = true := by simp only [Tm.ok, Bool.and_eq_true] at hok; exact hok.2.2
 refine k147.pure (by simp) (by simp [go_sem]) (by simp [go_sem]) ?_
 simp -implicitDefEqProofs only [c147, r147, go_sem]
 refine aC hC (h130 t ht hs hok) ?_
 simp -implicitDefEqProofs only [go_sem, ne00]
 refine aC hC (h222 n hn t ht hnk hg) ?_
 simp -implicitDefEqProofs only [go_sem, Bool.not_true]
 refine aD ?_ ?_ <;> simp [go_sem, iU]
end Go.Rip
namespace Go.Rip
open Go
set_option maxRecDepth 100000
attribute [local simp] Tm.kind_mk Tm.n_mk Tm.s_mk Tm.l_mk
variable (g : Int -> Int)
theorem fG (t : Tm) : (t.sub (varF g)).kind = t.kind /\ (t.kind ≠ 1 -> (t.sub (varF g)).n = t.n /\ (t.sub (varF g)).s = t.s /\ (t.sub (varF g)).l = t.l.map (Tm.sub (varF g))) := by
 rw [dO]
 by_cases h : t.kind = 1
 ·rw [if_pos h]; simp [varF, h]
 ·rw [if_neg h]; simp
theorem expr_sub (t : Tm) : (t.sub (varF g)).expr = t.expr := by
 induction t using bY with
 | _ t ih =>
 obtain ⟨a, b⟩ := fG g t
 rw [nF, nF t, a]
 by_cases h : t.kind = 1
 ·simp [h]
 ·obtain ⟨b1, b2, b3⟩ := b h
  have : ∀ l : List Tm, (∀ x ∈ l, (x.sub (varF g)).expr = x.expr) -> exprs (l.map (Tm.sub (varF g))) = exprs l := by
   intro l
   induction l with
   | nil => intro _; rfl
   | cons y r ihr => intro hl; simp only [List.map_cons, exprs]; rw [hl y (by simp), ihr fun x hx => hl x (by simp [hx])]
  rw [b2, b3, List.length_map, this t.l ih]
theorem exprs_sub (l : List Tm) : exprs (l.map (Tm.sub (varF g))) = exprs l := by
 induction l with
 | nil => rfl
 | cons y r ihr => simp only [List.map_cons, exprs]; rw [expr_sub, ihr]
theorem oR (t : Tm) (s : List UInt8) : (t.sub (varF g)).isAtom s = t.isAtom s := by
 obtain ⟨a, b⟩ := fG g t
 rw [Tm.isAtom, Tm.isAtom, a]
 by_cases h : t.kind = 1
 ·simp [h]
 ·rw [(b h).2.1]
theorem jE (t : Tm) (s : List UInt8) (n : Int) : (t.sub (varF g)).isFun s n = t.isFun s n := by
 obtain ⟨a, b⟩ := fG g t
 rw [Tm.isFun, Tm.isFun, a]
 by_cases h : t.kind = 1
 ·simp [h]
 ·rw [(b h).2.1, (b h).2.2, List.length_map]
theorem sK (t : Tm) : (t.sub (varF g)).test = t.test := by
 obtain ⟨a, b⟩ := fG g t
 rw [Tm.test, Tm.test, oR, a]
 by_cases h : t.kind = 1
 ·simp [h]
 ·rw [(b h).2.1, (b h).2.2, List.length_map, exprs_sub]
theorem lU (t : Tm) : (t.sub (varF g)).gkind = t.gkind := by
 obtain ⟨a, b⟩ := fG g t
 by_cases h : t.kind = 1
 ·have e1 : t.isSym = false := by simp [Tm.isSym, h]
  have e2 : (t.sub (varF g)).isSym = false := by simp [Tm.isSym, a, h]
  rw [Tm.gkind, if_pos e2, Tm.gkind, if_pos e1]
 ·have e : (t.sub (varF g)).sym = t.sym := by rw [Tm.sym, Tm.sym, (b h).2.1, (b h).2.2, List.length_map]
  rw [Tm.gkind, Tm.gkind, oR, jE, jE, e, Tm.isSym, Tm.isSym, a]
theorem tD (t : Tm) : ((t.sub (varF g)).goal).1 = t.goal.1 := by
 obtain ⟨a, b⟩ := fG g t
 have g0 : ∀ u : Tm, u.isFun [64] 2 = false -> u.goal.1 = u.gkind := fun u hu => by
  simp only [Tm.goal, hu]
  by_cases h : u.gkind = 0
  ·rw [if_pos h, h]
  ·rw [if_neg h]
 cases hf : t.isFun [64] 2
 ·rw [g0 _ (by rw [jE]; exact hf), g0 _ hf, lU]
 ·have h : t.kind ≠ 1 := by
   have := (lQ hf).1
   rw [this]; simp
  rw [Tm.goal, Tm.goal, jE, lU, hf, (b h).2.2]
  rcases hl : t.l with _ | ⟨x, _ | ⟨p, _ | ⟨q, r⟩⟩⟩
  ·rfl
  ·rfl
  ·simp only [List.map_cons, List.map_nil]
   obtain ⟨pa, pb⟩ := fG g p
   rw [lU, pa]
   by_cases hp : p.kind = 1
   ·rw [if_pos (.inl (by omega)), if_pos (.inl (by omega))]
   ·rw [(pb hp).1]
    split <;> simp_all
  ·rfl
def Cl.mapT (c : Cl) (f : Tm -> Tm) (v : Int) : Cl := ⟨c.mark, v, c.head.map f, c.guard.map f, c.body.map f⟩
theorem cut_map (c : Cl) (f : Tm -> Tm) (v : Int) : c.cut (c.parts.map f) v = c.mapT f v := by
 simp only [Cl.cut, Cl.mapT, Cl.parts, List.map_append]
 congr 1
 ·rw [List.take_left' (by simp)]
 ·rw [List.drop_left' (by simp), List.take_left' (by simp)]
 ·rw [<- List.append_assoc, List.drop_left' (by simp)]
theorem dY (c : Cl) (f : Tm -> Tm) (v : Int) : (c.mapT f v).parts = c.parts.map f := by simp [Cl.mapT, Cl.parts]
theorem tH {g : Int -> Int} {l : List Tm} (h : termsOk l = true) (hg : ∀ v ∈ occ l, 0 <= g v /\ g v < 100000) : termsOk (l.map (Tm.sub (varF g))) = true := by
 simp only [termsOk, Bool.and_eq_true, decide_eq_true_eq] at h ⊢
 have h1 := dG g l
 have h2 : deeps (l.map (Tm.sub (varF g))) <= deeps l := gM fun x _ => tF g x
 exact ⟨gS fun x hx => mH g x (bP h.1 x hx) fun v hv => hg v (jA hx hv), by omega, by omega⟩
theorem wR {g : Int -> Int} (hinj : ∀ a b, g a = g b -> a = b) {c : Cl} {ar v : Int} (h : c.shaped ar = true) (hg : ∀ v ∈ occ c.parts, 0 <= g v /\ g v < 100000) : (c.mapT (Tm.sub (varF g)) v).shaped ar = true := by
 have hto := cS h
 have hno : nodesOks c.parts = true := by simp only [termsOk, Bool.and_eq_true] at hto; exact hto.1
 have hnh : nodesOks c.head = true := by simp only [Cl.parts, cR, Bool.and_eq_true] at hno; exact hno.1
 have hng : nodesOks c.guard = true := by simp only [Cl.parts, cR, Bool.and_eq_true] at hno; exact hno.2.1
 have hs := dG g c.parts
 simp only [Cl.shaped, Bool.and_eq_true] at h ⊢
 obtain ⟨h1, h2, h3, h4, h5, h6, h7⟩ := h
 rw [dY]
 refine ⟨?_, tH h2 hg, ?_, ?_, ?_, ?_, ?_⟩
 ·have e : (c.mapT (Tm.sub (varF g)) v).bad ar = c.bad ar := by simp only [Cl.bad, Cl.mapT, List.length_map]; rfl
  rw [e]; exact h1
 ·simp only [Bool.not_eq_true', decide_eq_false_iff_not] at h3 ⊢; omega
 ·rw [dI hinj hno, List.length_map]; exact h4
 ·simp only [Cl.mapT]
  rw [dI hinj hng, dI hinj hnh, List.any_map]
  have e : ((fun v => !(List.map g (varsOf c.head)).any fun x => v == x) ∘ g) = fun v => !(varsOf c.head).any fun x => v == x := by
   funext v
   simp only [Function.comp, List.any_map]
   congr 2
   funext x
   simp only [Function.comp]
   rw [Bool.eq_iff_iff, beq_iff_eq, beq_iff_eq]
   exact ⟨hinj v x, fun e => by rw [e]⟩
  rw [e]; exact h5
 ·simp only [Cl.mapT, List.any_map]
  have e : ((fun t : Tm => !t.test) ∘ Tm.sub (varF g)) = fun t => !t.test := by funext t; simp only [Function.comp, sK]
  rw [e]; exact h6
 ·simp only [Cl.mapT, List.any_map]
  have e : ((fun t : Tm => t.goal.1 == 0) ∘ Tm.sub (varF g)) = fun t => t.goal.1 == 0 := by funext t; simp only [Function.comp, tD]
  rw [e]; exact h7
end Go.Rip
namespace Go.Rip
open Go
set_option maxRecDepth 100000
theorem sub_agree (f g : Int -> Int) (t : Tm) (h : t.nodesOk = true) (hg : ∀ v ∈ occ [t], f v = g v) : t.sub (varF f) = t.sub (varF g) := by
 induction t using bY with
 | _ t ih =>
 rw [dO, dO]
 split
 ·rename_i hk
  rw [varF, varF, hg t.n (by rw [dT, vn, if_pos hk]; simp)]
 ·rw [bD, Bool.and_eq_true] at h
  have : t.l.map (Tm.sub (varF f)) = t.l.map (Tm.sub (varF g)) := List.map_congr_left fun x hx => ih x hx (bP h.2 x hx) fun v hv => hg v (lD hx hv)
  rw [this]
def gI (l : List Int) (v : Int) : Int := if v ∈ l then idx0 l v else if v < 0 then v else v + l.length + 1
theorem vW {l : List Int} {v : Int} (h : v ∈ l) : gI l v = idx0 l v := if_pos h
theorem wS (l : List Int) : ∀ a b, gI l a = gI l b -> a = b := fun a b e => by
 have ba := gH l a
 have bb := gH l b
 unfold gI at e
 by_cases ha : a ∈ l <;> by_cases hb : b ∈ l
 ·rw [if_pos ha, if_pos hb] at e
  obtain ⟨i, i1, i2⟩ := kQ ha
  obtain ⟨j, j1, j2⟩ := kQ hb
  rw [idx0, idx0, i1, j1] at e
  simp only [Option.getD_some] at e
  obtain rfl : i = j := by omega
  exact Option.some.inj (i2.symm.trans j2)
 ·rw [if_pos ha, if_neg hb] at e; split at e <;> omega
 ·rw [if_neg ha, if_pos hb] at e; split at e <;> omega
 ·rw [if_neg ha, if_neg hb] at e; split at e <;> split at e <;> omega
theorem qO : ∀ (vs l : List Int), l.Nodup -> (vs.foldl ins l).Nodup
 | [], l, h => h
 | v :: r, l, h => by
  rw [List.foldl_cons]
  refine qO r _ ?_
  unfold ins
  split
  ·rename_i hv
   rw [List.nodup_append]
   refine ⟨h, by simp, fun a ha b hb => ?_⟩
   rw [List.mem_singleton] at hb
   subst hb
   rw [List.any_eq_false] at hv
   have := hv a ha
   simpa using this
  ·exact h
theorem qZ (l : List Tm) : (varsOf l).Nodup := by rw [eV]; exact qO _ _ (by simp)
theorem idxI_at : ∀ {l : List Int} (_ : l.Nodup) {j : Nat} (hj : j < l.length), idxI l[j] l = some j
 | k :: r, hn, 0, _ => by simp [idxI]
 | k :: r, hn, j + 1, hj => by
  obtain ⟨h1, h2⟩ := List.nodup_cons.1 hn
  have hj' : j < r.length := by simpa using hj
  have e : ¬ r[j] = k := fun e => h1 (e ▸ List.getElem_mem hj')
  simp only [List.getElem_cons_succ, idxI, if_neg e, idxI_at h2 hj']; rfl
theorem range_idx (l : List Int) (hn : l.Nodup) : isRange (l.map (gI l)) = true := by
 unfold isRange
 refine decide_eq_true fun i hi => ?_
 have hi : i < l.length := by simpa using hi
 rw [List.getElem?_map, List.getElem?_eq_getElem hi, Option.map_some, vW (List.getElem_mem hi), idx0, idxI_at hn hi]; rfl
theorem iV {c : Cl} (h : nodesOks c.parts = true) : c.normal = c.mapT (Tm.sub (varF (gI (varsOf c.parts)))) (varsOf c.parts).length := by
 rw [Cl.normal, <- cut_map]
 congr 1
 refine List.map_congr_left fun t ht => sub_agree _ _ t (bP h t ht) fun v hv => ?_
 exact (vW (mem_varsOf.2 (jA ht hv))).symm
theorem normal_ok {c : Cl} {ar : Int} (h : c.shaped ar = true) : c.normal.ok ar = true := by
 have hto := cS h
 have hno : nodesOks c.parts = true := by simp only [termsOk, Bool.and_eq_true] at hto; exact hto.1
 have hsz : (varsOf c.parts).length <= 64 := by
  simp only [Cl.shaped, Bool.and_eq_true] at h
  have := of_decide_eq_true h.2.2.2.1
  omega
 have hb : ∀ v ∈ occ c.parts, 0 <= gI (varsOf c.parts) v /\ gI (varsOf c.parts) v < 100000 := fun v hv => by
  rw [vW (mem_varsOf.2 hv)]
  have := gH (varsOf c.parts) v
  omega
 rw [iV hno, Cl.ok, wR (wS _) h hb, Bool.true_and, dY, normT, dI (wS _) hno, range_idx _ (qZ _), Bool.true_and, List.length_map]
 simp [Cl.mapT]
end Go.Rip
namespace Go.Rip
open Go Go.Proofs
variable {GL : Glob}
attribute [local irreducible] Pure
end Go.Rip
namespace Go.Rip
open Go Go.Proofs
set_option maxRecDepth 100000
attribute [local irreducible] Pure
end Go.Rip
namespace Go.Rip
open Go Go.Proofs
set_option maxRecDepth 100000
variable {GL : Glob}
theorem qK {v : Int} : ∀ {l : List Int} {j : Nat} (hj : j < l.length), (∀ x ∈ l.take j, x ≠ v) -> l[j] = v -> idxI v l = some j
 | k :: r, 0, _, _, e => by simp at e; simp [idxI, e]
 | k :: r, j + 1, hj, h, e => by
  have h1 : k ≠ v := h k (by simp)
  have h2 := qK (v := v) (l := r) (j := j) (by simpa using hj) (fun x hx => h x (by simp [hx])) (by simpa using e)
  have h3 : ¬ v = k := fun e => h1 e.symm
  simp only [idxI, if_neg h3, h2, Option.map_some]
theorem h252 (l : List Int) (v : Int) (hl : l.length < 2 ^ 40) (hv : v ∈ l) : Pure (PC GL) 252 [.sl 1 (l.map encI), .i v] (.i (idx0 l v)) := by
 refine k252.pure (by simp) (by simp [go_sem]) (by simp [go_sem]) ?_
 simp -implicitDefEqProofs only [c252, r252, go_sem]
 refine aZ hC (fun j (_ : Unit) => [(5, .i j), (0, .sl 1 (l.map encI)), (1, .i v)]) (fun j (_ : Unit) _ => ∀ x ∈ l.take j, x ≠ v) l.length ⟨(), _, Wk.pick (Nat.zero_le _) (by simp [go_sem]), by simp⟩ fun j _ h hj hI => ?_
 simp -implicitDefEqProofs only [go_sem]
 refine aG (fun hlt => ?_) (fun hlt => ?_)
 ·have hlt := aI hlt
  have w5 : IntKind.i64.wrap ((j : Int) + 1) = (j : Int) + 1 := aF _ (by omega)
  simp -implicitDefEqProofs only [go_sem, hlt, aP, encI]
  by_cases hx : l[j] = v
  ·have e : (l[j] == v) = true := by simpa using hx
   have e2 : idx0 l v = j := by rw [idx0, qK hlt hI hx]; rfl
   simp -implicitDefEqProofs only [go_sem, e, e2]
   refine aD ?_ ?_ <;> simp [go_sem]
  ·have e : (l[j] == v) = false := by simpa using hx
   simp -implicitDefEqProofs only [go_sem, e, w5]
   refine ⟨(), _, Wk.pick (Nat.zero_le _) (by simp [go_sem]), fun x hm => ?_⟩
   rw [List.take_succ_eq_append_getElem hlt, List.mem_append, List.mem_singleton] at hm
   rcases hm with hm | rfl
   ·exact hI x hm
   ·exact hx
 ·have hge := aK hlt
  rw [aQ hge] at hI
  exact absurd rfl (hI v hv)
theorem h214 (vars : List Int) (hv : vars.length < 2 ^ 40) (t : Tm) (ht : t.size < 2 ^ 30) (hnk : t.nodesOk = true) (hg : ∀ v ∈ occ [t], v ∈ vars) : Pure (PC GL) 214 [enc t, .sl 1 (vars.map encI)] (enc (t.sub (varF (idx0 vars)))) := by
 induction t using bY with
 | _ t ih =>
 have hs := bC t
 have h4 := aM t.l
 have hnk' := hnk
 rw [bD, Bool.and_eq_true] at hnk
 have hse := dO (varF (idx0 vars)) t
 refine k214.pure (by simp) (by simp [go_sem]) (by simp [go_sem]) ?_
 simp -implicitDefEqProofs only [c214, r214, go_sem]
 by_cases hx : t.kind = 1
 ·have e : (t.kind == 1) = true := by simpa using hx
  rw [if_pos hx] at hse
  obtain ⟨va, vb, vc, vd⟩ := iG hnk' hx
  have q := h252 (GL := GL) vars t.n hv (hg t.n (by rw [dT, vn, if_pos hx]; simp))
  simp -implicitDefEqProofs only [go_sem, e]
  refine aC hC q ?_
  simp -implicitDefEqProofs only [go_sem]
  refine aZ hC (fun j (_ : Unit) => [(6, .i j), (1, .sl 1 (vars.map encI)), (2, .ref 0 0), (4, .ref 1 0), (5, .ref 2 0)]) (fun j (_ : Unit) h => h = [.cells 24 [.v (.int .i64 t.kind), .v (.int .i64 t.n), .str t.s, .sl 4 (t.l.map enc)], .cells 24 [.v (.int .i64 0), .v (.int .i64 0), .str [], .v (.slice none 0 0)], .cells 24 [.v (.int .i64 t.kind), .v (.int .i64 (idx0 vars t.n)), .str t.s, .v (.slice none 0 0)]]) 0 ⟨(), _, Wk.pick (Nat.zero_le _) (by simp [go_sem]), rfl⟩ fun j _ h hj hh => ?_
  have hj0 : j = 0 := by omega
  subst hj0 hh
  simp -implicitDefEqProofs only [go_sem, vb, List.map_nil, List.length_nil, show decide (((0 : Nat) : Int) < ((0 : Nat) : Int)) = false from rfl]
  refine aD ?_ (by simp [go_sem])
  rw [hse, varF, eJ, va, hx]
  simp [wkr, wkrs]
 ·have e : (t.kind == 1) = false := by simpa using hx
  rw [if_neg hx] at hse
  simp -implicitDefEqProofs only [go_sem, e]
  refine aZ hC (fun j (_ : Unit) => [(6, .i j), (1, .sl 1 (vars.map encI)), (2, .ref 0 0), (4, .ref 1 0), (5, .ref 2 0)]) (fun j (_ : Unit) h => ShAt t t.n (idx0 vars) j h) t.l.length ⟨(), _, Wk.pick (Nat.zero_le _) (by simp [go_sem]), rfl, rfl, .inl ⟨rfl, rfl⟩⟩ fun j _ h hj ⟨o0, o1, o2⟩ => ?_
  have o0_g := fun l => aE (l := l) o0
  have o0_s := fun o l => aJ (l := l) o0 o
  have o0_e := fun o l => aH (o := o) (l := l) o0
  have o0_h := fun o => aL (o := o) o0
  have o1_g := fun l => aE (l := l) o1
  have o1_s := fun o l => aJ (l := l) o1 o
  have o1_e := fun o l => aH (o := o) (l := l) o1
  have o1_h := fun o => aL (o := o) o1
  simp -implicitDefEqProofs only [go_sem, o0]
  refine aG (fun hlt => ?_) (fun hlt => ?_)
  ·have hlt := aI hlt
   have g1 := bA hlt
   have w5 : IntKind.i64.wrap ((j : Int) + 1) = (j : Int) + 1 := aF _ (by omega)
   have hm1 := List.getElem_mem hlt
   have q := ih _ hm1 (by omega) (bP hnk.2 _ hm1) fun v hv => hg v (lD hm1 hv)
   rcases o2 with ⟨hj0, o2⟩ | ⟨a, o2, ha⟩
   ·subst hj0
    have o2_g := fun l => aE (l := l) o2
    have o2_s := fun o l => aJ (l := l) o2 o
    have o2_e := fun o l => aH (o := o) (l := l) o2
    have o2_h := fun o => aL (o := o) o2
    simp -implicitDefEqProofs only [go_sem, hlt, aP, o0, o2]
    refine aC hC q ?_
    simp -implicitDefEqProofs only [go_sem, List.append_assoc, o2, o2_g, o2_s]
    refine ⟨by simp only [List.length_cons, List.length_nil]; decide, ?_⟩
    refine ⟨(), _, Wk.pick (Nat.zero_le _) (by simp [go_sem, show IntKind.i64.wrap 1 = 1 from rfl]), eU o0 (by decide), eU o1 (by decide), .inr ⟨h.length + 1, ?_, ?_⟩⟩
    ·rw [o2_e, List.take_succ_eq_append_getElem hlt]; rfl
    ·rw [cX (by simp)]; simp
   ·skip
    have o2_g := fun l => aE (l := l) o2
    have o2_s := fun o l => aJ (l := l) o2 o
    have o2_e := fun o l => aH (o := o) (l := l) o2
    have o2_h := fun o => aL (o := o) o2
    have ha_g := fun l => aE (l := l) ha
    have ha_s := fun o l => aJ (l := l) ha o
    have ha_e := fun o l => aH (o := o) (l := l) ha
    have ha_h := fun o => aL (o := o) ha
    have o2_hab := fun o l => bE (o := o) (l := l) o2 ha (by simp)
    have o2_has := fun o l x => dJ (o := o) (l := l) (x' := x) o2 ha (by simp)
    have o2_hag := fun o l x => cZ (o := o) (l := l) (x' := x) o2 ha (by simp)
    have o2_hak := fun o l x => cY (o := o) (l := l) (x' := x) o2 ha (by simp)
    simp -implicitDefEqProofs only [go_sem, hlt, aP, o0, o2]
    refine aC hC q ?_
    simp -implicitDefEqProofs only [go_sem, List.append_assoc, o2, o2_g, ha_g, ha_s, o2_hab, o2_has]
    refine ⟨by simp; omega, ?_⟩
    have n0 := bS ha o0 (by simp)
    have n1 := bS ha o1 (by simp)
    refine ⟨(), _, Wk.pick (Nat.zero_le _) (by simp [go_sem, w5]), gW o0 n0 (by decide), gW o1 n1 (by decide), .inr ⟨h.length + 1, ?_, ?_⟩⟩
    ·rw [o2_hag, bI hlt]
    ·rw [cX (by simp)]; simp
  ·have hge := aK hlt
   have o1a := fun o => aL (o := o) o1
   rcases o2 with ⟨hj0, o2⟩ | ⟨a, o2, ha⟩
   ·have hnil : t.l = [] := List.length_eq_zero_iff.1 (by omega)
    simp -implicitDefEqProofs only [go_sem, hlt, o1, o2, o1a]
    refine aD ?_ (by simp [go_sem])
    rw [hse, eJ, hnil]
    simp [wkr, wkrs]
   ·simp -implicitDefEqProofs only [go_sem, hlt, o1, o2, o1a, aQ hge]
    refine aD ?_ (by simp [go_sem])
    rw [hse]
    exact pH (F := varF (idx0 vars))
theorem h131 (l : List Tm) (hl : sizes l < 2 ^ 30) (hno : nodesOks l = true) : Pure (PC GL) 131 [.sl 4 (l.map enc)] (.tup [.sl 4 ((l.map (Tm.sub (varF (idx0 (varsOf l))))).map enc), .sl 1 ((varsOf l).map encI)]) := by
 have h4 := aM l
 have hvl := cB l
 have q59 := h59 (GL := GL) l hl
 have hmv : ∀ t ∈ l, ∀ v ∈ occ [t], v ∈ varsOf l := fun t ht v hv => mem_varsOf.2 (jA ht hv)
 generalize varsOf l = vars at *
 refine k131.pure (by simp) (by simp [go_sem]) (by simp [go_sem, -List.map_map]) ?_
 simp -implicitDefEqProofs only [go_sem, c131, r131]
 refine aC hC q59 ?_
 simp -implicitDefEqProofs only [go_sem]
 refine aZ hC (fun j a => [(6, .i j), (5, .own a 4 ((l.take j).map fun t => enc (t.sub (varF (idx0 vars))))), (0, .sl 4 (l.map enc)), (4, .sl 1 (vars.map encI))]) (fun j a h => h[a]? = some (.spare 24 4)) l.length ?_ fun j a h hj ha => ?_
 ·refine ⟨0, _, (Wk.own_nil (h := []) 24 4 5 (by simp [go_sem]) (Nat.zero_le _)).trans (Wk.pick (by simp) (by simp [go_sem])), rfl⟩
 have ha_g := fun l => aE (l := l) ha
 have ha_s := fun o l => aJ (l := l) ha o
 have ha_e := fun o l => aH (o := o) (l := l) ha
 have ha_h := fun o => aL (o := o) ha
 simp -implicitDefEqProofs only [go_sem]
 refine aG (fun hlt => ?_) (fun hlt => ?_)
 ·have hlt := aI hlt
  have g1 := bA hlt
  have w5 : IntKind.i64.wrap ((j : Int) + 1) = (j : Int) + 1 := aF _ (by omega)
  have hm1 := List.getElem_mem hlt
  simp -implicitDefEqProofs only [go_sem, hlt, aP]
  refine aC hC (h214 vars (by omega) l[j] (by omega) (bP hno _ hm1) (hmv _ hm1)) ?_
  simp -implicitDefEqProofs only [go_sem, List.append_assoc, ha_g, ha_s]
  refine ⟨by simp; omega, ?_⟩
  refine ⟨h.length + 1, _, Wk.pick (Nat.zero_le _) (by simp [go_sem, w5, bI hlt]), ?_⟩
  rw [cX (by simp)]; simp
 ·have hge := aK hlt
  simp -implicitDefEqProofs only [go_sem, hlt, cC hge]
  refine aD ?_ (by simp [go_sem, -List.map_map])
  simp [go_sem]
theorem h171 (c : Cl) (l : List Tm) (hl : sizes l < 2 ^ 30) (hab : c.head.length + c.guard.length <= l.length) : Pure (PC GL) 171 [encCl c, .sl 4 (l.map enc)] (encCl (c.cut l c.vars)) := by
 have h4 := aM l
 have w : IntKind.i64.wrap ((c.head.length : Int) + (c.guard.length : Int)) = ((c.head.length + c.guard.length : Nat) : Int) := by rw [aF _ (by omega)]; simp
 have e1 : ((l.map enc).drop (Int.toNat 0)).take (c.head.length - Int.toNat 0) = (l.take c.head.length).map enc := by simp
 have e2 : ((l.map enc).drop c.head.length).take (c.head.length + c.guard.length - c.head.length) = ((l.drop c.head.length).take c.guard.length).map enc := by rw [Nat.add_sub_cancel_left, List.map_take, List.map_drop]
 have e3 : ((l.map enc).drop (c.head.length + c.guard.length)).take (l.length - (c.head.length + c.guard.length)) = (l.drop (c.head.length + c.guard.length)).map enc := by rw [List.map_drop, List.take_of_length_le (by simp)]
 refine k171.pure (by simp) (by simp [go_sem]) (by simp [go_sem]) ?_
 simp -implicitDefEqProofs only [go_sem, c171, r171, encCl, w, Int.toNat_natCast, e1, e2, e3]
 refine ⟨by omega, by simp; omega, by omega, by simp; omega, by omega, by simp; omega, ?_⟩
 refine aD ?_ ?_ <;> simp [go_sem, Cl.cut, wkr, wkrs, -List.map_take, -List.map_drop]
def Cl.nOk (c : Cl) : Bool := decide (c.head.length <= 16) && c.shaped c.head.length
def Cl.nR (c : Cl) : Cl := if c.nOk then c.normal else Cl.nul
def Cl.nE (c : Cl) : Int := if c.nOk then 0 else 40
theorem h47 (c : Cl) (ht : sizes c.parts < 2 ^ 30) (hs : strss c.parts) : Pure (PC GLs) 47 [encCl c] (.tup [encCl c.nR, .i c.nE]) := by
 by_cases h16 : c.head.length <= 16
 ·rcases hsh : c.shaped c.head.length
  ·have e1 : c.nR = Cl.nul := by simp [Cl.nR, Cl.nOk, hsh]
   have e2 : c.nE = 40 := by simp [Cl.nE, Cl.nOk, hsh]
   rw [e1, e2]
   have q139 := h139 c c.head.length ht hs
   rw [hsh] at q139
   have e16 : decide ((c.head.length : Int) > 16) = false := decide_eq_false (by omega)
   simp only [encCl] at q139
   refine k47.pure (by simp) (by simp [go_sem]) (by simp [go_sem]) ?_
   simp -implicitDefEqProofs only [go_sem, c47, r47, encCl, e16]
   refine aC hC q139 ?_
   simp -implicitDefEqProofs only [go_sem, Bool.not_false]
   exact aD (bL cN rfl) (by simp [go_sem])
  ·have hn : c.nOk = true := by simp [Cl.nOk, hsh, h16]
   have e1 : c.nR = c.normal := by rw [Cl.nR, if_pos hn]
   have e2 : c.nE = 0 := by rw [Cl.nE, if_pos hn]
   rw [e1, e2]
   exact h47ok c ht hs h16 hsh
 ·have e1 : c.nR = Cl.nul := by simp [Cl.nR, Cl.nOk, h16]
  have e2 : c.nE = 40 := by simp [Cl.nE, Cl.nOk, h16]
  rw [e1, e2]
  have e16 : decide ((c.head.length : Int) > 16) = true := decide_eq_true (by omega)
  refine k47.pure (by simp) (by simp [go_sem]) (by simp [go_sem]) ?_
  simp -implicitDefEqProofs only [go_sem, c47, r47, encCl, e16]
  exact aD (bL cN rfl) (by simp [go_sem])
theorem sV (g : Int -> Int) (t : Tm) (h : t.nodesOk = true) : (t.sub (varF g)).size = t.size := by
 induction t using bY with
 | _ t ih =>
 rw [dO]
 split
 ·rename_i hk
  obtain ⟨_, vb, _, _⟩ := iG h hk
  rw [varF, bC, bC t, vb]; rfl
 ·rw [bD, Bool.and_eq_true] at h
  rw [bC, bC t, Tm.l_mk]
  congr 1
  have : ∀ l : List Tm, (∀ x ∈ l, (x.sub (varF g)).size = x.size) -> sizes (l.map (Tm.sub (varF g))) = sizes l := by
   intro l
   induction l with
   | nil => intro _; rfl
   | cons x r ih => intro h; simp only [List.map_cons, sizes, h x (by simp), ih fun y hy => h y (by simp [hy])]
  exact this _ fun x hx => ih x hx (bP h.2 x hx)
theorem lB (g : Int -> Int) : ∀ (l : List Tm), nodesOks l = true -> sizes (l.map (Tm.sub (varF g))) = sizes l
 | [], _ => rfl
 | x :: r, h => by
  simp only [nodesOks, Bool.and_eq_true] at h
  simp only [List.map_cons, sizes, sV g x h.1, lB g r h.2]
theorem sM {g : Int -> Int} (hinj : ∀ a b, g a = g b -> a = b) {c : Cl} {ar v : Int} (hto : termsOk c.parts = true) (h : (c.mapT (Tm.sub (varF g)) v).shaped ar = true) : c.shaped ar = true := by
 have hno : nodesOks c.parts = true := by simp only [termsOk, Bool.and_eq_true] at hto; exact hto.1
 have hnh : nodesOks c.head = true := by simp only [Cl.parts, cR, Bool.and_eq_true] at hno; exact hno.1
 have hng : nodesOks c.guard = true := by simp only [Cl.parts, cR, Bool.and_eq_true] at hno; exact hno.2.1
 have hs := lB g c.parts hno
 simp only [Cl.shaped, Bool.and_eq_true] at h ⊢
 obtain ⟨h1, h2, h3, h4, h5, h6, h7⟩ := h
 rw [dY] at h2 h3 h4
 refine ⟨?_, hto, ?_, ?_, ?_, ?_, ?_⟩
 ·have e : (c.mapT (Tm.sub (varF g)) v).bad ar = c.bad ar := by simp only [Cl.bad, Cl.mapT, List.length_map]; rfl
  rw [<- e]; exact h1
 ·simp only [Bool.not_eq_true', decide_eq_false_iff_not] at h3 ⊢; omega
 ·rw [dI hinj hno, List.length_map] at h4; exact h4
 ·simp only [Cl.mapT] at h5
  rw [dI hinj hng, dI hinj hnh, List.any_map] at h5
  have e : ((fun v => !(List.map g (varsOf c.head)).any fun x => v == x) ∘ g) = fun v => !(varsOf c.head).any fun x => v == x := by
   funext v
   simp only [Function.comp, List.any_map]
   congr 2
   funext x
   simp only [Function.comp]
   rw [Bool.eq_iff_iff, beq_iff_eq, beq_iff_eq]
   exact ⟨hinj v x, fun e => by rw [e]⟩
  rw [e] at h5; exact h5
 ·simp only [Cl.mapT, List.any_map] at h6
  have e : ((fun t : Tm => !t.test) ∘ Tm.sub (varF g)) = fun t => !t.test := by funext t; simp only [Function.comp, sK]
  rw [e] at h6; exact h6
 ·simp only [Cl.mapT, List.any_map] at h7
  have e : ((fun t : Tm => t.goal.1 == 0) ∘ Tm.sub (varF g)) = fun t => t.goal.1 == 0 := by funext t; simp only [Function.comp, tD]
  rw [e] at h7; exact h7
theorem nOk_eq {c : Cl} (hto : termsOk c.parts = true) : c.nOk = (c.normal.ok c.head.length && decide (c.head.length <= 16)) := by
 have hno : nodesOks c.parts = true := by simp only [termsOk, Bool.and_eq_true] at hto; exact hto.1
 rw [Cl.nOk, Bool.and_comm]
 congr 1
 rw [Bool.eq_iff_iff]
 constructor
 ·exact normal_ok
 ·intro h
  rw [iV hno] at h
  simp only [Cl.ok, Bool.and_eq_true] at h
  exact sM (wS _) hto h.1
theorem nOk_no {c : Cl} (hto : termsOk c.parts = false) : c.nOk = false := by
 rw [Bool.eq_false_iff]
 intro h
 simp only [Cl.nOk, Bool.and_eq_true] at h
 rw [cS h.2] at hto
 cases hto
end Go.Rip
namespace Go.Rip
open Go Go.Proofs
set_option maxRecDepth 100000
variable {GL : Glob}
attribute [local irreducible] Pure
theorem h79 (c : Cl) (ht : sizes c.parts < 2 ^ 30) (hs : strss c.parts) : Pure (PC GL) 79 [encCl c] (.tup [encCl c.nR, .i c.nE]) := by
 have h4 := aM c.parts
 have hvl := cB c.parts
 have q60 := h60 (GL := GL) c (by omega)
 have q170 := h170 (GL := GL) c.parts ht hs
 simp only [encCl] at q60
 have bad : c.nOk = false -> ∀ h', ∃ y h'', Wk GL 0 [(0, .tup [.agg [.v (.int .i64 0), .v (.int .i64 0), .v (.slice none 0 0), .v (.slice none 0 0), .v (.slice none 0 0)], .v (.int .i64 40)])] h' [(0, y)] h'' /\ h'' = [] /\ ARes.val y = ARes.val (.tup [encCl c.nR, .i c.nE]) := fun hn h' => by
  have e1 : c.nR = Cl.nul := by simp [Cl.nR, hn]
  have e2 : c.nE = 40 := by simp [Cl.nE, hn]
  rw [e1, e2]
  exact aD (bL cN rfl) (by simp [go_sem])
 refine k79.pure (by simp) (by simp [go_sem]) (by simp [go_sem]) ?_
 simp -implicitDefEqProofs only [go_sem, c79, r79, encCl]
 refine aC hC q60 ?_
 simp -implicitDefEqProofs only [go_sem]
 refine aC hC q170 ?_
 rcases hto : termsOk c.parts
 ·have := bad (nOk_no hto)
  simp only [encCl] at this
  simp -implicitDefEqProofs only [go_sem, Bool.not_false]
  exact this _
 have hno : nodesOks c.parts = true := by simp only [termsOk, Bool.and_eq_true] at hto; exact hto.1
 have q131 := h131 (GL := GL) c.parts ht hno
 have q171 := h171 (GL := GL) c (c.parts.map (Tm.sub (varF (idx0 (varsOf c.parts))))) (by have := dG (idx0 (varsOf c.parts)) c.parts; omega) (by simp [Cl.parts])
 have hpn : c.normal.parts = c.parts.map (Tm.sub (varF (gI (varsOf c.parts)))) := by rw [iV hno, dY]
 have q144 := h144 (GL := GL) c.normal c.head.length (by rw [hpn]; have := dG (gI (varsOf c.parts)) c.parts; omega) (by rw [hpn]; exact lJ fun x hx => oF _ x (cW hs x hx))
 have hnk := nOk_eq hto
 have good : c.nOk = true -> c.nR = c.normal /\ c.nE = 0 := fun h => ⟨by rw [Cl.nR, if_pos h], by rw [Cl.nE, if_pos h]⟩
 have hcut : c.normal = c.cut (c.parts.map (Tm.sub (varF (idx0 (varsOf c.parts))))) (varsOf c.parts).length := rfl
 rw [hcut] at q144 good hnk
 generalize c.parts.map (Tm.sub (varF (idx0 (varsOf c.parts)))) = L at *
 generalize varsOf c.parts = vs at *
 simp only [encCl, Cl.cut] at q171 q144 good hnk
 simp -implicitDefEqProofs only [go_sem, Bool.not_true]
 refine aC hC q131 ?_
 simp -implicitDefEqProofs only [go_sem]
 refine aC hC q171 ?_
 simp -implicitDefEqProofs only [go_sem]
 refine aC hC q144 ?_
 generalize hok : Cl.ok _ _ = ok at hnk ⊢
 rcases ok
 ·have := bad (by rw [hnk]; rfl)
  simp only [encCl] at this
  simp -implicitDefEqProofs only [go_sem, Bool.not_false]
  exact this _
 by_cases h16 : c.head.length <= 16
 ·have e16 : decide ((c.head.length : Int) > 16) = false := decide_eq_false (by omega)
  obtain ⟨g1, g2⟩ := good (by rw [hnk]; simp [h16])
  rw [g1, g2]
  simp -implicitDefEqProofs only [go_sem, Bool.not_true, e16]
  refine aD ?_ ?_ <;> simp [go_sem, -List.map_take, -List.map_drop]
 ·have e16 : decide ((c.head.length : Int) > 16) = true := decide_eq_true (by omega)
  have := bad (by rw [hnk]; simp [h16])
  simp only [encCl] at this
  simp -implicitDefEqProofs only [go_sem, Bool.not_true, e16]
  exact this _
def Cl.fOk (c : Cl) : Bool := c.ok c.head.length && decide (c.head.length <= 16)
noncomputable def Cl.fE (c : Cl) (m : Int) : Int := if c.fOk then (@ite _ (freshBad c m) (Classical.propDecidable _) 1 0) else 40
noncomputable def Cl.fR (c : Cl) (m : Int) : Cl := if c.fE m = 0 then c.fresh m else Cl.nul
theorem fE_no {c : Cl} (h : c.fOk = false) (m : Int) : c.fE m = 40 /\ c.fR m = Cl.nul := by
 have : c.fE m = 40 := by simp [Cl.fE, h]
 exact ⟨this, by simp [Cl.fR, this]⟩
theorem rH {c : Cl} (h : c.fOk = true) {m : Int} (hb : freshBad c m) : c.fE m = 1 /\ c.fR m = Cl.nul := by
 have : c.fE m = 1 := by rw [Cl.fE, if_pos h, if_pos hb]
 exact ⟨this, by simp [Cl.fR, this]⟩
theorem fE_ok {c : Cl} (h : c.fOk = true) {m : Int} (hb : ¬ freshBad c m) : c.fE m = 0 /\ c.fR m = c.fresh m := by
 have : c.fE m = 0 := by rw [Cl.fE, if_pos h, if_neg hb]
 exact ⟨this, by simp [Cl.fR, this]⟩
theorem h58 (c : Cl) (m : Int) (ht : sizes c.parts < 2 ^ 30) (hs : strss c.parts) : Pure (PC GLs) 58 [encCl c, .i m] (.tup [encCl (c.fR m), .i (c.fE m)]) := by
 rcases hf : c.fOk
 ·obtain ⟨e1, e2⟩ := fE_no hf m
  rw [e1, e2]
  by_cases h16 : c.head.length <= 16
  ·have hok : c.ok c.head.length = false := by simpa [Cl.fOk, h16] using hf
   have e16 : decide ((c.head.length : Int) > 16) = false := decide_eq_false (by omega)
   have q143 := h143 c c.head.length ht hs
   rw [hok] at q143
   simp only [encCl] at q143
   refine k58.pure (by simp) (by simp [go_sem]) (by simp [go_sem]) ?_
   simp -implicitDefEqProofs only [go_sem, c58, r58, encCl, e16]
   refine aC hC q143 ?_
   simp -implicitDefEqProofs only [go_sem, Bool.not_false]
   exact aD (bL cN rfl) (by simp [go_sem])
  ·have e16 : decide ((c.head.length : Int) > 16) = true := decide_eq_true (by omega)
   refine k58.pure (by simp) (by simp [go_sem]) (by simp [go_sem]) ?_
   simp -implicitDefEqProofs only [go_sem, c58, r58, encCl, e16]
   exact aD (bL cN rfl) (by simp [go_sem])
 have hf' := hf
 simp only [Cl.fOk, Bool.and_eq_true, decide_eq_true_eq] at hf'
 by_cases hb : freshBad c m
 ·obtain ⟨e1, e2⟩ := rH hf hb
  rw [e1, e2]
  exact h58bad c m ht hs hf'.2 hf'.1 hb
 ·obtain ⟨e1, e2⟩ := fE_ok hf hb
  rw [e1, e2]
  exact h58ok c m ht hs hf'.2 hf'.1 hb
theorem h80 (c : Cl) (m : Int) (ht : sizes c.parts < 2 ^ 30) (hs : strss c.parts) : Pure (PC GL) 80 [encCl c, .i m] (.tup [encCl (c.fR m), .i (c.fE m)]) := by
 have h4 := aM c.parts
 have hvl := cB c.parts
 have q144 := h144 (GL := GL) c c.head.length ht hs
 have q60 := h60 (GL := GL) c (by omega)
 simp only [encCl] at q144 q60
 refine k80.pure (by simp) (by simp [go_sem]) (by simp [go_sem]) ?_
 simp -implicitDefEqProofs only [go_sem, c80, r80, encCl]
 refine aC hC q144 ?_
 rcases hok : c.ok c.head.length
 ·obtain ⟨e1, e2⟩ := fE_no (c := c) (by simp [Cl.fOk, hok]) m
  rw [e1, e2]
  simp -implicitDefEqProofs only [go_sem, Bool.not_false]
  exact aD (bL cN rfl) (by simp [go_sem])
 by_cases h16 : c.head.length <= 16
 rotate_left
 ·have e16 : decide ((c.head.length : Int) > 16) = true := decide_eq_true (by omega)
  obtain ⟨e1, e2⟩ := fE_no (c := c) (by simp [Cl.fOk, h16]) m
  rw [e1, e2]
  simp -implicitDefEqProofs only [go_sem, Bool.not_true, e16]
  exact aD (bL cN rfl) (by simp [go_sem])
 have e16 : decide ((c.head.length : Int) > 16) = false := decide_eq_false (by omega)
 have hf : c.fOk = true := by simp [Cl.fOk, hok, h16]
 obtain ⟨hsh, hr, hv⟩ := oH hok
 have hto := cS hsh
 have hoks := jZ hto
 by_cases b1 : m < 0
 ·have d1 : decide (m < 0) = true := decide_eq_true b1
  obtain ⟨e1, e2⟩ := rH hf (m := m) (.inl b1)
  rw [e1, e2]
  simp -implicitDefEqProofs only [go_sem, Bool.not_true, e16, d1]
  exact aD (bL cN rfl) (by simp [go_sem])
 have d1 : decide (m < 0) = false := decide_eq_false b1
 by_cases b2 : m >= 100000
 ·have d2 : decide (m > 99999) = true := decide_eq_true (by omega)
  obtain ⟨e1, e2⟩ := rH hf (m := m) (.inr (.inl b2))
  rw [e1, e2]
  simp -implicitDefEqProofs only [go_sem, Bool.not_true, e16, d1, d2]
  exact aD (bL cN rfl) (by simp [go_sem])
 have d2 : decide (m > 99999) = false := decide_eq_false (by omega)
 have w0 : IntKind.i64.wrap (m + c.vars) = m + c.vars := aF _ (by omega)
 by_cases b3 : m > 100000 - c.vars
 ·have d3 : decide (m + c.vars > 100000) = true := decide_eq_true (by omega)
  obtain ⟨e1, e2⟩ := rH hf (m := m) (.inr (.inr b3))
  rw [e1, e2]
  simp -implicitDefEqProofs only [go_sem, Bool.not_true, e16, d1, d2, w0, d3]
  exact aD (bL cN rfl) (by simp [go_sem])
 have d3 : decide (m + c.vars > 100000) = false := decide_eq_false (by omega)
 have hb : ¬ freshBad c m := fun h => by rcases h with h | h | h <;> omega
 obtain ⟨e1, e2⟩ := fE_ok hf hb
 rw [e1, e2]
 have hvar : ∀ t ∈ c.parts, ∀ v ∈ occ [t], 0 <= v + m /\ v + m < 100000 := fun t htm v hvm => by
  have := qL hr (mem_varsOf.2 (jA htm hvm))
  omega
 have q171 := h171 (GL := GL) c (c.parts.map (Tm.sub (varF fun v => v + m))) (by have := dG (fun v => v + m) c.parts; omega) (by simp [Cl.parts])
 simp only [encCl] at q171
 simp -implicitDefEqProofs only [go_sem, Bool.not_true, e16, d1, d2, w0, d3]
 refine aC hC q60 ?_
 simp -implicitDefEqProofs only [go_sem]
 refine aZ hC (fun j a => [(9, .i j), (8, .own a 4 ((c.parts.take j).map fun t => enc (t.sub (varF fun v => v + m)))), (7, .sl 4 (c.parts.map enc)), (1, .i m), (2, .ref 0 0), (4, .ref 1 0)]) (fun j a h => h[a]? = some (.spare 24 4) /\ h[0]? = some (.cells 68 (encCl c).cells) /\ h[1]? = some (.cells 68 [.v (.int .i64 0), .v (.int .i64 0), .v (.slice none 0 0), .v (.slice none 0 0), .v (.slice none 0 0)])) c.parts.length ?_ fun j a h hj ⟨ha, hm, hk⟩ => ?_
 ·refine ⟨2, _, (Wk.own_nil 24 4 8 (by simp [go_sem]) (by simp)).trans (Wk.pick (by simp) (by simp [go_sem])), rfl, rfl, rfl⟩
 simp only [encCl, AV.cells] at hm
 have ha_g := fun l => aE (l := l) ha
 have ha_s := fun o l => aJ (l := l) ha o
 have ha_e := fun o l => aH (o := o) (l := l) ha
 have ha_h := fun o => aL (o := o) ha
 have hm_g := fun l => aE (l := l) hm
 have hm_s := fun o l => aJ (l := l) hm o
 have hm_e := fun o l => aH (o := o) (l := l) hm
 have hm_h := fun o => aL (o := o) hm
 have hk_g := fun l => aE (l := l) hk
 have hk_s := fun o l => aJ (l := l) hk o
 have hk_e := fun o l => aH (o := o) (l := l) hk
 have hk_h := fun o => aL (o := o) hk
 simp -implicitDefEqProofs only [go_sem]
 refine aG (fun hlt => ?_) (fun hlt => ?_)
 ·have hlt := aI hlt
  have g1 := bA hlt
  have w5 : IntKind.i64.wrap ((j : Int) + 1) = (j : Int) + 1 := aF _ (by omega)
  have hm1 := List.getElem_mem hlt
  simp -implicitDefEqProofs only [go_sem, hlt, aP]
  refine aC hC (h147 m (by omega) c.parts[j] (by omega) (cW hs _ hm1) (hoks _ hm1) (hvar _ hm1)) ?_
  simp -implicitDefEqProofs only [go_sem, List.append_assoc, ha_g, ha_s]
  refine ⟨by simp; omega, ?_⟩
  refine ⟨h.length + 2, _, Wk.pick (Nat.zero_le _) (by simp [go_sem, w5, bI hlt]), ?_, ?_, ?_⟩
  ·rw [cX (by simp)]; simp
  ·simp only [encCl, AV.cells]; exact bE hm ha (by simp)
  ·exact bE hk ha (by simp)
 ·have hge := aK hlt
  simp -implicitDefEqProofs only [go_sem, hlt, cC hge, hm]
  have em : (c.parts.map fun t => enc (t.sub (varF fun v => v + m))) = (c.parts.map (Tm.sub (varF fun v => v + m))).map enc := by simp
  rw [em]
  refine gX q171 (by simp [fzs, fzGs, fzG, dZ, <- fB, -List.map_map]) ?_
  simp -implicitDefEqProofs only [go_sem, hk, hk_h]
  refine aD ?_ ?_ <;> simp [go_sem, Cl.fresh]
end Go.Rip
namespace Go.Rip
open Go
set_option maxRecDepth 100000
variable {GL : Glob}
structure Cmp (GL : Glob) (Q : Int -> Pr) (cf : FuncId) (cc : Int -> Int -> Int) : Prop where
 p : ∀ x y, Pure (PC GL) cf [.agg [.str (Q x).name, .i (Q x).arity, .sl 5 ((Q x).clauses.map encCl)], .agg [.str (Q y).name, .i (Q y).arity, .sl 5 ((Q y).clauses.map encCl)]] (.i (cc x y))
 d : ∀ x y, decide (cc x y < 0) = decide (x < y)
def encQ (Q : Int -> Pr) (x : Int) : AV := .agg [.str (Q x).name, .i (Q x).arity, .sl 5 ((Q x).clauses.map encCl)]
section
variable {Q : Int -> Pr}
theorem aO {l : List Int} {i : Nat} (hi : i < l.length) : (l.map (encQ Q))[i]? = some (.agg [.str (Q (l.getD i 0)).name, .i (Q (l.getD i 0)).arity, .sl 5 ((Q (l.getD i 0)).clauses.map encCl)]) := by simp [List.getElem?_map, List.getElem?_eq_getElem hi, encQ, List.getD]
theorem aT (l : List Int) : (l.map (encQ Q)).take l.length = l.map (encQ Q) := List.take_of_length_le (by simp)
theorem bO (l : List Int) (i j : Nat) : ((l.map (encQ Q)).set i (.agg [.str (Q (l.getD j 0)).name, .i (Q (l.getD j 0)).arity, .sl 5 ((Q (l.getD j 0)).clauses.map encCl)])).set j (.agg [.str (Q (l.getD i 0)).name, .i (Q (l.getD i 0)).arity, .sl 5 ((Q (l.getD i 0)).clauses.map encCl)]) = (swp l i j).map (encQ Q) := by simp [swp, List.map_set, encQ]
theorem bJ (l : List Int) (i : Nat) (x : AV) : ((l.map (encQ Q)).set i x).take l.length = (l.map (encQ Q)).set i x := List.take_of_length_le (by simp)
theorem bR {l : List Int} {i j : Nat} (hj : j < l.length) (x : Int) : ((l.map (encQ Q)).set i (.agg [.str (Q x).name, .i (Q x).arity, .sl 5 ((Q x).clauses.map encCl)]))[j]? = some (.agg [.str (Q ((l.set i x).getD j 0)).name, .i (Q ((l.set i x).getD j 0)).arity, .sl 5 ((Q ((l.set i x).getD j 0)).clauses.map encCl)]) := by
 rw [show AV.agg [.str (Q x).name, .i (Q x).arity, .sl 5 ((Q x).clauses.map encCl)] = encQ Q x from rfl, <- List.map_set, List.getElem?_map, List.getElem?_eq_getElem (by simpa using hj)]
 simp [encQ, List.getD, hj]
end
end Go.Rip
namespace Go.Rip
open Go Go.Proofs
set_option maxRecDepth 100000
def Pr.fine (q : Pr) : Bool := nameOk q.name && (!decide (q.arity < 0) && (!decide (q.arity > 16) && (!q.sym.res && !decide ((q.clauses.length : Int) > 32))))
theorem mB : ∀ (l : List Pr) (seen : List Sym), headsOk seen l = true ↔ (l.map Pr.sym).Nodup /\ (∀ q ∈ l, q.sym ∉ seen) /\ ∀ q ∈ l, q.fine = true
 | [], seen => by simp [headsOk]
 | q :: r, seen => by
  rw [headsOk, Bool.and_eq_true, mB r]
  have hq : q.head seen = true ↔ q.sym ∉ seen /\ q.fine = true := by
   rw [Pr.head, Bool.and_eq_true, Bool.not_eq_true', decide_eq_false_iff_not]; rfl
  rw [hq, List.map_cons, List.nodup_cons]
  constructor
  ·rintro ⟨⟨h1, h2⟩, h3, h4, h5⟩
   refine ⟨⟨fun hm => ?_, h3⟩, fun x hx => ?_, fun x hx => ?_⟩
   ·obtain ⟨y, hy, e⟩ := List.mem_map.1 hm
    exact h4 y hy (by rw [e]; simp)
   ·rcases List.mem_cons.1 hx with e | hx
    ·rw [e]; exact h1
    ·exact fun h => h4 x hx (by simp [h])
   ·rcases List.mem_cons.1 hx with e | hx
    ·rw [e]; exact h2
    ·exact h5 x hx
  ·rintro ⟨⟨h1, h2⟩, h3, h4⟩
   refine ⟨⟨h3 q (by simp), h4 q (by simp)⟩, h2, fun x hx hm => ?_, fun x hx => h4 x (by simp [hx])⟩
   rcases List.mem_append.1 hm with hm | hm
   ·exact h3 x (by simp [hx]) hm
   ·exact h1 (List.mem_map.2 ⟨x, hx, List.mem_singleton.1 hm⟩)
section
variable {p : Pg} {q : Qy} {S : List Bool}
end
end Go.Rip
