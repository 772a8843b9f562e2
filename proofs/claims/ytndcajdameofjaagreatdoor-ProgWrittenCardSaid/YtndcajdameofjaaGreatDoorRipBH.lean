/- Trees that are made anew: copied, limited; what a call hands back, frozen. -/
import Derived.Test.YtndcajdameofjaaGreatDoorProg
import Derived.KernelRfl
import Derived.Test.YtndcajdameofjaaGreatDoorRipBG
import Derived.Test.YtndcajdameofjaaGreatDoorRipAU
import Derived.Test.YtndcajdameofjaaGreatDoorRipBF
import Derived.Test.YtndcajdameofjaaGreatDoorRipAI
import Derived.Test.YtndcajdameofjaaGreatDoorRipAP
import Derived.Test.YtndcajdameofjaaGreatDoorRipBC
import Derived.Test.YtndcajdameofjaaGreatDoorRipAJ
import Derived.Test.YtndcajdameofjaaGreatDoorRipAL
import Derived.Test.YtndcajdameofjaaGreatDoorRipAS
namespace Go.Rip
open Go
set_option maxRecDepth 100000
variable {GL : Glob}
theorem wkr_made {t : Tm} {a : Nat} : wkr (.agg [.v (.int .i64 t.kind), .v (.int .i64 t.n), .str t.s, .own a 4 (t.l.map enc)]) (enc t) := by rw [fC]; simp [wkr, wkrs]
theorem h290 (t : Tm) (ht : t.size < 2 ^ 30) : Pure (PC GL) 290 [enc t] (enc t) := by
 induction t using cR with
 | _ t ih =>
 have hs := bE t
 have h4 := aQ t.l
 refine k290.pure (by simp) (by simp [go_sem]) (by simp [go_sem]) ?_
 simp -implicitDefEqProofs only [c290, r290, go_sem]
 refine bH hC (fun j a => [(9, .i j), (3, .own a 4 ((t.l.take j).map enc)), (7, .sl 4 (t.l.map enc)), (8, .i t.l.length), (1, .ref 0 0), (2, .ref 1 0)]) (fun j a h => h[a]? = some (.spare 24 4) /\ h[0]? = some (.cells 24 [.v (.int .i64 t.kind), .v (.int .i64 t.n), .str t.s, .sl 4 (t.l.map enc)]) /\ h[1]? = some (.cells 24 [.v (.int .i64 0), .v (.int .i64 0), .str [], .v (.slice none 0 0)])) t.l.length ?_ fun j a h hj ⟨ha, hb, hd⟩ => ?_
 ·refine ⟨2, [.cells 24 [.v (.int .i64 t.kind), .v (.int .i64 t.n), .str t.s, .sl 4 (t.l.map enc)], .cells 24 [.v (.int .i64 0), .v (.int .i64 0), .str [], .v (.slice none 0 0)], .spare 24 4], (Wk.own_nil (h := [.cells 24 [.v (.int .i64 t.kind), .v (.int .i64 t.n), .str t.s, .sl 4 (t.l.map enc)], .cells 24 [.v (.int .i64 0), .v (.int .i64 0), .str [], .v (.slice none 0 0)]]) 24 4 3 (by simp [go_sem]) (Nat.zero_le _)).trans (Wk.pick (Nat.zero_le _) ?_), rfl, rfl, rfl⟩
  simp [go_sem]
 ·skip
  have ha_g := fun l => aC (l := l) ha
  have ha_s := fun o l => aE (l := l) ha o
  have ha_e := fun o l => aD (o := o) (l := l) ha
  have ha_h := fun o => aJ (o := o) ha
  have hb_g := fun l => aC (l := l) hb
  have hb_s := fun o l => aE (l := l) hb o
  have hb_e := fun o l => aD (o := o) (l := l) hb
  have hb_h := fun o => aJ (o := o) hb
  have hd_g := fun l => aC (l := l) hd
  have hd_s := fun o l => aE (l := l) hd o
  have hd_e := fun o l => aD (o := o) (l := l) hd
  have hd_h := fun o => aJ (o := o) hd
  simp -implicitDefEqProofs only [go_sem]
  refine aK (fun hlt => ?_) (fun hlt => ?_)
  ·have hlt := aM hlt
   have g1 := bK hlt
   have w5 : IntKind.i64.wrap ((j : Int) + 1) = (j : Int) + 1 := aP _ (by omega)
   simp -implicitDefEqProofs only [go_sem, hlt, aS]
   refine aG hC (ih _ (List.getElem_mem hlt) (by omega)) ?_
   simp -implicitDefEqProofs only [go_sem, List.append_assoc, ha_g, ha_s]
   refine ⟨by simp; omega, ?_⟩
   refine ⟨h.length + 2, _, Wk.pick (Nat.zero_le _) (by simp [go_sem, w5, bO hlt]), ?_, ?_, ?_⟩
   ·rw [cX (by simp)]; simp
   ·exact aW hb ha (by simp)
   ·exact aW hd ha (by simp)
  ·have hge := aL hlt
   have hd1 := fun o => (aF (h := h) (o := o) (show 0 ≠ 1 by decide)).trans hd
   have hd2 := fun o o' => aJ (o := o') (hd1 o)
   simp -implicitDefEqProofs only [go_sem, hlt, cJ hge, hb, hb_h, hd1, hd2]
   exact aI wkr_made (by simp [go_sem])
theorem ne30 : ((3 : Int) != 0) = true := rfl
theorem ne00 : ((0 : Int) != 0) = false := rfl
def Tm.nul : Tm := .mk 0 0 [] []
theorem wkr_nul : wkr (.agg [.v (.int .i64 0), .v (.int .i64 0), .str [], .v (.slice none 0 0)]) (enc Tm.nul) := by rw [Tm.nul, eK]; simp [wkr, wkrs]
theorem h251 (t : Tm) (ht : t.size < 2 ^ 30) (hs : t.strs) : Pure (PC GL) 251 [enc t] (.tup [enc (if t.ok then t else Tm.nul), .i (if t.ok then 0 else 2)]) := by
 refine k251.pure (by simp) (by simp [go_sem]) (by simp [go_sem]) ?_
 simp -implicitDefEqProofs only [c251, r251, go_sem]
 refine aG hC (h95 t ht hs) ?_
 rcases t.ok with _ | _
 ·simp -implicitDefEqProofs only [go_sem, if_neg Bool.false_ne_true, ne30]
  exact aI (kP wkr_nul rfl) (by simp [go_sem])
 ·simp -implicitDefEqProofs only [go_sem, if_pos, ne00]
  refine aG hC (h290 t ht) ?_
  simp -implicitDefEqProofs only [go_sem]
  exact aI (cB _) (by simp [go_sem])
mutual
def Tm.sub (F : Int -> Tm) : Tm -> Tm
 | .mk k n s l => if k = 1 then F n else .mk k n s (Tm.subs F l)
def Tm.subs (F : Int -> Tm) : List Tm -> List Tm
 | [] => []
 | t :: r => t.sub F :: Tm.subs F r
end
theorem sK (F : Int -> Tm) : ∀ l, Tm.subs F l = l.map (Tm.sub F)
 | [] => rfl
 | t :: r => by rw [Tm.subs, sK F r]; rfl
theorem jP (F : Int -> Tm) (t : Tm) : t.sub F = if t.kind = 1 then F t.n else .mk t.kind t.n t.s (t.l.map (Tm.sub F)) := by cases t; rw [Tm.sub, sK]; rfl
theorem wkr_subd {t : Tm} {a : Nat} {F : Int -> Tm} : wkr (.agg [.v (.int .i64 t.kind), .v (.int .i64 t.n), .str t.s, .own a 4 (t.l.map fun x => enc (x.sub F))]) (enc (.mk t.kind t.n t.s (t.l.map (Tm.sub F)))) := by rw [eK]; simp [wkr, wkrs]
theorem Keep.turn' {K : Nat -> AObj -> Prop} {h h' : List AObj} (a : Keep K h h') {k : Nat} (o : AObj) {x : AObj} (hx : h'[k]? = some x) (hk : h.length <= k) : Keep K h (h'.set k o) :=
 a.trans' (K' := fun i _ => i = k) (Keep.set o hx rfl) fun i o' hi e => by have := aH hi; omega
theorem h250 (f : FuncId) (cap : List AV) (F : Int -> Tm) (hF : ∀ v, (F v).size < 2 ^ 30) (t : Tm) : ∀ (left : Int) (kb : Nat) (h : List AObj), t.size < 2 ^ 30 -> ((t.sub F).size : Int) <= left -> left < 2 ^ 40 -> h[kb]? = some (.cells 262 [.v (.int .i64 left)]) ->
  (∀ v h', Keep (fun i _ => i = kb) h h' -> Gives (PC GL) f (.i v :: cap) h' fun x h'' => x = .tup [enc (F v), .v (.bool true)] /\ Keep All h' h'') ->
  Gives (PC GL) 250 [.ref kb 0, enc t, .fn (.func f) [] cap] h fun x h' => x = enc (t.sub F) /\ h'[kb]? = some (.cells 262 [.v (.int .i64 (left - (t.sub F).size))]) /\ Keep (fun i _ => i = kb) h h' := by
 induction t using cR with
 | _ t ih =>
 intro left kb h ht hle hlt hk hf
 have hs := bE t
 have h4 := aQ t.l
 have hse := jP F t
 have hkl := aH hk
 have hk_g := fun l => aC (l := l) hk
 have hk_s := fun o l => aE (l := l) hk o
 have hk_e := fun o l => aD (o := o) (l := l) hk
 have hk_h := fun o => aJ (o := o) hk
 refine k250.gives (by simp) ?_
 simp -implicitDefEqProofs only [go_sem, c250, r250, List.append_assoc]
 by_cases hx : t.kind = 1
 ·have e : (t.kind == 1) = true := by simpa using hx
  rw [if_pos hx] at hse
  rw [hse] at hle ⊢
  simp -implicitDefEqProofs only [go_sem, e]
  refine aU hC (hf t.n _ (Keep.app _ _ _)) fun x h2 ⟨hx2, hk2⟩ => ?_
  subst hx2
  have q0 := hk2.got (hk_g _)
  have q1 := hk2.got (i := h.length) (o := .cells 24 [.v (.int .i64 t.kind), .v (.int .i64 t.n), .str t.s, .sl 4 (t.l.map enc)]) (by rw [eM]; rfl)
  have q2 := hk2.got (i := h.length + 1) (o := .cells 24 [.v (.int .i64 0), .v (.int .i64 0), .str [], .v (.slice none 0 0)]) (by rw [aO]; rfl)
  have hL := hk2.1
  simp only [List.length_append, List.length_cons, List.length_nil] at hL
  have q0_g := fun l => aC (l := l) q0
  have q0_s := fun o l => aE (l := l) q0 o
  have q0_e := fun o l => aD (o := o) (l := l) q0
  have q0_h := fun o => aJ (o := o) q0
  have q1_g := fun l => aC (l := l) q1
  have q1_s := fun o l => aE (l := l) q1 o
  have q1_e := fun o l => aD (o := o) (l := l) q1
  have q1_h := fun o => aJ (o := o) q1
  have q2_g := fun l => aC (l := l) q2
  have q2_s := fun o l => aE (l := l) q2 o
  have q2_e := fun o l => aD (o := o) (l := l) q2
  have q2_h := fun o => aJ (o := o) q2
  have w1 : IntKind.i64.wrap (left - (F t.n).size) = left - (F t.n).size := aP _ (by omega)
  simp -implicitDefEqProofs only [go_sem]
  refine aG hC (h248 _ (hF t.n)) ?_
  have q2_q0b := fun o l => aW (o := o) (l := l) q2 q0 (by simp)
  have q2_q0s := fun o l x => jT (o := o) (l := l) (x' := x) q2 q0 (by simp)
  have q2_q0g := fun o l x => hU (o := o) (l := l) (x' := x) q2 q0 (by simp)
  have q2_q0k := fun o l x => gY (o := o) (l := l) (x' := x) q2 q0 (by simp)
  simp -implicitDefEqProofs only [go_sem, cM, q0_g, q0_s, w1, q2_q0b, q2_q0s, q2_q0g]
  refine dS ?_ (cB _) ?_
  ·simp; omega
  ·refine ⟨rfl, q2_q0k _ _ _, ?_⟩
   have hk1 : Keep (fun i _ => i = kb) h (h2.set kb (.cells 262 [.v (.int .i64 (left - (F t.n).size))])) := ((Keep.app _ h _).trans hk2.of_all).trans (Keep.set _ q0 rfl)
   exact (hk1.turn' _ ((aF (by omega)).trans q2) (Nat.le_succ _)).trans (Keep.app _ _ _)
 ·have e : (t.kind == 1) = false := by simpa using hx
  rw [if_neg hx] at hse
  rw [hse] at hle ⊢
  have w1 : IntKind.i64.wrap (left - 1) = left - 1 := aP _ (by omega)
  have hsz : (Tm.mk t.kind t.n t.s (t.l.map (Tm.sub F))).size = 1 + sizes (t.l.map (Tm.sub F)) := by rw [bE, Tm.l_mk]; omega
  rw [hsz] at hle ⊢
  simp -implicitDefEqProofs only [go_sem, e, hk_g, hk_s, w1, cM]
  refine bH hC (fun j a => [(49, .i j), (11, .own a 4 ((t.l.take j).map fun x => enc (x.sub F))), (47, .sl 4 (t.l.map enc)), (48, .i t.l.length), (0, .ref kb 0), (2, .fn (.func f) [] cap), (4, .ref h.length 0), (6, .ref (h.length + 1) 0)]) (fun j a h' => h'[a]? = some (.spare 24 4) /\ h'[kb]? = some (.cells 262 [.v (.int .i64 (left - 1 - sizes ((t.l.take j).map (Tm.sub F))))]) /\ h'[h.length]? = some (.cells 24 [.v (.int .i64 t.kind), .v (.int .i64 t.n), .str t.s, .sl 4 (t.l.map enc)]) /\ h'[h.length + 1]? = some (.cells 24 [.v (.int .i64 0), .v (.int .i64 0), .str [], .v (.slice none 0 0)]) /\ h.length <= a /\ Keep (fun i _ => i = kb) h h') t.l.length ?_ fun j a h2 hj ⟨ha, hb, hd, he, hak, hkk⟩ => ?_
  ·refine ⟨h.length + 2, _, (Wk.own_nil 24 4 11 (by simp [go_sem]) (by simp)).trans (Wk.pick (by simp) (by simp [go_sem])), ?_, ?_, ?_, ?_, Nat.le_add_right _ _, ?_⟩
   ·rw [cX (by simp)]; simp
   ·rw [List.append_assoc, hk_e]; simp [sizes]
   ·rw [List.append_assoc, cM]; rfl
   ·rw [List.append_assoc, mB]; rfl
   ·rw [List.append_assoc]; exact (Keep.set _ hk rfl).trans (Keep.app _ _ _)
  ·skip
   have ha_g := fun l => aC (l := l) ha
   have ha_s := fun o l => aE (l := l) ha o
   have ha_e := fun o l => aD (o := o) (l := l) ha
   have ha_h := fun o => aJ (o := o) ha
   have hb_g := fun l => aC (l := l) hb
   have hb_s := fun o l => aE (l := l) hb o
   have hb_e := fun o l => aD (o := o) (l := l) hb
   have hb_h := fun o => aJ (o := o) hb
   have hd_g := fun l => aC (l := l) hd
   have hd_s := fun o l => aE (l := l) hd o
   have hd_e := fun o l => aD (o := o) (l := l) hd
   have hd_h := fun o => aJ (o := o) hd
   have he_g := fun l => aC (l := l) he
   have he_s := fun o l => aE (l := l) he o
   have he_e := fun o l => aD (o := o) (l := l) he
   have he_h := fun o => aJ (o := o) he
   simp -implicitDefEqProofs only [go_sem]
   refine aK (fun hlt => ?_) (fun hlt => ?_)
   ·have hlt := aM hlt
    have g1 := bK hlt
    have w5 : IntKind.i64.wrap ((j : Int) + 1) = (j : Int) + 1 := aP _ (by omega)
    have g2 : sizes ((t.l.take j).map (Tm.sub F)) + ((t.l[j]).sub F).size <= sizes (t.l.map (Tm.sub F)) := by
     have := cD (t.l.map (Tm.sub F)) (j + 1)
     rw [cN (l := t.l.map (Tm.sub F)) (by simpa using hlt), List.getElem_map, <- List.map_take] at this
     exact this
    have e2 : decide (left - 1 - (sizes ((t.l.take j).map (Tm.sub F)) : Int) < 0) = false := decide_eq_false (by omega)
    have g3 : sizes ((t.l.take (j + 1)).map (Tm.sub F)) = sizes ((t.l.take j).map (Tm.sub F)) + ((t.l[j]).sub F).size := by
     have := cN (l := t.l.map (Tm.sub F)) (j := j) (by simpa using hlt)
     rwa [List.getElem_map, <- List.map_take, <- List.map_take] at this
    have nak : a ≠ kb := aN ha hb (by simp)
    simp -implicitDefEqProofs only [go_sem, hlt, aS, hb_g, e2]
    refine aU hC (ih _ (List.getElem_mem hlt) (left - 1 - sizes ((t.l.take j).map (Tm.sub F))) kb _ (by omega) (by omega) (by omega) (hb_g _) fun v h' hk' => hf v h' ((hkk.trans (Keep.app _ _ _)).trans hk')) fun x h3 ⟨hx3, b3, hk3⟩ => ?_
    subst hx3
    have a3 := hk3.get (ha_g _) nak
    have d3 := hk3.get (hd_g _) (by omega)
    have e3 := hk3.get (he_g _) (by omega)
    have k3 := (hkk.trans (Keep.app _ _ _)).trans hk3
    have a3_g := fun l => aC (l := l) a3
    have a3_s := fun o l => aE (l := l) a3 o
    have a3_e := fun o l => aD (o := o) (l := l) a3
    have a3_h := fun o => aJ (o := o) a3
    simp -implicitDefEqProofs only [go_sem, List.append_assoc, a3_g, a3_s]
    refine ⟨by simp; omega, ?_⟩
    refine ⟨h3.length + 1, _, Wk.pick (by simp; have := k3.1; omega) (by simp [go_sem, w5, bO hlt]), ?_, ?_, ?_, ?_, by have := k3.1; omega, ?_⟩
    ·rw [cX (by simp)]; simp
    ·rw [aW b3 a3 (by simp), g3]; simp; omega
    ·exact aW d3 a3 (by simp)
    ·exact aW e3 a3 (by simp)
    ·exact (k3.trans' (K' := fun i _ => i = a) (Keep.set _ a3 rfl) fun i o' hi e => by have := aH hi; omega).trans (Keep.app _ _ _)
   ·have hge := aL hlt
    have he1 := fun o => (aF (h := h2) (o := o) (show h.length ≠ h.length + 1 by omega)).trans he
    have he2 := fun o o' => aJ (o := o') (he1 o)
    rw [aT hge] at hb
    simp -implicitDefEqProofs only [go_sem, hlt, cJ hge, hd, hd_h, he1, he2]
    have hk1 := (hkk.turn' (.cells 24 [.v (.int .i64 t.kind), .v (.int .i64 t.n), .str t.s, .own a 4 (t.l.map fun x => enc (x.sub F))]) hd (Nat.le_refl _)).turn' (.cells 24 [.v (.int .i64 t.kind), .v (.int .i64 t.n), .str t.s, .own a 4 (t.l.map fun x => enc (x.sub F))]) (he1 _) (Nat.le_succ _)
    refine dS hk1.1 wkr_subd ⟨rfl, ?_, hk1⟩
    rw [aF (by omega), aF (by omega), hb]
    simp; omega
def varF (g : Int -> Int) : Int -> Tm := fun v => .mk 1 (g v) [] []
theorem wkr_var {g : Int -> Int} {v : Int} : wkr (.tup [.agg [.v (.int .i64 1), .v (.int .i64 (g v)), .str [], .v (.slice none 0 0)], .v (.bool true)]) (.tup [enc (varF g v), .v (.bool true)]) := by
 refine kP ?_ rfl
 rw [varF, eK]; simp [wkr, wkrs]
theorem nG {s : Int} : ∀ {ks : List Int} {i : Nat}, idxI s ks = some i -> i < ks.length
 | k :: r, i, h => by
  simp only [idxI] at h
  split at h
  ·cases h; simp
  ·rw [Option.map_eq_some_iff] at h
   obtain ⟨j, hj, rfl⟩ := h
   simpa using nG hj
def idx0 (l : List Int) (v : Int) : Int := ((idxI v l).getD 0 : Nat)
theorem h213 (v : Int) (l : List Int) (k m : Nat) (h : List AObj) (hk : h[k]? = some (.cells 230 [.mp m])) (hm : h[m]? = some (.map (l.map encI) ((List.range l.length).map fun i => AV.i (i : Nat)))) : Gives (PC GL) 213 [.i v, .ref k 0] h fun x h' => x = .tup [enc (varF (idx0 l) v), .v (.bool true)] /\ Keep All h h' := by
 refine k213.gives (by simp) ?_
 have hk_g := fun l => aC (l := l) hk
 have hk_s := fun o l => aE (l := l) hk o
 have hk_e := fun o l => aD (o := o) (l := l) hk
 have hk_h := fun o => aJ (o := o) hk
 have hm_g := fun l => aC (l := l) hm
 have hm_s := fun o l => aE (l := l) hm o
 have hm_e := fun o l => aD (o := o) (l := l) hm
 have hm_h := fun o => aJ (o := o) hm
 rcases hi : idxI v l with _ | i
 ·simp -implicitDefEqProofs only [go_sem, c213, r213, hk_g, hm_g, eU, hi]
  refine dS (y := .tup [enc (varF (idx0 l) v), .v (.bool true)]) (by simp) ?_ ⟨rfl, Keep.app _ _ _⟩
  have := wkr_var (g := idx0 l) (v := v)
  rw [idx0, hi] at this
  exact this
 ·have hlt : i < l.length := nG hi
  have e : ((List.range l.length).map fun i => AV.i (i : Nat)).getD i .any = .i (i : Nat) := by simp [List.getD, hlt]
  simp -implicitDefEqProofs only [go_sem, c213, r213, hk_g, hm_g, eU, hi, e]
  refine dS (y := .tup [enc (varF (idx0 l) v), .v (.bool true)]) (by simp) ?_ ⟨rfl, Keep.app _ _ _⟩
  have := wkr_var (g := idx0 l) (v := v)
  rw [idx0, hi] at this
  exact this
theorem h212 (f : FuncId) (cap : List AV) (F : Int -> Tm) (hF : ∀ v, (F v).size < 2 ^ 30) (t : Tm) (h : List AObj) (ht : t.size < 2 ^ 30) (hs : (t.sub F).size <= 4000) (hS : (t.sub F).strs)
  (hf : ∀ v h', Keep All h h' -> Gives (PC GL) f (.i v :: cap) h' fun x h'' => x = .tup [enc (F v), .v (.bool true)] /\ Keep All h' h'') :
  Gives (PC GL) 212 [enc t, .fn (.func f) [] cap] h fun x h' => x = .tup [enc (if (t.sub F).ok then t.sub F else Tm.nul), .i (if (t.sub F).ok then 0 else 2)] /\ Keep All h h' := by
 refine k212.gives (by simp) ?_
 simp -implicitDefEqProofs only [go_sem, c212, r212, List.append_assoc]
 refine aU hC (h250 f cap F hF t 4000 (h.length + 2) _ ht (by omega) (by omega) (aO h _ 2) fun v h' hk => hf v h' ((Keep.app All h _).trans' hk fun i o hi e => ?_)) fun x h2 ⟨hx, hb, hk2⟩ => ?_
 ·have := aH hi; omega
 subst hx
 have q1 := hk2.get (i := h.length + 1) (o := .cells 24 [.v (.int .i64 0), .v (.int .i64 0), .str [], .v (.slice none 0 0)]) (by rw [aO]; rfl) (by omega)
 have hk3 : Keep All h h2 := (Keep.app All h _).trans' hk2 fun i o hi e => by have := aH hi; omega
 have hL := hk2.1
 simp only [List.length_append, List.length_cons, List.length_nil] at hL
 have q1_g := fun l => aC (l := l) q1
 have q1_s := fun o l => aE (l := l) q1 o
 have q1_e := fun o l => aD (o := o) (l := l) q1
 have q1_h := fun o => aJ (o := o) q1
 have hb_g := fun l => aC (l := l) hb
 have hb_s := fun o l => aE (l := l) hb o
 have hb_e := fun o l => aD (o := o) (l := l) hb
 have hb_h := fun o => aJ (o := o) hb
 have e2 : decide ((4000 : Int) - ((t.sub F).size : Int) < 0) = false := decide_eq_false (by omega)
 have q := h251 (GL := GL) (t.sub F) (by omega) hS
 simp -implicitDefEqProofs only [go_sem, hb_g, e2]
 refine aG hC q ?_
 simp -implicitDefEqProofs only [go_sem, q1_g, q1_s, q1_e]
 refine dS (by simp; omega) (cB _) ⟨?_, ?_⟩
 ·simp only [go_sem]
 ·exact (hk3.turn' _ q1 (Nat.le_succ _)).trans (Keep.app _ _ _)
end Go.Rip
namespace Go.Rip
open Go
set_option maxRecDepth 100000
attribute [local simp] Tm.kind_mk Tm.n_mk Tm.s_mk Tm.l_mk
theorem gF {f : Tm -> Tm} : ∀ {l : List Tm}, (∀ x ∈ l, (f x).size <= x.size) -> sizes (l.map f) <= sizes l
 | [], _ => Nat.le_refl _
 | x :: r, h => by
  simp only [List.map_cons, sizes]
  have := h x (by simp)
  have := gF (l := r) fun y hy => h y (by simp [hy])
  omega
theorem kF {f : Tm -> Tm} : ∀ {l : List Tm}, (∀ x ∈ l, (f x).deep <= x.deep) -> deeps (l.map f) <= deeps l
 | [], _ => Nat.le_refl _
 | x :: r, h => by
  simp only [List.map_cons, deeps]
  have := h x (by simp)
  have := kF (l := r) fun y hy => h y (by simp [hy])
  omega
theorem kY {f : Tm -> Tm} : ∀ {l : List Tm}, (∀ x ∈ l, (f x).strs) -> strss (l.map f)
 | [], _ => trivial
 | x :: r, h => ⟨h x (by simp), kY (l := r) fun y hy => h y (by simp [hy])⟩
theorem kC {f : Tm -> Tm} : ∀ {l : List Tm}, (∀ x ∈ l, (f x).nodesOk = true) -> nodesOks (l.map f) = true
 | [], _ => rfl
 | x :: r, h => by simp only [List.map_cons, nodesOks, Bool.and_eq_true]; exact ⟨h x (by simp), kC (l := r) fun y hy => h y (by simp [hy])⟩
theorem dP : ∀ {l : List Tm}, nodesOks l = true -> ∀ x ∈ l, x.nodesOk = true
 | y :: r, h, x, hx => by
  simp only [nodesOks, Bool.and_eq_true] at h
  rcases List.mem_cons.1 hx with rfl | hx
  ·exact h.1
  ·exact dP h.2 x hx
variable (g : Int -> Int)
theorem oK (t : Tm) : (t.sub (varF g)).size <= t.size := by
 induction t using cR with
 | _ t ih =>
 rw [jP]
 split
 ·rw [varF, bE]; have := oI t; simp only [Tm.l_mk, sizes]; omega
 ·rw [bE, bE t, Tm.l_mk]; have := gF ih; omega
theorem deep_sub (t : Tm) : (t.sub (varF g)).deep <= t.deep := by
 induction t using cR with
 | _ t ih =>
 rw [jP]
 split
 ·rw [varF, fR, fR t]; simp only [Tm.l_mk, deeps]; omega
 ·rw [fR, fR t, Tm.l_mk]; have := kF ih; omega
theorem vB (t : Tm) (h : t.strs) : (t.sub (varF g)).strs := by
 induction t using cR with
 | _ t ih =>
 rw [bS] at h
 rw [jP]
 split
 ·rw [varF, bS]; exact ⟨by simp only [Tm.s_mk, List.length_nil]; omega, trivial⟩
 ·rw [bS, Tm.s_mk, Tm.l_mk]; exact ⟨h.1, kY fun x hx => ih x hx (bJ h.2 x hx)⟩
def vn (t : Tm) : Option Int := if t.kind = 1 then some t.n else none
def occ (l : List Tm) : List Int := (pres l).filterMap vn
theorem occ_app (a b : List Tm) : occ (a ++ b) = occ a ++ occ b := by simp [occ, nL]
theorem oN (t : Tm) (r : List Tm) : occ (t :: r) = occ [t] ++ occ r := occ_app [t] r
theorem nI (t : Tm) : occ [t] = (match vn t with | some v => v :: occ t.l | none => occ t.l) := by
 simp only [occ, pres, List.append_nil, pre_eq, List.filterMap_cons]
 cases vn t <;> rfl
theorem occ_mem {l : List Tm} {t : Tm} (ht : t ∈ l) {v : Int} (hv : v ∈ occ [t]) : v ∈ occ l := by
 induction l with
 | nil => cases ht
 | cons x r ih =>
  rw [oN]
  rcases List.mem_cons.1 ht with rfl | ht
  ·exact List.mem_append_left _ hv
  ·exact List.mem_append_right _ (ih ht)
theorem occ_kid {t x : Tm} (hx : x ∈ t.l) {v : Int} (hv : v ∈ occ [x]) : v ∈ occ [t] := by
 rw [nI]
 have := occ_mem hx hv
 split
 ·exact List.mem_cons_of_mem _ this
 ·exact this
theorem var_leaf {t : Tm} (h : t.nodesOk = true) (hk : t.kind = 1) : t.s = [] /\ t.l = [] /\ 0 <= t.n /\ t.n < 100000 := by
 rw [bC, Bool.and_eq_true, Tm.nodeOk, if_pos hk, Tm.bare] at h
 simp at h
 exact ⟨h.1.1.1, h.1.1.2, h.1.2⟩
theorem tR (t : Tm) (h : t.nodesOk = true) (hg : ∀ v ∈ occ [t], 0 <= g v /\ g v < 100000) : (t.sub (varF g)).nodesOk = true := by
 induction t using cR with
 | _ t ih =>
 have hn := h
 rw [bC, Bool.and_eq_true] at h
 rw [jP]
 split
 ·rename_i hk
  have := hg t.n (by rw [nI, vn, if_pos hk]; simp)
  rw [varF, bC, Tm.nodeOk, if_pos (by rfl), Tm.bare]
  simp [nodesOks, this]
 ·rename_i hk
  rw [bC, Tm.l_mk, Bool.and_eq_true]
  refine ⟨?_, kC fun x hx => ih x hx (dP h.2 x hx) fun v hv => hg v (occ_kid hx hv)⟩
  have e : (Tm.mk t.kind t.n t.s (t.l.map (Tm.sub (varF g)))).nodeOk = t.nodeOk := by simp only [Tm.nodeOk, Tm.bare, Tm.kind_mk, Tm.n_mk, Tm.s_mk, Tm.l_mk, List.length_map]; rfl
  rw [e]; exact h.1
theorem ok_sub (t : Tm) (h : t.ok = true) (hg : ∀ v ∈ occ [t], 0 <= g v /\ g v < 100000) : (t.sub (varF g)).ok = true := by
 simp only [Tm.ok, Bool.and_eq_true, decide_eq_true_eq] at h ⊢
 have := oK g t
 have := deep_sub g t
 exact ⟨by omega, by omega, tR g t h.2.2 hg⟩
theorem sub_id (t : Tm) (h : t.nodesOk = true) (hg : ∀ v ∈ occ [t], g v = v) : t.sub (varF g) = t := by
 induction t using cR with
 | _ t ih =>
 rw [jP]
 split
 ·rename_i hk
  obtain ⟨a, b, -⟩ := var_leaf h hk
  rw [varF, hg t.n (by rw [nI, vn, if_pos hk]; simp)]
  exact Tm.ext' (by simp [hk]) (by simp) (by simp [a]) (by simp [b])
 ·rw [bC, Bool.and_eq_true] at h
  have : t.l.map (Tm.sub (varF g)) = t.l := by
   conv => rhs; rw [<- List.map_id t.l]
   exact List.map_congr_left fun x hx => ih x hx (dP h.2 x hx) fun v hv => hg v (occ_kid hx hv)
  rw [this]
  exact Tm.ext' (by simp) (by simp) (by simp) (by simp)
def ins (l : List Int) (v : Int) : List Int := if (l.any fun x => x == v) = false then l ++ [v] else l
theorem sM : ∀ (ts : List Tm) (l : List Int), ts.foldl addV l = (ts.filterMap vn).foldl ins l
 | [], l => rfl
 | t :: r, l => by
  rw [List.foldl_cons, sM r, List.filterMap_cons]
  by_cases hk : t.kind = 1
  ·rw [vn, if_pos hk]; simp only [List.foldl_cons, addV, ins, hk, true_and]
  ·rw [vn, if_neg hk, addV, if_neg (by simp [hk])]
theorem dW (l : List Tm) : varsOf l = (occ l).foldl ins [] := sM _ _
theorem mem_ins : ∀ (vs l : List Int) (x : Int), x ∈ vs.foldl ins l ↔ x ∈ l ∨ x ∈ vs
 | [], l, x => by simp
 | v :: r, l, x => by
  rw [List.foldl_cons, mem_ins r, ins]
  split
  ·simp [or_assoc]
  ·rename_i h
   simp only [Bool.not_eq_false, List.any_eq_true, beq_iff_eq] at h
   obtain ⟨y, hy, rfl⟩ := h
   simp only [List.mem_cons]
   constructor
   ·rintro (a | a)
    ·exact .inl a
    ·exact .inr (.inr a)
   ·rintro (a | rfl | a)
    ·exact .inl a
    ·exact .inl hy
    ·exact .inr a
theorem mem_varsOf {l : List Tm} {x : Int} : x ∈ varsOf l ↔ x ∈ occ l := by rw [dW, mem_ins]; simp
theorem xE (l : List Int) (v : Int) : 0 <= idx0 l v /\ idx0 l v <= l.length := by
 rw [idx0]
 rcases h : idxI v l with _ | i
 ·simp
 ·have := nG h
  simp; omega
theorem sW {v : Int} : ∀ {l : List Int}, v ∈ l -> ∃ i, idxI v l = some i /\ l[i]? = some v
 | x :: r, h => by
  by_cases e : v = x
  ·exact ⟨0, by simp [idxI, e], by simp [e]⟩
  ·obtain ⟨i, h1, h2⟩ := sW ((List.mem_cons.1 h).resolve_left e)
   exact ⟨i + 1, by simp [idxI, e, h1], by simpa using h2⟩
theorem xN {l : List Int} (hl : isRange l = true) {v : Int} (hv : v ∈ l) : idx0 l v = v := by
 obtain ⟨i, h1, h2⟩ := sW hv
 have hi := nG h1
 rw [isRange, decide_eq_true_eq] at hl
 rw [hl i hi] at h2
 rw [idx0, h1]
 simpa using h2
end Go.Rip
namespace Go.Rip
open Go
set_option maxRecDepth 100000
variable {GL : Glob}
theorem uJ : ∀ {l : List Int} {v : Int}, v ∉ l -> idxI v l = none
 | [], _, _ => rfl
 | x :: r, v, h => by
  simp only [List.mem_cons, not_or] at h
  simp [idxI, h.1, uJ h.2]
theorem qP : ∀ (vs l : List Int), l.Nodup -> (vs.foldl ins l).Nodup
 | [], l, h => h
 | v :: r, l, h => by
  rw [List.foldl_cons]
  refine qP r _ ?_
  rw [ins]
  split
  ·rename_i hv
   rw [List.nodup_append]
   refine ⟨h, by simp, fun a ha b hb => ?_⟩
   simp only [List.mem_singleton] at hb
   subst hb
   rintro rfl
   simp only [List.any_eq_false, beq_iff_eq] at hv
   exact hv a ha rfl
  ·exact h
theorem sE (l : List Tm) : (varsOf l).Nodup := by rw [dW]; exact qP _ _ List.nodup_nil
theorem xJ {l : List Int} (hn : l.Nodup) {j : Nat} (hj : j < l.length) : l[j] ∉ l.take j := fun hm => by
 obtain ⟨i, hi, he⟩ := List.mem_take_iff_getElem.1 hm
 exact List.pairwise_iff_getElem.1 hn i j (by omega) hj (by omega) he
theorem xT {l : List Tm} (h : termsOk l = true) : ∀ t ∈ l, t.ok = true := fun t ht => by
 simp only [termsOk, Bool.and_eq_true, decide_eq_true_eq] at h
 simp only [Tm.ok, Bool.and_eq_true, decide_eq_true_eq]
 obtain ⟨i, hi, rfl⟩ := List.getElem_of_mem ht
 have := bK hi
 have := lG ht
 exact ⟨by omega, by omega, dP h.1 _ ht⟩
theorem h128 (l : List Tm) (hl : sizes l < 2 ^ 30) (hs : strss l) (hok : termsOk l = true) : Pure (PC GL) 128 [.sl 4 (l.map enc)] (.tup [.sl 4 ((l.map (Tm.sub (varF (idx0 (varsOf l))))).map enc), .sl 1 ((varsOf l).map encI), .i 0]) := by
 have h4 := aQ l
 have q211 := tK (GL := GL) l hl hs hok
 have hvl := fQ l
 have hnd := sE l
 have hoks := xT hok
 have h40 : sizes l <= 4000 := by simp only [termsOk, Bool.and_eq_true, decide_eq_true_eq] at hok; exact hok.2.2
 generalize hvs : varsOf l = vs at *
 refine k128.pure (by simp) (by simp [go_sem]) (by simp [go_sem, -List.map_map]) ?_
 simp -implicitDefEqProofs only [go_sem, c128, r128]
 refine aG hC q211 ?_
 simp -implicitDefEqProofs only [go_sem, ne00]
 refine bH hC (fun j _ => [(26, .i j), (24, .sl 1 (vs.map encI)), (25, .i vs.length), (7, .ref 1 0), (0, .sl 4 (l.map enc)), (5, .sl 1 (vs.map encI))]) (fun j (_ : Unit) h => h = [.map ((vs.take j).map encI) ((List.range j).map fun i => AV.i (i : Nat)), .cells 230 [.mp 0]]) vs.length ?_ fun j _ h hj hh => ?_
 ·exact ⟨(), _, Wk.pick (Nat.zero_le _) (by simp [go_sem]), by simp⟩
 subst hh
 simp -implicitDefEqProofs only [go_sem]
 refine aK (fun hlt => ?_) (fun hlt => ?_)
 ·have hlt := aM hlt
  have w5 : IntKind.i64.wrap ((j : Int) + 1) = (j : Int) + 1 := aP _ (by omega)
  have hi := uJ (xJ hnd hlt)
  simp -implicitDefEqProofs only [go_sem, hlt, aS, encI, eU, hi]
  refine ⟨(), _, Wk.pick (Nat.zero_le _) (by simp [go_sem, w5]), ?_⟩
  simp [bO hlt, encI]
 have hge := aL hlt
 simp -implicitDefEqProofs only [go_sem, hlt, cJ hge]
 have hjl : j = vs.length := by omega
 subst hjl
 refine bH hC (fun j a => [(37, .i j), (10, .own a 4 ((l.take j).map fun t => enc (t.sub (varF (idx0 vs))))), (35, .sl 4 (l.map enc)), (36, .i l.length), (7, .ref 1 0), (5, .sl 1 (vs.map encI))]) (fun j a h => h[a]? = some (.spare 24 4) /\ h[0]? = some (.map (vs.map encI) ((List.range vs.length).map fun i => AV.i (i : Nat))) /\ h[1]? = some (.cells 230 [.mp 0])) l.length ?_ fun j a h hj ⟨ha, hm, hk⟩ => ?_
 ·refine ⟨2, _, (Wk.own_nil 24 4 10 (by simp [go_sem]) (by simp)).trans (Wk.pick (by simp) (by simp [go_sem])), rfl, rfl, rfl⟩
 have ha_g := fun l => aC (l := l) ha
 have ha_s := fun o l => aE (l := l) ha o
 have ha_e := fun o l => aD (o := o) (l := l) ha
 have ha_h := fun o => aJ (o := o) ha
 have hm_g := fun l => aC (l := l) hm
 have hm_s := fun o l => aE (l := l) hm o
 have hm_e := fun o l => aD (o := o) (l := l) hm
 have hm_h := fun o => aJ (o := o) hm
 have hk_g := fun l => aC (l := l) hk
 have hk_s := fun o l => aE (l := l) hk o
 have hk_e := fun o l => aD (o := o) (l := l) hk
 have hk_h := fun o => aJ (o := o) hk
 simp -implicitDefEqProofs only [go_sem]
 refine aK (fun hlt => ?_) (fun hlt => ?_)
 ·have hlt := aM hlt
  have g1 := bK hlt
  have w5 : IntKind.i64.wrap ((j : Int) + 1) = (j : Int) + 1 := aP _ (by omega)
  have hm1 := List.getElem_mem hlt
  have g2 := oK (idx0 vs) l[j]
  have g3 := ok_sub (idx0 vs) l[j] (hoks _ hm1) fun v _ => by have := xE vs v; omega
  simp -implicitDefEqProofs only [go_sem, hlt, aS]
  refine aU hC (h212 213 [.ref 1 0] (varF (idx0 vs)) (fun v => by rw [varF, bE, Tm.l_mk]; simp only [sizes]; omega) l[j] _ (by omega) (by omega) (vB _ _ (bJ hs _ hm1)) fun v h' hk' => h213 v vs 1 0 h' (hk'.got (hk_g _)) (hk'.got (hm_g _))) fun x h3 ⟨hx, hk3⟩ => ?_
  subst hx
  have a3 := hk3.got (ha_g _)
  have m3 := hk3.got (hm_g _)
  have k3 := hk3.got (hk_g _)
  have a3_g := fun l => aC (l := l) a3
  have a3_s := fun o l => aE (l := l) a3 o
  have a3_e := fun o l => aD (o := o) (l := l) a3
  have a3_h := fun o => aJ (o := o) a3
  rw [if_pos g3, if_pos g3]
  simp -implicitDefEqProofs only [go_sem, List.append_assoc, a3_g, a3_s]
  refine ⟨by simp; omega, ?_⟩
  refine ⟨h3.length + 2, _, Wk.pick (Nat.zero_le _) (by simp [go_sem, w5, bO hlt]), ?_, ?_, ?_⟩
  ·rw [cX (by simp)]; simp
  ·exact aW m3 a3 (by simp)
  ·exact aW k3 a3 (by simp)
 ·have hge := aL hlt
  simp -implicitDefEqProofs only [go_sem, hlt, cJ hge]
  refine aI ?_ (by simp [go_sem, -List.map_map])
  simp [go_sem]
theorem pA (l : List Tm) (j : Nat) : sizes (l.drop j) <= sizes l := by
 conv => rhs; rw [<- List.take_append_drop j l, bB]
 omega
def Cl.cut (c : Cl) (l : List Tm) (vars : Int) : Cl := ⟨c.mark, vars, l.take c.head.length, (l.drop c.head.length).take c.guard.length, l.drop (c.head.length + c.guard.length)⟩
theorem h141 (c : Cl) (l : List Tm) (vars : Int) (hl : sizes l < 2 ^ 30) (hab : c.head.length + c.guard.length <= l.length) : Pure (PC GL) 141 [encCl c, .sl 4 (l.map enc), .i vars] (encCl (c.cut l vars)) := by
 have h4 := aQ l
 have w : IntKind.i64.wrap ((c.head.length : Int) + (c.guard.length : Int)) = ((c.head.length + c.guard.length : Nat) : Int) := by rw [aP _ (by omega)]; simp
 have e1 : ((l.map enc).drop (Int.toNat 0)).take (c.head.length - Int.toNat 0) = (l.take c.head.length).map enc := by simp
 have e2 : ((l.map enc).drop c.head.length).take (c.head.length + c.guard.length - c.head.length) = ((l.drop c.head.length).take c.guard.length).map enc := by rw [Nat.add_sub_cancel_left, List.map_take, List.map_drop]
 have e3 : ((l.map enc).drop (c.head.length + c.guard.length)).take (l.length - (c.head.length + c.guard.length)) = (l.drop (c.head.length + c.guard.length)).map enc := by rw [List.map_drop, List.take_of_length_le (by simp)]
 have q1 := h207 (GL := GL) (sizes l) (l.take c.head.length) (cD _ _) hl
 have q2 := h207 (GL := GL) (sizes l) ((l.drop c.head.length).take c.guard.length) (Nat.le_trans (cD _ _) (pA _ _)) hl
 have q3 := h207 (GL := GL) (sizes l) (l.drop (c.head.length + c.guard.length)) (pA _ _) hl
 refine k141.pure (by simp) (by simp [go_sem]) (by simp [go_sem]) ?_
 simp -implicitDefEqProofs only [go_sem, c141, r141, encCl, w, Int.toNat_natCast, e1, e2, e3]
 refine ⟨by omega, by omega, by omega, ?_⟩
 refine aG hC q1 ?_
 simp -implicitDefEqProofs only [go_sem]
 refine aG hC q2 ?_
 simp -implicitDefEqProofs only [go_sem]
 refine aG hC q3 ?_
 simp -implicitDefEqProofs only [go_sem]
 refine aI ?_ ?_ <;> simp [go_sem, Cl.cut, -List.map_take, -List.map_drop]
end Go.Rip
namespace Go.Rip
open Go
set_option maxRecDepth 100000
theorem qE (g : Int -> Int) (l : List Tm) : sizes (l.map (Tm.sub (varF g))) <= sizes l := gF fun x _ => oK g x
def Cl.normal (c : Cl) : Cl := c.cut (c.parts.map (Tm.sub (varF (idx0 (varsOf c.parts))))) (varsOf c.parts).length
theorem cZ {c : Cl} {ar : Int} (h : c.shaped ar = true) : termsOk c.parts = true := by
 simp only [Cl.shaped, Bool.and_eq_true] at h
 exact h.2.1
theorem h47ok (c : Cl) (ht : sizes c.parts < 2 ^ 30) (hs : strss c.parts) (h16 : c.head.length <= 16) (hsh : c.shaped c.head.length = true) : Pure (PC GLs) 47 [encCl c] (.tup [encCl c.normal, .i 0]) := by
 have hok := cZ hsh
 have h4 := aQ c.parts
 have q139 := h139 c c.head.length ht hs
 rw [hsh] at q139
 have q140 := h140 (GL := GLs) c (by omega)
 have q128 := h128 (GL := GLs) c.parts ht hs hok
 have q141 := h141 (GL := GLs) c (c.parts.map (Tm.sub (varF (idx0 (varsOf c.parts))))) (varsOf c.parts).length (by have := qE (idx0 (varsOf c.parts)) c.parts; omega) (by simp [Cl.parts])
 have e16 : decide ((c.head.length : Int) > 16) = false := decide_eq_false (by omega)
 simp only [encCl] at q139 q140 q141
 refine k47.pure (by simp) (by simp [go_sem]) (by simp [go_sem]) ?_
 simp -implicitDefEqProofs only [go_sem, c47, r47, encCl, e16]
 refine aG hC q139 ?_
 simp -implicitDefEqProofs only [go_sem, Bool.not_true]
 refine aG hC q140 ?_
 simp -implicitDefEqProofs only [go_sem]
 refine aG hC q128 ?_
 simp -implicitDefEqProofs only [go_sem, ne00]
 refine aG hC q141 ?_
 simp -implicitDefEqProofs only [go_sem]
 refine aI ?_ ?_ <;> simp [go_sem, Cl.normal]
end Go.Rip
namespace Go.Rip
open Go Go.Proofs
set_option maxRecDepth 100000
variable {GL : Glob}
end Go.Rip
namespace Go.Rip
open Go
set_option maxRecDepth 100000
def Cl.nul : Cl := ⟨0, 0, [], [], []⟩
theorem uO : wkr (.agg [.v (.int .i64 0), .v (.int .i64 0), .v (.slice none 0 0), .v (.slice none 0 0), .v (.slice none 0 0)]) (encCl Cl.nul) := by simp [encCl, Cl.nul, wkr, wkrs]
theorem ok_range {c : Cl} {ar : Int} (h : c.ok ar = true) : c.shaped ar = true /\ isRange (varsOf c.parts) = true /\ ((varsOf c.parts).length : Int) = c.vars := by
 simpa only [Cl.ok, normT, Bool.and_eq_true, beq_iff_eq] using h
end Go.Rip
namespace Go.Rip
open Go
set_option maxRecDepth 100000
variable {GL : Glob}
end Go.Rip
namespace Go.Rip
open Go
set_option maxRecDepth 100000
attribute [local simp] Tm.kind_mk Tm.n_mk Tm.s_mk Tm.l_mk
variable (g : Int -> Int)
theorem sub_node (t : Tm) : (t.sub (varF g)).kind = t.kind /\ (t.kind ≠ 1 -> (t.sub (varF g)).n = t.n /\ (t.sub (varF g)).s = t.s /\ (t.sub (varF g)).l = t.l.map (Tm.sub (varF g))) := by
 rw [jP]
 by_cases h : t.kind = 1
 ·rw [if_pos h]; simp [varF, h]
 ·rw [if_neg h]; simp
theorem vZ (t : Tm) (s : List UInt8) : (t.sub (varF g)).isAtom s = t.isAtom s := by
 obtain ⟨a, b⟩ := sub_node g t
 rw [Tm.isAtom, Tm.isAtom, a]
 by_cases h : t.kind = 1
 ·simp [h]
 ·rw [(b h).2.1]
def Cl.mapT (c : Cl) (f : Tm -> Tm) (v : Int) : Cl := ⟨c.mark, v, c.head.map f, c.guard.map f, c.body.map f⟩
theorem rE (c : Cl) (f : Tm -> Tm) (v : Int) : c.cut (c.parts.map f) v = c.mapT f v := by
 simp only [Cl.cut, Cl.mapT, Cl.parts, List.map_append]
 congr 1
 ·rw [List.take_left' (by simp)]
 ·rw [List.drop_left' (by simp), List.take_left' (by simp)]
 ·rw [<- List.append_assoc, List.drop_left' (by simp)]
theorem wV (c : Cl) (f : Tm -> Tm) (v : Int) : (c.mapT f v).parts = c.parts.map f := by simp [Cl.mapT, Cl.parts]
theorem mapT_id (c : Cl) (v : Int) (f : Tm -> Tm) (h : ∀ t ∈ c.parts, f t = t) (hv : v = c.vars) : c.mapT f v = c := by
 obtain ⟨m, w, a, b, d⟩ := c
 simp only [Cl.parts, List.mem_append] at h
 simp only [Cl.mapT] at hv ⊢
 subst hv
 have e : ∀ l : List Tm, (∀ t ∈ l, f t = t) -> l.map f = l := fun l hl => by
  conv => rhs; rw [<- List.map_id l]
  exact List.map_congr_left hl
 rw [e a fun t ht => h t (.inl ht), e b fun t ht => h t (.inr (.inl ht)), e d fun t ht => h t (.inr (.inr ht))]
theorem normal_id {c : Cl} {ar : Int} (h : c.ok ar = true) : c.normal = c := by
 obtain ⟨hsh, hr, hv⟩ := ok_range h
 have hto := cZ hsh
 have hno : nodesOks c.parts = true := by simp only [termsOk, Bool.and_eq_true] at hto; exact hto.1
 rw [Cl.normal, rE]
 exact mapT_id c _ _ (fun t ht => sub_id _ t (dP hno t ht) fun w hw => xN hr (mem_varsOf.2 (occ_mem ht hw))) hv
end Go.Rip
namespace Go.Rip
open Go
set_option maxRecDepth 100000
end Go.Rip
namespace Go.Rip
open Go Go.Proofs
variable {GL : Glob}
attribute [local irreducible] Pure
end Go.Rip
namespace Go.Rip
open Go Go.Proofs
set_option maxRecDepth 100000
attribute [local irreducible] Pure
end Go.Rip
namespace Go.Rip
open Go Go.Proofs
set_option maxRecDepth 100000
variable {GL : Glob}
def Cl.nOk (c : Cl) : Bool := decide (c.head.length <= 16) && c.shaped c.head.length
def Cl.nR (c : Cl) : Cl := if c.nOk then c.normal else Cl.nul
def Cl.nE (c : Cl) : Int := if c.nOk then 0 else 40
theorem h47 (c : Cl) (ht : sizes c.parts < 2 ^ 30) (hs : strss c.parts) : Pure (PC GLs) 47 [encCl c] (.tup [encCl c.nR, .i c.nE]) := by
 by_cases h16 : c.head.length <= 16
 ·rcases hsh : c.shaped c.head.length
  ·have e1 : c.nR = Cl.nul := by simp [Cl.nR, Cl.nOk, hsh]
   have e2 : c.nE = 40 := by simp [Cl.nE, Cl.nOk, hsh]
   rw [e1, e2]
   have q139 := h139 c c.head.length ht hs
   rw [hsh] at q139
   have e16 : decide ((c.head.length : Int) > 16) = false := decide_eq_false (by omega)
   simp only [encCl] at q139
   refine k47.pure (by simp) (by simp [go_sem]) (by simp [go_sem]) ?_
   simp -implicitDefEqProofs only [go_sem, c47, r47, encCl, e16]
   refine aG hC q139 ?_
   simp -implicitDefEqProofs only [go_sem, Bool.not_false]
   exact aI (kP uO rfl) (by simp [go_sem])
  ·have hn : c.nOk = true := by simp [Cl.nOk, hsh, h16]
   have e1 : c.nR = c.normal := by rw [Cl.nR, if_pos hn]
   have e2 : c.nE = 0 := by rw [Cl.nE, if_pos hn]
   rw [e1, e2]
   exact h47ok c ht hs h16 hsh
 ·have e1 : c.nR = Cl.nul := by simp [Cl.nR, Cl.nOk, h16]
  have e2 : c.nE = 40 := by simp [Cl.nE, Cl.nOk, h16]
  rw [e1, e2]
  have e16 : decide ((c.head.length : Int) > 16) = true := decide_eq_true (by omega)
  refine k47.pure (by simp) (by simp [go_sem]) (by simp [go_sem]) ?_
  simp -implicitDefEqProofs only [go_sem, c47, r47, encCl, e16]
  exact aI (kP uO rfl) (by simp [go_sem])
end Go.Rip
namespace Go.Rip
open Go Go.Proofs
set_option maxRecDepth 100000
def Pr.fine (q : Pr) : Bool := nameOk q.name && (!decide (q.arity < 0) && (!decide (q.arity > 16) && (!q.sym.res && !decide ((q.clauses.length : Int) > 32))))
theorem iG : ∀ (l : List Pr) (seen : List Sym), headsOk seen l = true ↔ (l.map Pr.sym).Nodup /\ (∀ q ∈ l, q.sym ∉ seen) /\ ∀ q ∈ l, q.fine = true
 | [], seen => by simp [headsOk]
 | q :: r, seen => by
  rw [headsOk, Bool.and_eq_true, iG r]
  have hq : q.head seen = true ↔ q.sym ∉ seen /\ q.fine = true := by
   rw [Pr.head, Bool.and_eq_true, Bool.not_eq_true', decide_eq_false_iff_not]; rfl
  rw [hq, List.map_cons, List.nodup_cons]
  constructor
  ·rintro ⟨⟨h1, h2⟩, h3, h4, h5⟩
   refine ⟨⟨fun hm => ?_, h3⟩, fun x hx => ?_, fun x hx => ?_⟩
   ·obtain ⟨y, hy, e⟩ := List.mem_map.1 hm
    exact h4 y hy (by rw [e]; simp)
   ·rcases List.mem_cons.1 hx with e | hx
    ·rw [e]; exact h1
    ·exact fun h => h4 x hx (by simp [h])
   ·rcases List.mem_cons.1 hx with e | hx
    ·rw [e]; exact h2
    ·exact h5 x hx
  ·rintro ⟨⟨h1, h2⟩, h3, h4⟩
   refine ⟨⟨h3 q (by simp), h4 q (by simp)⟩, h2, fun x hx hm => ?_, fun x hx => h4 x (by simp [hx])⟩
   rcases List.mem_append.1 hm with hm | hm
   ·exact h3 x (by simp [hx]) hm
   ·exact h1 (List.mem_map.2 ⟨x, hx, List.mem_singleton.1 hm⟩)
section
variable {p : Pg} {q : Qy} {S : List Bool}
end
end Go.Rip
namespace Go.Rip
open Go Go.Proofs
abbrev trueB : List UInt8 := [116, 114, 117, 101]
abbrev neckB : List UInt8 := [58, 45]
abbrev otherB : List UInt8 := [111, 116, 104, 101, 114, 119, 105, 115, 101]
abbrev altB : List UInt8 := [97, 108, 116, 101, 114, 110, 97, 116, 105, 118, 101, 108, 121]
def atomT (s : List UInt8) : Tm := .mk 3 0 s []
def funT (s : List UInt8) (l : List Tm) : Tm := .mk 5 0 s l
def Tm.isT (t : Tm) : Bool := t.isAtom trueB
def conjT : List Tm -> Tm
 | [] => atomT trueB
 | [t] => t
 | t :: u :: r => funT [44] [t, conjT (u :: r)]
def noT (l : List Tm) : List Tm := l.filter fun t => !t.isT
def joinT (l : List Tm) : Tm := conjT (noT l)
mutual
def Tm.parted : Tm -> List Tm
 | .mk k n s l => if k == 5 && (s == [44] && (l.length : Int) == 2) then parteds l else if k == 3 && s == trueB then [] else [.mk k n s l]
def parteds : List Tm -> List Tm
 | [] => []
 | t :: r => t.parted ++ parteds r
end
theorem dG (t : Tm) : t.parted = if t.isFun [44] 2 = true then parteds t.l else if t.isT = true then [] else [t] := by
 cases t; rfl
theorem lW {t : Tm} (h : t.isFun [44] 2 = false) (h2 : t.isT = false) : t.parted = [t] := by
 rw [dG, h, h2]; rfl
theorem qC : ∀ l : List Tm, (∀ t ∈ l, t.isFun [44] 2 = false /\ t.isT = false) -> (conjT l).parted = l
 | [], _ => rfl
 | [t], h => lW (h t (by simp)).1 (h t (by simp)).2
 | t :: u :: r, h => by
  have h1 := lW (h t (by simp)).1 (h t (by simp)).2
  have h2 := qC (u :: r) fun x hx => h x (List.mem_cons_of_mem _ hx)
  rw [conjT, dG, if_pos (by rfl)]
  simp only [funT, Tm.l, parteds, h1, h2, List.append_nil]
  rfl
theorem mem_noT {l : List Tm} {t : Tm} : t ∈ noT l ↔ t ∈ l /\ t.isT = false := by simp [noT]
theorem lK {l : List Tm} (h : ∀ t ∈ l, t.isFun [44] 2 = false) : (joinT l).parted = noT l :=
 qC _ fun t ht => ⟨h t (mem_noT.1 ht).1, (mem_noT.1 ht).2⟩
theorem conj_isT : ∀ {l : List Tm}, (∀ t ∈ l, t.isT = false) -> ((conjT l).isT = true ↔ l = [])
 | [], _ => by simp [conjT, atomT, Tm.isT, Tm.isAtom, Tm.kind, Tm.s]
 | [t], h => by simp [conjT, h t (by simp)]
 | t :: u :: r, _ => by simp [conjT, funT, Tm.isT, Tm.isAtom, Tm.kind]
theorem join_isT {l : List Tm} : (joinT l).isT = true ↔ noT l = [] := conj_isT fun _ ht => (mem_noT.1 ht).2
theorem iJ : ∀ l : List Tm, (conjT l).size <= sizes l + l.length + 1
 | [] => by simp [conjT, atomT, Tm.size, sizes]
 | [t] => by simp only [conjT, sizes, List.length_singleton]; omega
 | t :: u :: r => by
  have := iJ (u :: r)
  simp only [conjT, funT, Tm.size, sizes, List.length_cons] at this ⊢
  omega
theorem lI : ∀ l : List Tm, (conjT l).deep <= deeps l + l.length + 1
 | [] => by simp [conjT, atomT, Tm.deep, deeps]
 | [t] => by simp [conjT, deeps]; omega
 | t :: u :: r => by
  have := lI (u :: r)
  simp only [conjT, funT, Tm.deep, deeps, List.length_cons] at this ⊢
  omega
theorem jQ : ∀ {l : List Tm}, nodesOks l = true -> (conjT l).nodesOk = true
 | [], _ => by rfl
 | [t], h => by simpa [conjT, nodesOks] using h
 | t :: u :: r, h => by
  simp only [nodesOks, Bool.and_eq_true] at h
  have h2 := jQ (l := u :: r) (by simp only [nodesOks, Bool.and_eq_true]; exact h.2)
  rw [conjT, bC]
  simp only [funT, Tm.l, nodesOks, h.1, h2, Bool.and_true]
  rfl
theorem fD : ∀ l : List Tm, sizes (noT l) <= sizes l
 | [] => by simp [noT, sizes]
 | t :: r => by
  have := fD r
  simp only [noT, List.filter_cons] at this ⊢
  split <;> simp only [sizes] <;> omega
theorem fH : ∀ l : List Tm, deeps (noT l) <= deeps l
 | [] => by simp [noT, deeps]
 | t :: r => by
  have := fH r
  simp only [noT, List.filter_cons] at this ⊢
  split <;> simp only [deeps] <;> omega
theorem fL : ∀ {l : List Tm}, nodesOks l = true -> nodesOks (noT l) = true
 | [], _ => by rfl
 | t :: r, h => by
  simp only [nodesOks, Bool.and_eq_true] at h
  have := fL h.2
  simp only [noT, List.filter_cons] at this ⊢
  split
  ·simp only [nodesOks, h.1, this, Bool.and_true]
  ·exact this
theorem iQ (l : List Tm) : (noT l).length <= l.length := List.length_filter_le _ _
theorem mW : ∀ {l : List Tm}, nodesOks l = true -> occ (noT l) = occ l
 | [], _ => rfl
 | t :: r, h => by
  simp only [nodesOks, Bool.and_eq_true] at h
  have ih := mW h.2
  rw [oN t r, <- ih]
  cases ht : t.isT
  ·have e : noT (t :: r) = t :: noT r := by simp [noT, ht]
   rw [e, oN]
  ·have e : noT (t :: r) = noT r := by simp [noT, ht]
   have h0 : occ [t] = [] := by
    simp only [Tm.isT, Tm.isAtom, Bool.and_eq_true, beq_iff_eq] at ht
    have hn := h.1
    rw [bC, Tm.nodeOk] at hn
    simp only [ht.1, Tm.bare] at hn
    have hl : t.l = [] := by
     simp at hn
     exact hn.1.1.2
    rw [nI, hl, vn, if_neg (by omega)]; rfl
   rw [e, h0]; rfl
def Cl.bareC (c : Cl) : Cl := ⟨c.mark, c.vars, c.head, noT c.guard, noT c.body⟩
def Pr.bareP (q : Pr) : Pr := ⟨q.name, q.arity, q.clauses.map Cl.bareC⟩
def Pg.bare (p : Pg) : Pg := ⟨p.procs.map Pr.bareP⟩
theorem occ_bare {c : Cl} (h : nodesOks c.parts = true) : occ c.bareC.parts = occ c.parts := by
 simp only [Cl.parts, cA, Bool.and_eq_true] at h
 simp only [Cl.parts, Cl.bareC, occ_app, mW h.2.1, mW h.2.2]
theorem vars_noT {l : List Tm} (h : nodesOks l = true) : varsOf (noT l) = varsOf l := by rw [dW, dW, mW h]
theorem qG {c : Cl} (h : nodesOks c.parts = true) : varsOf c.bareC.parts = varsOf c.parts := by rw [dW, dW, occ_bare h]
theorem any_noT {l : List Tm} {f : Tm -> Bool} (h : (l.any f) = false) : ((noT l).any f) = false := by
 rw [List.any_eq_false] at h ⊢
 exact fun x hx => h x (mem_noT.1 hx).1
theorem mA {c : Cl} {ar : Int} (h : c.shaped ar = true) : c.bareC.shaped ar = true := by
 have hto := cZ h
 simp only [termsOk, Bool.and_eq_true, decide_eq_true_eq] at hto
 have hn := hto.1
 simp only [Cl.shaped, Cl.bad, Bool.and_eq_true, Bool.not_eq_true', Bool.or_eq_false_iff, decide_eq_false_iff_not, decide_eq_true_eq, bne_eq_false_iff_eq] at h ⊢
 have hs : sizes c.bareC.parts <= sizes c.parts := by
  have := fD c.guard; have := fD c.body
  simp only [Cl.parts, Cl.bareC, bB]; omega
 have hd : deeps c.bareC.parts <= deeps c.parts := by
  have := fH c.guard; have := fH c.body
  simp only [Cl.parts, Cl.bareC, iK]; omega
 have l1 := iQ c.guard
 have l2 := iQ c.body
 have hn' := hn
 simp only [Cl.parts, cA, Bool.and_eq_true] at hn'
 obtain ⟨⟨m0, m2, ml, g8, b16⟩, t1, s4, v64, vg, gt, bt⟩ := h
 refine ⟨⟨m0, m2, ml, by simp only [Cl.bareC]; omega, by simp only [Cl.bareC]; omega⟩, ?_, by omega, by rw [qG hn]; exact v64, ?_, any_noT gt, any_noT bt⟩
 ·simp only [termsOk, Bool.and_eq_true, decide_eq_true_eq]
  refine ⟨?_, by omega, by omega⟩
  simp only [Cl.parts, Cl.bareC, cA, hn'.1, fL hn'.2.1, fL hn'.2.2, Bool.and_true]
 ·simp only [Cl.bareC, vars_noT hn'.2.1]; exact vg
theorem tF {c : Cl} {ar : Int} (h : c.ok ar = true) : c.bareC.ok ar = true := by
 simp only [Cl.ok, Bool.and_eq_true] at h ⊢
 have hto := cZ h.1
 simp only [termsOk, Bool.and_eq_true] at hto
 refine ⟨mA h.1, ?_⟩
 rw [normT, qG hto.1]; exact h.2
def headT (s : List UInt8) (l : List Tm) : Tm := match l with
 | [] => atomT s
 | x :: r => funT s (x :: r)
def writT (name : List UInt8) (c : Cl) : Tm :=
 if (joinT c.guard).isT = false then funT neckB [headT name c.head, funT [124] [joinT c.guard, joinT c.body]]
 else if (joinT c.body).isT = false then funT neckB [headT name c.head, joinT c.body] else headT name c.head
def markT (m : Int) : Tm := atomT (if m = 1 then otherB else altB)
def intT (n : Int) : Tm := .mk 2 n [] []
def declT (q : Pr) : Tm := funT neckB [funT [47] [atomT q.name, intT q.arity]]
def clTs (name : List UInt8) (c : Cl) : List Tm := if c.mark = 0 then [writT name c] else [markT c.mark, writT name c]
def prTs (q : Pr) : List Tm := declT q :: q.clauses.flatMap (clTs q.name)
def Pg.terms (p : Pg) : List Tm := p.procs.flatMap prTs
structure Rd where
 procs : List Pr
 mark : Int
def Rd.begin (r : Rd) (s : Sym) : Option Rd :=
 if !s.res && (!decide (s ∈ r.procs.map Pr.sym) && (decide (r.procs.length < 64) && (nameOk s.name && decide (s.arity <= 16)))) then some ⟨r.procs ++ [⟨s.name, s.arity, []⟩], r.mark⟩ else none
def Tm.at0 (t : Tm) : Tm := t.l.getD 0 .zero
def Tm.at1 (t : Tm) : Tm := t.l.getD 1 .zero
def Rd.decl (r : Rd) (t : Tm) : Option Rd :=
 if r.mark == 0 && (t.isFun [47] 2 && (t.at0.kind == 3 && (t.at1.kind == 2 && (decide (0 <= t.at1.n) && decide (t.at1.n <= 16))))) then r.begin ⟨t.at0.s, t.at1.n⟩ else none
def Tm.split (t : Tm) : Tm × Tm × Tm :=
 if t.isFun neckB 2 = true then if t.at1.isFun [124] 2 = true then (t.at0, t.at1.at0, t.at1.at1) else (t.at0, atomT trueB, t.at1) else (t, atomT trueB, atomT trueB)
def Rd.open (r : Rd) (s : Sym) : Option Rd := match r.procs.getLast? with
 | some q => if q.sym = s then some r else r.begin s
 | none => r.begin s
def Rd.add (r : Rd) (c : Cl) : Option Rd := match r.procs.getLast? with
 | some q => if c.nOk && decide (q.clauses.length < 32) then some ⟨r.procs.dropLast ++ [⟨q.name, q.arity, q.clauses ++ [c.normal]⟩], 0⟩ else none
 | none => none
def Rd.clause (r : Rd) (t : Tm) : Option Rd :=
 if t.split.1.isSym && !t.split.1.sym.res then (r.open t.split.1.sym).bind fun r' => r'.add ⟨r.mark, 0, t.split.1.l, t.split.2.1.parted, t.split.2.2.parted⟩ else none
def Rd.read (r : Rd) (t : Tm) : Option Rd :=
 if t.isAtom otherB || t.isAtom altB then (if r.mark == 0 then some ⟨r.procs, if t.s = altB then 2 else 1⟩ else none)
 else if t.isFun neckB 1 then r.decl t.at0 else r.clause t
def readL : List Tm -> Rd -> Option Rd
 | [], r => some r
 | t :: l, r => (r.read t).bind (readL l)
theorem fN : ∀ (a b : List Tm) (r : Rd), readL (a ++ b) r = (readL a r).bind (readL b)
 | [], b, r => rfl
 | t :: a, b, r => by
  simp only [List.cons_append, readL]
  cases r.read t with
  | none => rfl
  | some r' => simpa using fN a b r'
def progR (l : List Tm) : Option Pg :=
 if l.all Tm.ok = true then match readL l ⟨[], 0⟩ with
  | some r => if (r.mark == 0 && Pg.ok ⟨r.procs⟩) = true then some ⟨r.procs⟩ else none
  | none => none
 else none
section
variable {name : List UInt8} {l : List Tm} {x : List UInt8} {n : Int}
theorem head_sym (name : List UInt8) (l : List Tm) : (headT name l).sym = ⟨name, l.length⟩ := by cases l <;> rfl
theorem wS (name : List UInt8) (l : List Tm) : (headT name l).isSym = true := by cases l <;> rfl
theorem wG (name : List UInt8) (l : List Tm) : (headT name l).l = l := by cases l <;> rfl
theorem pX (h : (headT name l).isAtom x = true) : name = x /\ l = [] := by
 cases l with
 | nil => simpa [headT, atomT, Tm.isAtom, Tm.kind, Tm.s] using h
 | cons a r => simp [headT, funT, Tm.isAtom, Tm.kind] at h
theorem vG (h : (headT name l).isFun x n = true) : name = x /\ (l.length : Int) = n := by
 cases l with
 | nil => simp [headT, atomT, Tm.isFun, Tm.kind] at h
 | cons a r => simpa [headT, funT, Tm.isFun, Tm.kind, Tm.s, Tm.l] using h
end
theorem res_other : Sym.res ⟨otherB, 0⟩ = true := by decide
theorem res_alt : Sym.res ⟨altB, 0⟩ = true := by decide
theorem res_neck1 : Sym.res ⟨neckB, 1⟩ = true := by decide
theorem res_neck2 : Sym.res ⟨neckB, 2⟩ = true := by decide
theorem kB {name : List UInt8} {l : List Tm} (hres : Sym.res ⟨name, l.length⟩ = false) :
  (headT name l).isAtom otherB = false /\ (headT name l).isAtom altB = false /\ (headT name l).isFun neckB 1 = false /\ (headT name l).isFun neckB 2 = false := by
 refine ⟨?_, ?_, ?_, ?_⟩ <;> rw [Bool.eq_false_iff] <;> intro h
 ·obtain ⟨rfl, rfl⟩ := pX h
  rw [show ((([] : List Tm).length : Nat) : Int) = 0 from rfl, res_other] at hres; cases hres
 ·obtain ⟨rfl, rfl⟩ := pX h
  rw [show ((([] : List Tm).length : Nat) : Int) = 0 from rfl, res_alt] at hres; cases hres
 ·obtain ⟨rfl, hl⟩ := vG h
  rw [hl, res_neck1] at hres; cases hres
 ·obtain ⟨rfl, hl⟩ := vG h
  rw [hl, res_neck2] at hres; cases hres
theorem tA {t : Tm} {s : List UInt8} (h : t.goal.1 ≠ 0) (hs : Sym.isFix ⟨s, 2⟩ = true) (h1 : (s == [61]) = false) (h2 : (s == [58, 61]) = false) (h3 : Sym.isOp ⟨s, 2⟩ = false) (h4 : (s == [64]) = false) : t.isFun s 2 = false := by
 rw [Bool.eq_false_iff]
 intro hf
 obtain ⟨e, hl⟩ := dH hf
 have hne : ∀ x, (s == x) = false -> t.isFun x 2 = false := fun x hx => by
  rw [e, Tm.isFun]; simp only [Tm.kind, Tm.s, hx, Bool.false_and, Bool.and_false]
 have hsym : t.sym = ⟨s, 2⟩ := by rw [Tm.sym, hl]; rw [e]; rfl
 have hk : t.gkind = 0 := by
  rw [Tm.gkind, hne _ h1, hne _ h2, hsym, h3, hs]
  have : t.isSym = true := by rw [e]; rfl
  have h5 : t.isAtom [116, 114, 117, 101] = false := by rw [e]; rfl
  rw [this, h5]; rfl
 rw [Tm.goal, hne _ h4] at h
 simp [hk] at h
theorem test_fun {t : Tm} (h : t.test = true) : t.isFun [44] 2 = false := by
 rw [Bool.eq_false_iff]
 intro hf
 obtain ⟨e, hl⟩ := dH hf
 rw [e] at h
 exact absurd h (by simp [Tm.test, Tm.isAtom, Tm.kind, Tm.s, tstL, cmpL, getT])
theorem sF {c : Cl} {ar : Int} (h : c.shaped ar = true) : (∀ t ∈ c.guard, t.isFun [44] 2 = false) /\ (∀ t ∈ c.body, t.isFun [44] 2 = false) /\ ∀ t ∈ c.body, t.isFun [124] 2 = false := by
 simp only [Cl.shaped, Bool.and_eq_true, Bool.not_eq_true', List.any_eq_false] at h
 obtain ⟨-, -, -, -, -, gt, bt⟩ := h
 refine ⟨fun t ht => test_fun (by simpa using gt t ht), fun t ht => ?_, fun t ht => ?_⟩
 ·exact tA (by simpa using bt t ht) (by decide) (by decide) (by decide) (by decide) (by decide)
 ·exact tA (by simpa using bt t ht) (by decide) (by decide) (by decide) (by decide) (by decide)
theorem join_bar {l : List Tm} (h : ∀ t ∈ l, t.isFun [124] 2 = false) : (joinT l).isFun [124] 2 = false := by
 rw [joinT]
 have h' : ∀ t ∈ noT l, t.isFun [124] 2 = false := fun t ht => h t (mem_noT.1 ht).1
 match noT l, h' with
 | [], _ => rfl
 | [t], h => exact h t (by simp)
 | t :: u :: r, _ => rfl
theorem xC {name : List UInt8} {c : Cl} (hres : Sym.res ⟨name, c.head.length⟩ = false) (h : c.shaped c.head.length = true) :
  (writT name c).split.1 = headT name c.head /\ (writT name c).split.2.1.parted = noT c.guard /\ (writT name c).split.2.2.parted = noT c.body := by
 obtain ⟨g1, g2, g3⟩ := sF h
 have hT : (atomT trueB).parted = [] := rfl
 rw [writT]
 cases hg : (joinT c.guard).isT
 ·rw [if_pos rfl]
  exact ⟨rfl, lK g1, lK g2⟩
 ·have eg := join_isT.1 hg
  rw [if_neg (by simp)]
  cases hb : (joinT c.body).isT
  ·rw [if_pos rfl]
   have e : (funT neckB [headT name c.head, joinT c.body]).split = (headT name c.head, atomT trueB, joinT c.body) := by
    have e2 := join_bar g3
    rw [Tm.split, if_pos (by rfl)]
    have e3 : (funT neckB [headT name c.head, joinT c.body]).at1 = joinT c.body := rfl
    rw [e3, if_neg (by rw [e2]; simp)]
    rfl
   rw [e, eg]
   exact ⟨rfl, hT, lK g2⟩
  ·have eb := join_isT.1 hb
   rw [if_neg (by simp), Tm.split, if_neg (by rw [(kB hres).2.2.2]; simp), eg, eb]
   exact ⟨rfl, hT, hT⟩
theorem writ_not {name : List UInt8} {c : Cl} (hres : Sym.res ⟨name, c.head.length⟩ = false) : (writT name c).isAtom otherB = false /\ (writT name c).isAtom altB = false /\ (writT name c).isFun neckB 1 = false := by
 rw [writT]
 split
 ·exact ⟨rfl, rfl, rfl⟩
 ·split
  ·exact ⟨rfl, rfl, rfl⟩
  ·exact ⟨(kB hres).1, (kB hres).2.1, (kB hres).2.2.1⟩
theorem read_writ {ps : List Pr} {name : List UInt8} {cs : List Cl} {c : Cl} {ar : Int} (hres : Sym.res ⟨name, ar⟩ = false) (hc : c.ok ar = true) (h16 : ar <= 16) (hcs : cs.length < 32) :
  Rd.read ⟨ps ++ [⟨name, ar, cs⟩], c.mark⟩ (writT name c) = some ⟨ps ++ [⟨name, ar, cs ++ [c.bareC]⟩], 0⟩ := by
 have hsh : c.shaped ar = true := by simp only [Cl.ok, Bool.and_eq_true] at hc; exact hc.1
 have har : ar = c.head.length := by
  have := hsh
  simp only [Cl.shaped, Cl.bad, Bool.and_eq_true, Bool.not_eq_true', Bool.or_eq_false_iff, bne_eq_false_iff_eq] at this
  exact this.1.2.2.1.symm
 subst har
 obtain ⟨n1, n2, n3⟩ := writ_not hres
 obtain ⟨s1, s2, s3⟩ := xC hres hsh
 rw [Rd.read, n1, n2, n3]
 simp only [Bool.or_self, Bool.false_eq_true, if_false]
 rw [Rd.clause, s1, s2, s3, wS, head_sym, hres, wG]
 have hb := mA hsh
 have hbo := tF hc
 have hno : Cl.nOk ⟨c.mark, 0, c.head, noT c.guard, noT c.body⟩ = true := by
  simp only [Cl.nOk, Bool.and_eq_true, decide_eq_true_eq]
  exact ⟨by omega, hb⟩
 have hnm : Cl.normal ⟨c.mark, 0, c.head, noT c.guard, noT c.body⟩ = c.bareC := normal_id hbo
 simp only [Bool.not_false, Bool.and_self, if_true, Rd.open, List.getLast?_append, List.getLast?_singleton, Option.some_or, Pr.sym, Option.bind_some, Rd.add, hno, hnm, hcs, decide_true, List.dropLast_concat]
theorem read_cl {ps : List Pr} {name : List UInt8} {cs : List Cl} {c : Cl} {ar : Int} (hres : Sym.res ⟨name, ar⟩ = false) (hc : c.ok ar = true) (h16 : ar <= 16) (hcs : cs.length < 32) :
  readL (clTs name c) ⟨ps ++ [⟨name, ar, cs⟩], 0⟩ = some ⟨ps ++ [⟨name, ar, cs ++ [c.bareC]⟩], 0⟩ := by
 have h1 := read_writ (ps := ps) hres hc h16 hcs
 have hm : 0 <= c.mark /\ c.mark <= 2 := by
  simp only [Cl.ok, Cl.shaped, Cl.bad, Bool.and_eq_true, Bool.not_eq_true', Bool.or_eq_false_iff, decide_eq_false_iff_not] at hc
  omega
 rw [clTs]
 split
 ·rename_i h0
  rw [h0] at h1
  rw [readL, h1]; rfl
 ·rename_i h0
  have h2 : Rd.read ⟨ps ++ [⟨name, ar, cs⟩], 0⟩ (markT c.mark) = some ⟨ps ++ [⟨name, ar, cs⟩], c.mark⟩ := by
   rcases (show c.mark = 1 ∨ c.mark = 2 by omega) with e | e <;> rw [e] <;> rfl
  rw [readL, h2, Option.bind_some, readL, h1]; rfl
theorem tN {ps : List Pr} {name : List UInt8} {ar : Int} (hres : Sym.res ⟨name, ar⟩ = false) (h16 : ar <= 16) : ∀ (l : List Cl) (cs : List Cl), (∀ c ∈ l, c.ok ar = true) -> cs.length + l.length <= 32 ->
  readL (l.flatMap (clTs name)) ⟨ps ++ [⟨name, ar, cs⟩], 0⟩ = some ⟨ps ++ [⟨name, ar, cs ++ l.map Cl.bareC⟩], 0⟩
 | [], cs, _, _ => by simp [readL]
 | c :: l, cs, h, hl => by
  rw [List.flatMap_cons, fN, read_cl hres (h c (by simp)) h16 (by simp at hl; omega), Option.bind_some, tN hres h16 l _ (fun x hx => h x (by simp [hx])) (by simp at hl ⊢; omega)]
  simp
theorem fine_iff {q : Pr} : q.fine = true ↔ nameOk q.name = true /\ 0 <= q.arity /\ q.arity <= 16 /\ q.sym.res = false /\ q.clauses.length <= 32 := by
 simp only [Pr.fine, Bool.and_eq_true, Bool.not_eq_true', decide_eq_false_iff_not]
 constructor
 ·rintro ⟨a, b, c, d, e⟩; exact ⟨a, by omega, by omega, d, by omega⟩
 ·rintro ⟨a, b, c, d, e⟩; exact ⟨a, by omega, by omega, d, by omega⟩
theorem read_pr {ps : List Pr} {q : Pr} (hf : q.fine = true) (hn : q.sym ∉ ps.map Pr.sym) (hl : ps.length < 64) (hc : ∀ c ∈ q.clauses, c.ok q.arity = true) :
  readL (prTs q) ⟨ps, 0⟩ = some ⟨ps ++ [q.bareP], 0⟩ := by
 obtain ⟨f1, f2, f3, f4, f5⟩ := fine_iff.1 hf
 have e1 : Rd.read ⟨ps, 0⟩ (declT q) = some ⟨ps ++ [⟨q.name, q.arity, []⟩], 0⟩ := by
  have e : Rd.read ⟨ps, 0⟩ (declT q) = Rd.decl ⟨ps, 0⟩ (funT [47] [atomT q.name, intT q.arity]) := rfl
  have e2 : (funT [47] [atomT q.name, intT q.arity]).at0 = atomT q.name := rfl
  have e3 : (funT [47] [atomT q.name, intT q.arity]).at1 = intT q.arity := rfl
  have e4 : (funT [47] [atomT q.name, intT q.arity]).isFun [47] 2 = true := rfl
  have e5 : (atomT q.name).kind = 3 := rfl
  have e6 : (atomT q.name).s = q.name := rfl
  have e7 : (intT q.arity).kind = 2 := rfl
  have e8 : (intT q.arity).n = q.arity := rfl
  have e9 : Sym.res ⟨q.name, q.arity⟩ = false := f4
  have e10 : (⟨q.name, q.arity⟩ : Sym) ∉ ps.map Pr.sym := hn
  rw [e, Rd.decl, e2, e3, e4, e5, e6, e7, e8, Rd.begin, e9]
  simp only [e10, hl, f1, f2, f3, decide_true, decide_false, Bool.not_false, Bool.and_self, beq_self_eq_true, if_true]
 rw [prTs, readL, e1, Option.bind_some, tN f4 f3 q.clauses [] hc (by simp; omega)]
 rfl
theorem tU : ∀ (l ps : List Pr), (∀ q ∈ l, q.fine = true) -> ((ps ++ l).map Pr.sym).Nodup -> (ps ++ l).length <= 64 -> (∀ q ∈ l, ∀ c ∈ q.clauses, c.ok q.arity = true) ->
  readL (l.flatMap prTs) ⟨ps.map Pr.bareP, 0⟩ = some ⟨(ps ++ l).map Pr.bareP, 0⟩
 | [], ps, _, _, _, _ => by simp [readL]
 | q :: l, ps, hf, hn, hl, hc => by
  have es : (ps.map Pr.bareP).map Pr.sym = ps.map Pr.sym := by rw [List.map_map]; rfl
  have h1 : q.sym ∉ ps.map Pr.sym := fun hm => by
   rw [List.map_append, List.map_cons, List.nodup_append] at hn
   exact hn.2.2 _ hm _ (by simp) rfl
  rw [List.flatMap_cons, fN, read_pr (hf q (by simp)) (by rw [es]; exact h1) (by simp at hl ⊢; omega) (hc q (by simp)), Option.bind_some]
  have h2 := tU l (ps ++ [q]) (fun x hx => hf x (by simp [hx])) (by simpa using hn) (by simpa using hl) (fun x hx => hc x (by simp [hx]))
  simpa using h2
theorem iD {p : Pg} (hok : p.ok = true) : p.procs.length <= 64 /\ (p.procs.map Pr.sym).Nodup /\ (∀ q ∈ p.procs, q.fine = true) /\ (∀ q ∈ p.procs, ∀ c ∈ q.clauses, c.ok q.arity = true /\ okCalls p.syms [] c.body = true) := by
 simp only [Pg.ok, Pg.tabled, Bool.and_eq_true, Bool.not_eq_true', decide_eq_false_iff_not, iG, List.all_eq_true, okClauses] at hok
 exact ⟨by omega, hok.1.2.1, hok.1.2.2.2, hok.2⟩
theorem wY {p : Pg} (hok : p.ok = true) : readL p.terms ⟨[], 0⟩ = some ⟨p.bare.procs, 0⟩ := by
 obtain ⟨h1, h2, h3, h4⟩ := iD hok
 have := tU p.procs [] h3 (by simpa using h2) (by simpa using h1) fun q hq c hc => (h4 q hq c hc).1
 exact this
theorem fY {s : List UInt8} {a b : Tm} (hs : nameOk s = true) (ha : a.nodesOk = true) (hb : b.nodesOk = true) : (funT s [a, b]).nodesOk = true := by
 rw [bC]
 simp only [funT, Tm.l, nodesOks, ha, hb, Bool.and_true]
 simp [Tm.nodeOk, Tm.bare, Tm.kind, Tm.n, Tm.s, Tm.l, hs]
theorem wC {s : List UInt8} {a : Tm} (hs : nameOk s = true) (ha : a.nodesOk = true) : (funT s [a]).nodesOk = true := by
 rw [bC]
 simp only [funT, Tm.l, nodesOks, ha, Bool.and_true]
 simp [Tm.nodeOk, Tm.bare, Tm.kind, Tm.n, Tm.s, Tm.l, hs]
theorem oC {s : List UInt8} (hs : nameOk s = true) : (atomT s).nodesOk = true := by
 rw [bC]
 simp [atomT, Tm.l, nodesOks, Tm.nodeOk, Tm.bare, Tm.kind, Tm.n, Tm.s, hs]
theorem vO {s : List UInt8} {l : List Tm} (hs : nameOk s = true) (hl : nodesOks l = true) (h16 : l.length <= 16) : (headT s l).nodesOk = true := by
 cases l with
 | nil => exact oC hs
 | cons a r =>
  rw [bC]
  simp only [headT, funT, Tm.l, hl, Bool.and_true]
  simp only [List.length_cons] at h16
  simp [Tm.nodeOk, Tm.bare, Tm.kind, Tm.n, Tm.s, Tm.l, hs]
  exact ⟨decide_eq_true (by omega), decide_eq_true (by omega)⟩
theorem head_size (s : List UInt8) (l : List Tm) : (headT s l).size = sizes l + 1 := by rw [bE, wG]
theorem head_deep (s : List UInt8) (l : List Tm) : (headT s l).deep = deeps l + 1 := by rw [fR, wG]
theorem writ_ok {name : List UInt8} {c : Cl} (hn : nameOk name = true) (h : c.shaped c.head.length = true) (h16 : c.head.length <= 16) : (writT name c).ok = true := by
 have hto := cZ h
 simp only [termsOk, Bool.and_eq_true, decide_eq_true_eq] at hto
 have hno := hto.1
 simp only [Cl.shaped, Cl.bad, Bool.and_eq_true, Bool.not_eq_true', Bool.or_eq_false_iff, decide_eq_false_iff_not] at h
 obtain ⟨⟨-, -, -, g8, b16⟩, -, s4, -⟩ := h
 simp only [Cl.parts, cA, Bool.and_eq_true] at hno
 simp only [Cl.parts, bB] at s4
 have j1 := iJ (noT c.guard)
 have j2 := iJ (noT c.body)
 have j3 := lI (noT c.guard)
 have j4 := lI (noT c.body)
 have j5 := fD c.guard
 have j6 := fD c.body
 have j7 := fH c.guard
 have j8 := fH c.body
 have j9 := iQ c.guard
 have ja := iQ c.body
 have jb := cW c.guard
 have jc := cW c.body
 have jd := cW c.head
 have k1 := vO hn hno.1 h16
 have k2 : (joinT c.guard).nodesOk = true := jQ (fL hno.2.1)
 have k3 : (joinT c.body).nodesOk = true := jQ (fL hno.2.2)
 have m1 := head_size name c.head
 have m2 := head_deep name c.head
 rw [writT]
 simp only [Tm.ok, Bool.and_eq_true, decide_eq_true_eq]
 split
 ·refine ⟨?_, ?_, fY (by decide) k1 (fY (by decide) k2 k3)⟩
  ·simp only [funT, Tm.size, sizes, joinT]; omega
  ·simp only [funT, Tm.deep, deeps, joinT]; omega
 ·split
  ·refine ⟨?_, ?_, fY (by decide) k1 k3⟩
   ·simp only [funT, Tm.size, sizes, joinT]; omega
   ·simp only [funT, Tm.deep, deeps, joinT]; omega
  ·exact ⟨by omega, by omega, k1⟩
theorem decl_ok {q : Pr} (hf : q.fine = true) : (declT q).ok = true := by
 obtain ⟨f1, f2, f3, f4, f5⟩ := fine_iff.1 hf
 have h1 : (intT q.arity).nodesOk = true := by
  rw [bC]
  simp [intT, Tm.nodeOk, Tm.bare, Tm.kind, Tm.n, Tm.s, Tm.l, nodesOks]
  exact ⟨decide_eq_true (by omega), decide_eq_true (by omega)⟩
 have h2 := wC (s := neckB) (by decide) (fY (s := [47]) (by decide) (oC f1) h1)
 simp only [Tm.ok, Bool.and_eq_true, decide_eq_true_eq]
 exact ⟨by simp [declT, funT, atomT, intT, Tm.size, sizes], by simp [declT, funT, atomT, intT, Tm.deep, deeps], h2⟩
theorem mark_ok (m : Int) : (markT m).ok = true := by
 rw [markT]; split <;> decide
theorem nD {c : Cl} {ar : Int} (h : c.ok ar = true) : ar = c.head.length /\ c.shaped c.head.length = true := by
 simp only [Cl.ok, Bool.and_eq_true] at h
 have h1 := h.1
 simp only [Cl.shaped, Cl.bad, Bool.and_eq_true, Bool.not_eq_true', Bool.or_eq_false_iff, bne_eq_false_iff_eq] at h1
 have e := h1.1.2.2.1
 exact ⟨e.symm, by rw [e]; exact h.1⟩
theorem terms_ok {p : Pg} (hok : p.ok = true) : p.terms.all Tm.ok = true := by
 obtain ⟨h1, h2, h3, h4⟩ := iD hok
 rw [List.all_eq_true]
 intro t ht
 obtain ⟨q, hq, ht⟩ := List.mem_flatMap.1 ht
 rcases List.mem_cons.1 ht with rfl | ht
 ·exact decl_ok (h3 q hq)
 ·obtain ⟨c, hc, ht⟩ := List.mem_flatMap.1 ht
  obtain ⟨f1, f2, f3, f4, f5⟩ := fine_iff.1 (h3 q hq)
  obtain ⟨e1, e2⟩ := nD (h4 q hq c hc).1
  have hw := writ_ok f1 e2 (by omega)
  rw [clTs] at ht
  split at ht
  ·rw [List.mem_singleton.1 ht]; exact hw
  ·rcases List.mem_cons.1 ht with rfl | ht
   ·exact mark_ok _
   ·rw [List.mem_singleton.1 ht]; exact hw
theorem qU (p : Pg) : p.bare.procs.map Pr.sym = p.procs.map Pr.sym := by simp only [Pg.bare, List.map_map]; rfl
theorem bare_ok {p : Pg} (hok : p.ok = true) : p.bare.ok = true := by
 obtain ⟨h1, h2, h3, h4⟩ := iD hok
 simp only [Pg.ok, Pg.tabled, Bool.and_eq_true, Bool.not_eq_true', decide_eq_false_iff_not, iG, List.all_eq_true, okClauses]
 refine ⟨⟨by simp only [Pg.bare, List.length_map]; omega, by rw [qU]; exact h2, by simp, fun q hq => ?_⟩, fun q hq c hc => ?_⟩
 ·obtain ⟨x, hx, rfl⟩ := List.mem_map.1 hq
  have := fine_iff.1 (h3 x hx)
  exact fine_iff.2 ⟨this.1, this.2.1, this.2.2.1, this.2.2.2.1, by simpa [Pr.bareP] using this.2.2.2.2⟩
 ·obtain ⟨x, hx, rfl⟩ := List.mem_map.1 hq
  obtain ⟨d, hd, rfl⟩ := List.mem_map.1 hc
  refine ⟨tF (h4 x hx d hd).1, ?_⟩
  have h5 := (h4 x hx d hd).2
  have es : p.bare.syms = p.syms := qU p
  rw [es]
  simp only [okCalls, List.all_eq_true] at h5 ⊢
  exact fun t ht => h5 t (mem_noT.1 ht).1
theorem oS {p : Pg} (hok : p.ok = true) : progR p.terms = some p.bare := by
 rw [progR, if_pos (terms_ok hok), wY hok]
 simp only [beq_self_eq_true, Bool.true_and]
 rw [if_pos (by exact bare_ok hok)]
theorem kW (a b : List Tm) : noT (a ++ b) = noT a ++ noT b := List.filter_append ..
theorem lX : ∀ l : List Tm, (∀ t ∈ l, noT t.parted = t.parted) -> noT (parteds l) = parteds l
 | [], _ => rfl
 | t :: r, h => by
  rw [parteds, kW, h t (by simp), lX r fun x hx => h x (by simp [hx])]
theorem oP : ∀ t : Tm, noT t.parted = t.parted := by
 refine cR fun t ih => ?_
 rw [dG]
 split
 ·exact lX _ ih
 ·split
  ·rfl
  ·rename_i h
   simp [noT, h]
theorem noT_sub (g : Int -> Int) (l : List Tm) : noT (l.map (Tm.sub (varF g))) = (noT l).map (Tm.sub (varF g)) := by
 simp only [noT, List.filter_map]
 congr 1
 refine List.filter_congr fun t _ => ?_
 simp only [Function.comp, Tm.isT, vZ]
theorem sV {c : Cl} (h1 : noT c.guard = c.guard) (h2 : noT c.body = c.body) : c.normal.bareC = c.normal := by
 rw [Cl.normal, rE, Cl.bareC, Cl.mapT]
 simp only [noT_sub, h1, h2]
def Rd.isBare (r : Rd) : Prop := ∀ q ∈ r.procs, q.bareP = q
theorem jM {r r' : Rd} {s : Sym} (h : r.isBare) (e : r.begin s = some r') : r'.isBare := by
 rw [Rd.begin] at e
 split at e
 ·cases e
  intro q hq
  rcases List.mem_append.1 hq with hq | hq
  ·exact h q hq
  ·rw [List.mem_singleton.1 hq]; rfl
 ·cases e
theorem open_bare {r r' : Rd} {s : Sym} (h : r.isBare) (e : r.open s = some r') : r'.isBare := by
 rw [Rd.open] at e
 split at e
 ·split at e
  ·cases e; exact h
  ·exact jM h e
 ·exact jM h e
theorem add_bare {r r' : Rd} {c : Cl} (h : r.isBare) (h1 : noT c.guard = c.guard) (h2 : noT c.body = c.body) (e : r.add c = some r') : r'.isBare := by
 rw [Rd.add] at e
 split at e
 ·rename_i q hq
  split at e
  ·cases e
   intro x hx
   rcases List.mem_append.1 hx with hx | hx
   ·exact h x ((List.dropLast_sublist r.procs).subset hx)
   ·rw [List.mem_singleton.1 hx]
    have e : q.clauses.map Cl.bareC = q.clauses := congrArg Pr.clauses (h q (List.mem_of_getLast? hq))
    simp only [Pr.bareP, List.map_append, e, List.map_singleton, sV h1 h2]
  ·cases e
 ·cases e
theorem read_bare {r r' : Rd} {t : Tm} (h : r.isBare) (e : r.read t = some r') : r'.isBare := by
 rw [Rd.read] at e
 split at e
 ·split at e
  ·cases e; exact h
  ·cases e
 ·split at e
  ·rw [Rd.decl] at e
   split at e
   ·exact jM h e
   ·cases e
  ·rw [Rd.clause] at e
   split at e
   ·rw [Option.bind_eq_some_iff] at e
    obtain ⟨r1, e1, e2⟩ := e
    exact add_bare (open_bare h e1) (oP _) (oP _) e2
   ·cases e
theorem nU : ∀ {l : List Tm} {r r' : Rd}, r.isBare -> readL l r = some r' -> r'.isBare
 | [], r, r', h, e => by cases e; exact h
 | t :: l, r, r', h, e => by
  rw [readL, Option.bind_eq_some_iff] at e
  obtain ⟨r1, e1, e2⟩ := e
  exact nU (read_bare h e1) e2
theorem prog_bare {l : List Tm} {q : Pg} (h : progR l = some q) : q.ok = true /\ q.bare = q := by
 rw [progR] at h
 split at h
 ·split at h
  ·rename_i r e
   split at h
   ·rename_i h1
    cases h
    simp only [Bool.and_eq_true] at h1
    refine ⟨h1.2, ?_⟩
    have hb := nU (r := ⟨[], 0⟩) (fun q hq => by cases hq) e
    simp only [Pg.bare, Pg.mk.injEq]
    conv => rhs; rw [<- List.map_id r.procs]
    exact List.map_congr_left hb
   ·cases h
  ·cases h
 ·cases h
theorem oH {l : List Tm} {q : Pg} (h : progR l = some q) : q.ok = true /\ progR q.terms = some q := by
 obtain ⟨h1, h2⟩ := prog_bare h
 exact ⟨h1, by rw [oS h1, h2]⟩
end Go.Rip
namespace Go.Rip
open Go Go.Proofs
set_option maxRecDepth 100000
def c48 : ACode :=
 RG [E1 2 (.move (.c (.v (.slice none 0 0))))] (.seq (RG [MV 3 T0, E1 4 (.bin .eql .sl T3 (.c (.v (.slice none 0 0))))] (.cond T4 (RG [E1 2 (.move (.c (.v (.slice none 0 0))))] .ret) .skip)) (RG [E1 5 (.mkSlice 68 5 88 (.agg [.v (.int .i64 0), .v (.int .i64 0), .v (.slice none 0 0), .v (.slice none 0 0), .v (.slice none 0 0)]) (CI 0) (CI 0)), MV 6 T0, E1 7 (.appendM 68 5 88 T5 T6), MV 2 T7] .ret))
def r48 : List ARet := [.tmp 2]
theorem k48 : Coded Tryz.prog 48 c48 r48 8 := ⟨_, Tryz.func48, by kernel_rfl, by kernel_rfl, by kernel_rfl⟩
end Go.Rip
namespace Go.Rip
open Go
set_option maxRecDepth 100000
variable {GL : Glob}
attribute [local irreducible] Pure
theorem gV : Int.toNat 0 = 0 := rfl
theorem h48 (x : AV) (l : List AV) (hl : (l.length + 1) * 88 <= 2 ^ 47) (h : List AObj) : Gives (PC GL) 48 [.sl 5 (x :: l)] h fun y h' => y = .vec (h.length + 1) 5 (l.length + 1) /\ h' = h ++ [.dead, .buf 68 5 (x :: l)] := by
 refine k48.gives (by simp) ?_
 simp -implicitDefEqProofs only [go_sem, c48, r48, gV, List.replicate_zero, List.length_nil, Nat.zero_add, List.nil_append]
 exact ⟨by omega, ⟨by omega, hl⟩, aY (by simp) ⟨rfl, by simp⟩⟩
end Go.Rip
namespace Go.Rip
open Go Go.Proofs
set_option maxRecDepth 100000
variable {GL : Glob}
attribute [local irreducible] Pure
theorem h107 (s : List UInt8) (l : List Tm) : Pure (PC GL) 107 [.str s, .sl 4 (l.map enc)] (enc (funT s l)) := by
 refine k107.pure (by simp) (by simp [go_sem]) (by simp [go_sem]) ?_
 simp -implicitDefEqProofs only [go_sem, c107, r107]
 refine aI ?_ ?_ <;> simp [go_sem, funT, eK]
theorem h108 (s : List UInt8) : Pure (PC GL) 108 [.str s] (enc (atomT s)) := by
 refine k108.pure (by simp) (by simp [go_sem]) (by simp [go_sem]) ?_
 simp -implicitDefEqProofs only [go_sem, c108, r108]
 refine aI ?_ ?_ <;> simp [go_sem, atomT, eK]
theorem h93 (s : List UInt8) : Pure (PC GL) 93 [.str s] (enc (atomT s)) := by
 refine k93.pure (by simp) (by simp [go_sem]) (by simp [go_sem]) ?_
 simp -implicitDefEqProofs only [go_sem, c93, r93]
 refine aI ?_ ?_ <;> simp [go_sem, atomT, eK]
theorem h208 (t : Tm) : Pure (PC GL) 208 [enc t] (.b t.isT) := by
 refine k208.pure (by simp) (by simp [go_sem]) (by simp [go_sem]) ?_
 simp -implicitDefEqProofs only [c208, r208, go_sem]
 repeat' (first | simp -implicitDefEqProofs only [go_sem, *] | with_reducible refine aV (fun _ => ?_) (fun _ => ?_) | with_reducible refine aX (fun _ => ?_) (fun _ => ?_) | with_reducible refine aK (fun _ => ?_) (fun _ => ?_) | with_reducible refine aI ?_ ?_ | ((with_reducible apply aG hC); (exact h190 _ _)) | ((with_reducible refine And.intro ?bnd ?_); (case bnd => decide)) | fail)
 all_goals simp_all [go_sem, Tm.isT]
theorem h111 (t : Tm) (ht : t.size < 2 ^ 30) (hs : t.strs) : Pure (PC GL) 111 [enc t] (.b (!t.ok)) := by
 have h1 := h95 (GL := GL) t ht hs
 refine k111.pure (by simp) (by simp [go_sem]) (by simp [go_sem]) ?_
 simp -implicitDefEqProofs only [c111, r111, go_sem]
 refine aG hC h1 ?_
 cases t.ok
 ·simp -implicitDefEqProofs only [go_sem]
  refine aI ?_ ?_ <;> simp [go_sem]
 ·simp -implicitDefEqProofs only [go_sem]
  refine aI ?_ ?_ <;> simp [go_sem]
theorem lD : Int.toNat 1 = 1 := rfl
theorem sO : bounds 0 2 = True := by simp [bounds]
theorem tW : bounds 1 2 = True := by simp [bounds]
theorem fin_own {GL : Glob} {m : Nat} {h : List AObj} {Φ : AV -> List AObj -> Prop} (T : TypeId) (sz : Nat) (hm : m <= h.length) (hf : Φ (.own h.length sz []) (h ++ [.spare T sz])) : ∃ y h', Wk GL m [(0, .v (.slice none 0 0))] h [(0, y)] h' /\ ∃ z, ARes.val y = ARes.val z /\ Φ z h' :=
 ⟨_, _, (Wk.own_nil T sz 0 rfl hm).trans (Wk.pick (by simp; omega) (by simp [go_sem, Picks])), _, rfl, hf⟩
theorem part_len (t : Tm) : t.parted.length <= t.size := by
 revert t
 refine cR fun t ih => ?_
 rw [dG]
 have h1 := bE t
 split
 ·have : ∀ l : List Tm, (∀ x ∈ l, x.parted.length <= x.size) -> (parteds l).length <= sizes l := by
   intro l
   induction l with
   | nil => intro _; simp [parteds]
   | cons x r ih => intro h; have := h x (by simp); have := ih fun y hy => h y (by simp [hy]); simp [parteds, sizes]; omega
  have := this t.l ih
  omega
 ·split <;> simp
  omega
theorem h129 (t : Tm) : t.size < 2 ^ 30 -> ∀ h, Gives (PC GL) 129 [enc t] h fun y h' => Keep All h h' /\ ∃ a, h.length <= a /\ y = .own a 4 (t.parted.map enc) /\ h'[a]? = some (.spare 24 4) := by
 revert t
 refine cR fun t ih => ?_
 intro ht h
 refine k129.gives (by simp) ?_
 have q1 := h182 (GL := GL) t [44] 2
 have q2 := h190 (GL := GL) t trueB
 rw [dG]
 simp -implicitDefEqProofs only [go_sem, c129, r129]
 refine aG hC q1 ?_
 cases hf : t.isFun [44] 2
 ·simp -implicitDefEqProofs only [go_sem]
  refine aG hC q2 ?_
  cases hT : t.isAtom trueB
  ·simp -implicitDefEqProofs only [go_sem, List.append_assoc, cP]
   exact aY (by simp) ⟨Keep.app _ _ _, h.length + 1, by simp, by rw [Tm.isT, hT]; rfl, aO h _ 1⟩
  ·simp -implicitDefEqProofs only [go_sem]
   exact fin_own 24 4 (by simp) ⟨by rw [List.append_assoc]; exact Keep.app _ _ _, _, by simp, by rw [Tm.isT, hT]; rfl, eM _ _⟩
 ·obtain ⟨-, hl⟩ := dH hf
  have h1 := bE t
  have h2 := part_len t
  rw [dG, if_pos hf] at h2
  rcases ht' : t.l with _ | ⟨x, _ | ⟨y, _ | ⟨z, r⟩⟩⟩
  ·rw [ht'] at hl; simp at hl
  ·rw [ht'] at hl; simp at hl
  ·rw [ht'] at h1 h2
   simp only [sizes] at h1
   simp only [parteds, List.append_nil, List.length_append] at h2
   have ix := ih x (by rw [ht']; simp) (by omega)
   have iy := ih y (by rw [ht']; simp) (by omega)
   simp -implicitDefEqProofs only [go_sem, sO, tW, Nat.reduceAdd, List.getD_cons_zero, List.getD_cons_succ, gV, lD]
   refine aU hC (ix _) fun v h2 ⟨hk, a, hal, hv, ha⟩ => ?_
   subst hv
   have ha_g := fun l => aC (l := l) ha
   have ha_s := fun o l => aE (l := l) ha o
   have ha_e := fun o l => aD (o := o) (l := l) ha
   have ha_h := fun o => aJ (o := o) ha
   have hk0 := hk.got (eM h _)
   have hk0_g := fun l => aC (l := l) hk0
   have hk0_s := fun o l => aE (l := l) hk0 o
   have hk0_e := fun o l => aD (o := o) (l := l) hk0
   have hk0_h := fun o => aJ (o := o) hk0
   simp -implicitDefEqProofs only [go_sem, hk0, tW, Nat.reduceAdd, List.getD_cons_zero, List.getD_cons_succ, lD]
   refine aU hC (iy _) fun v h3 ⟨hk3, b, hbl, hv, hb⟩ => ?_
   subst hv
   have ha3 := hk3.got ha
   have hb_g := fun l => aC (l := l) hb
   have hb_s := fun o l => aE (l := l) hb o
   have hb_e := fun o l => aD (o := o) (l := l) hb
   have hb_h := fun o => aJ (o := o) hb
   have ha3_g := fun l => aC (l := l) ha3
   have ha3_s := fun o l => aE (l := l) ha3 o
   have ha3_e := fun o l => aD (o := o) (l := l) ha3
   have ha3_h := fun o => aJ (o := o) ha3
   simp -implicitDefEqProofs only [go_sem, ha3]
   refine ⟨by simp; omega, ?_⟩
   have l1 := hk.1
   have l3 := hk3.1
   simp only [List.length_append, List.length_singleton] at hal l1
   exact aY (by simp; omega) ⟨(hk.left.trans hk3).freeze _ _ (by omega), h3.length, by omega, by simp [parteds], by rw [cX (by simp)]; simp⟩
  ·rw [ht'] at hl; simp at hl; omega
def wrongV (n : Int) : AV := .iface 141 (.agg [.i n, .i 40])
theorem aZ {m : Nat} {x : AV} {h : List AObj} {R : ARes -> List AObj -> Prop} (hm : m <= h.length) (hR : R (.panic x) h) : kpanic GL m R x h := ⟨x, h, Wk.refl hm, hR⟩
theorem h114 (c : Bool) (k : Nat) (h : List AObj) {p kn mk fr : AV} {n : Int} (hk : h[k]? = some (.cells 145 [p, kn, mk, fr, .i n])) :
  AC Tryz.prog GL (.fn 114) [.ref k 0, .b c] h fun x h' => h' = h /\ (c = true /\ x = .val (.tup []) ∨ c = false /\ ∃ n, x = .panic (wrongV n)) := by
 refine k114.call (by simp) ?_
 cases c
 ·simp -implicitDefEqProofs only [go_sem, c114, r114, Bool.not_false, hk]
  exact aZ (Nat.le_refl _) ⟨rfl, .inr ⟨n, rfl⟩⟩
 ·simp -implicitDefEqProofs only [go_sem, c114, r114, Bool.not_true]
  exact ⟨_, _, Wk.refl (Nat.le_refl _), rfl, .inl rfl⟩
def prV (q : Pr) (x : AV) : AV := .agg [.str q.name, .i q.arity, x]
def PX (q : Pr) (x : AV) : Prop := (x = .v (.slice none 0 0) /\ q.clauses = []) ∨ ∃ a, x = .own a 5 (q.clauses.map encCl)
def PL : List Pr -> List AV -> Prop
 | [], [] => True
 | q :: r, v :: l => (∃ x, v = prV q x /\ PX q x) /\ PL r l
 | _, _ => False
theorem PL.len : ∀ {ps : List Pr} {L : List AV}, PL ps L -> L.length = ps.length
 | [], [], _ => rfl
 | _ :: _, _ :: _, h => by simp [PL.len h.2]
theorem PL.app : ∀ {ps qs : List Pr} {L M : List AV}, PL ps L -> PL qs M -> PL (ps ++ qs) (L ++ M)
 | [], _, [], _, _, h => h
 | _ :: _, _, _ :: _, _, h, k => ⟨h.1, PL.app h.2 k⟩
theorem PL.last : ∀ {ps : List Pr} {L : List AV}, PL ps L -> ps ≠ [] -> ∃ qs q M x, ps = qs ++ [q] /\ L = M ++ [prV q x] /\ PX q x /\ PL qs M
 | [q], [v], h, _ => by
  obtain ⟨⟨x, rfl, hx⟩, -⟩ := h
  exact ⟨[], q, [], x, rfl, rfl, hx, trivial⟩
 | q :: r :: s, v :: L, h, _ => by
  obtain ⟨qs, q', M, x, e1, e2, e3, e4⟩ := PL.last h.2 (by simp)
  exact ⟨q :: qs, q', v :: M, x, by rw [e1]; rfl, by rw [e2]; rfl, e3, h.1, e4⟩
 | [], _, _, h => absurd rfl h
 | [_], _ :: _ :: _, h, _ => h.2.elim
structure RdAt (r : Rd) (k : Nat) (h : List AObj) : Prop where
 s : ∃ m b fr n L, h[k]? = some (.cells 145 [vecA b 3 L, .mp m, .i r.mark, .i fr, .i n]) /\ h[m]? = some (.map ((r.procs.map Pr.sym).map encSym) ((r.procs.map Pr.sym).map fun _ => .b true)) /\
  (L = [] ∨ h[b]? = some (.buf 60 3 L)) /\ PL r.procs L /\ ∀ s n a l, L.getLast? = some (.agg [s, n, .own a 5 l]) -> h[a]? = some (.spare 68 5)
def RdK (_ : Nat) (o : AObj) : Prop := (∃ l, o = .cells 145 l) ∨ (∃ ks vs, o = .map ks vs) ∨ (∃ l, o = .buf 60 3 l) ∨ o = .spare 68 5
theorem tV {h : List AObj} (a sz : Nat) (l : List AV) : lenA h .sl (vecA a sz l) = some l.length := by
 unfold vecA
 split
 ·rename_i e; rw [e]; rfl
 ·rfl
theorem gM {h l : List AObj} {k : Nat} {c : List AV} {Y : AObj} (o1 : h[k]? = some (.cells 145 c)) {h' : List AObj} (hk : Keep RdK h' h) : Keep RdK h' (h.set k Y ++ l) := by
 refine ⟨by have := hk.1; simp; omega, fun i o hi hn => ?_⟩
 have h1 := hk.2 i o hi hn
 have ik : k ≠ i := by rintro rfl; rw [o1] at h1; cases h1; exact hn (.inl ⟨_, rfl⟩)
 rw [List.getElem?_append_left (by simpa using aH h1), aF ik]; exact h1
theorem keep2 {h : List AObj} {m : Nat} {ks vs : List AV} {X : AObj} (o2 : h[m]? = some (.map ks vs)) : Keep RdK h (h.set m X) := by
 refine ⟨by simp, fun i o hi hn => ?_⟩
 have ik : m ≠ i := by rintro rfl; rw [o2] at hi; cases hi; exact hn (.inr (.inl ⟨_, _, rfl⟩))
 rw [aF ik]; exact hi
theorem kM {h : List AObj} {b : Nat} {L : List AV} {X : AObj} (o2 : h[b]? = some (.buf 60 3 L)) {h' : List AObj} (hk : Keep RdK h' h) : Keep RdK h' (h.set b X) := by
 refine ⟨by have := hk.1; simp; omega, fun i o hi hn => ?_⟩
 have h1 := hk.2 i o hi hn
 have ik : b ≠ i := by rintro rfl; rw [o2] at h1; cases h1; exact hn (.inr (.inr (.inl ⟨_, rfl⟩)))
 rw [aF ik]; exact h1
theorem h246 (r : Rd) (s : Sym) (hs : s.name.length < 2 ^ 30) (hl : r.procs.length < 2 ^ 40) (k : Nat) (h : List AObj) (hr : RdAt r k h) :
  AC Tryz.prog GL (.fn 246) [.ref k 0, encSym s] h fun x h' => Keep RdK h h' /\ match r.begin s with
   | some r' => x = .val (.tup []) /\ RdAt r' k h'
   | none => ∃ n, x = .panic (wrongV n) := by
 obtain ⟨m, b, fr, n, L, o1, o2, o3, hPL, hla⟩ := hr.s
 have q25 := h25 (GL := GL) s
 have q229 := h229 (GL := GL) s.name hs
 have hm := kI s (r.procs.map Pr.sym)
 have hLl := hPL.len
 have bad : (!s.res && (!decide (s ∈ r.procs.map Pr.sym) && (decide (r.procs.length < 64) && (nameOk s.name && decide (s.arity <= 16))))) = false -> r.begin s = none := fun e => by rw [Rd.begin, e]; rfl
 have good : (!s.res && (!decide (s ∈ r.procs.map Pr.sym) && (decide (r.procs.length < 64) && (nameOk s.name && decide (s.arity <= 16))))) = true -> r.begin s = some ⟨r.procs ++ [⟨s.name, s.arity, []⟩], r.mark⟩ := fun e => by rw [Rd.begin, e]; rfl
 obtain ⟨nm, ar⟩ := s
 simp only [encSym] at q25
 refine k246.call (by simp) ?_
 have o1_g := fun l => aC (l := l) o1
 have o1_s := fun o l => aE (l := l) o1 o
 have o1_e := fun o l => aD (o := o) (l := l) o1
 have o1_h := fun o => aJ (o := o) o1
 have o2_g := fun l => aC (l := l) o2
 have o2_s := fun o l => aE (l := l) o2 o
 have o2_e := fun o l => aD (o := o) (l := l) o2
 have o2_h := fun o => aJ (o := o) o2
 simp -implicitDefEqProofs only [go_sem, c246, r246, encSym]
 refine aG hC q25 ?_
 rcases hres : Sym.res ⟨nm, ar⟩ with _ | _
 ·simp -implicitDefEqProofs only [go_sem, Bool.not_false, o1_g, o2_g, cQ]
  rcases hi : idxS ⟨nm, ar⟩ (r.procs.map Pr.sym) with _ | i
  ·rw [hi] at hm
   by_cases h64 : r.procs.length < 64
   ·have d64 : decide ((L.length : Int) < 64) = true := decide_eq_true (by omega)
    simp -implicitDefEqProofs only [go_sem, tV, d64]
    refine aG hC q229 ?_
    rcases hnm : nameOk nm with _ | _
    ·simp -implicitDefEqProofs only [go_sem]
     refine aR hC (h114 false k _ (o1_g _)) fun x h' hx => ?_
     obtain ⟨rfl, hx⟩ := hx
     rcases hx with ⟨h0, -⟩ | ⟨-, n', rfl⟩
     ·cases h0
     simp -implicitDefEqProofs only [go_sem]
     exact aZ (by simp) ⟨Keep.app _ _ _, by rw [bad (by simp_all)]; exact ⟨_, rfl⟩⟩
    by_cases h16 : ar <= 16
    ·have d16 : decide (ar <= 16) = true := decide_eq_true h16
     simp -implicitDefEqProofs only [go_sem, d16]
     refine aR hC (h114 true k _ (o1_g _)) fun x h' hx => ?_
     obtain ⟨rfl, hx⟩ := hx
     rcases hx with ⟨-, rfl⟩ | ⟨h0, -⟩
     ·have hb := good (by simp_all)
      have hkm : k ≠ m := aN o1 o2 (by simp)
      have o1_o2b := fun o l => aW (o := o) (l := l) o1 o2 (by simp)
      have o1_o2s := fun o l x => jT (o := o) (l := l) (x' := x) o1 o2 (by simp)
      have o1_o2g := fun o l x => hU (o := o) (l := l) (x' := x) o1 o2 (by simp)
      have o1_o2k := fun o l x => gY (o := o) (l := l) (x' := x) o1 o2 (by simp)
      by_cases hL : L = []
      ·subst hL
       simp -implicitDefEqProofs only [go_sem, List.append_assoc, cM, o1_g, o2_g, o2_s, o1_o2b, o1_o2s, cQ, hi, gZ, cP]
       refine ⟨by decide, _, _, Wk.refl (by simp), ?_, ?_⟩
       ·exact gM (by rw [aF hkm.symm]; exact o1) (keep2 o2)
       ·rw [hb]
        refine ⟨rfl, ⟨m, h.length + 2, fr, n, [prV ⟨nm, ar, []⟩ (.v (.slice none 0 0))], ?_, ?_, .inr ?_, PL.app hPL ⟨⟨_, rfl, .inl ⟨rfl, rfl⟩⟩, trivial⟩, fun s n a l e => by simp [prV] at e⟩⟩
        ·rw [List.getElem?_append_left (by simpa using aH o1), List.getElem?_set_self (by simpa using aH o1)]
         simp [vecA]
        ·rw [List.getElem?_append_left (by simpa using aH o2), aF hkm, List.getElem?_set_self (aH o2)]
         simp [Pr.sym, encSym]
        ·rw [List.getElem?_append_right (by simp)]
         simp [prV]
      ·have o3 := o3.resolve_left hL
       have hkb : k ≠ b := aN o1 o3 (by simp)
       have hmb : m ≠ b := aN o2 o3 (by simp)
       have o3_o2b := fun o l => aW (o := o) (l := l) o3 o2 (by simp)
       have o3_o2s := fun o l x => jT (o := o) (l := l) (x' := x) o3 o2 (by simp)
       have o3_o2g := fun o l x => hU (o := o) (l := l) (x' := x) o3 o2 (by simp)
       have o3_o2k := fun o l x => gY (o := o) (l := l) (x' := x) o3 o2 (by simp)
       have o3_g := fun l => aC (l := l) o3
       have o3_s := fun o l => aE (l := l) o3 o
       have o3_e := fun o l => aD (o := o) (l := l) o3
       have o3_h := fun o => aJ (o := o) o3
       have g2 : ∀ X D l, ((h.set m X).set b D ++ l)[k]? = some (.cells 145 [vecA b 3 L, .mp m, .i r.mark, .i fr, .i n]) := fun X D l => by
        rw [List.getElem?_append_left (by simpa using aH o1), aF hkb.symm, aF hkm.symm]; exact o1
       have s2 : ∀ X D Y l, ((h.set m X).set b D ++ l).set k Y = ((h.set m X).set b D).set k Y ++ l := fun X D Y l => cK (by simpa using aH o1)
       rw [bZ hL] at g2
       simp -implicitDefEqProofs only [go_sem, List.append_assoc, cM, o1_g, o2_g, o2_s, o1_o2b, o3_o2b, o3_o2s, cQ, hi, bZ hL, cP, g2, s2]
       refine ⟨by omega, _, _, Wk.refl (by simp), ?_, ?_⟩
       ·exact gM (by rw [aF hkb.symm, aF hkm.symm]; exact o1) (kM (by rw [aF hmb]; exact o3) (keep2 o2))
       ·rw [hb]
        refine ⟨rfl, ⟨m, h.length + 2, fr, n, L ++ [prV ⟨nm, ar, []⟩ (.v (.slice none 0 0))], ?_, ?_, .inr ?_, PL.app hPL ⟨⟨_, rfl, .inl ⟨rfl, rfl⟩⟩, trivial⟩, fun s n a l e => by simp [prV] at e⟩⟩
        ·rw [List.getElem?_append_left (by simpa using aH o1), List.getElem?_set_self (by simpa using aH o1), cG]
         simp
        ·rw [List.getElem?_append_left (by simpa using aH o2), aF hkm, aF hmb.symm, List.getElem?_set_self (aH o2)]
         simp [Pr.sym, encSym]
        ·rw [List.getElem?_append_right (by simp)]
         simp [prV]
     ·cases h0
    ·have d16 : decide (ar <= 16) = false := decide_eq_false h16
     simp -implicitDefEqProofs only [go_sem, d16]
     refine aR hC (h114 false k _ (o1_g _)) fun x h' hx => ?_
     obtain ⟨rfl, hx⟩ := hx
     rcases hx with ⟨h0, -⟩ | ⟨-, n', rfl⟩
     ·cases h0
     simp -implicitDefEqProofs only [go_sem]
     exact aZ (by simp) ⟨Keep.app _ _ _, by rw [bad (by simp_all)]; exact ⟨_, rfl⟩⟩
   ·have d64 : decide ((L.length : Int) < 64) = false := decide_eq_false (by omega)
    simp -implicitDefEqProofs only [go_sem, tV, d64]
    have bad := bad (by simp [h64])
    refine aR hC (h114 false k _ (o1_g _)) fun x h' hx => ?_
    obtain ⟨rfl, hx⟩ := hx
    rcases hx with ⟨h0, -⟩ | ⟨-, n', rfl⟩
    ·cases h0
    simp -implicitDefEqProofs only [go_sem]
    exact aZ (by simp) ⟨Keep.app _ _ _, by rw [bad]; exact ⟨_, rfl⟩⟩
  ·rw [hi] at hm
   have hlt := rZ hi
   have e : ((r.procs.map Pr.sym).map fun _ => AV.b true).getD i .any = .b true := by simp [List.getD] at hlt ⊢; simp [hlt]
   simp -implicitDefEqProofs only [go_sem, Bool.not_true, e]
   refine aR hC (h114 false k _ (o1_g _)) fun x h' hx => ?_
   obtain ⟨rfl, hx⟩ := hx
   rcases hx with ⟨h0, -⟩ | ⟨-, n', rfl⟩
   ·cases h0
   simp -implicitDefEqProofs only [go_sem]
   exact aZ (by simp) ⟨Keep.app _ _ _, by rw [bad (by simp_all)]; exact ⟨_, rfl⟩⟩
 ·simp -implicitDefEqProofs only [go_sem, Bool.not_true]
  refine aR hC (h114 false k _ (o1_g _)) fun x h' hx => ?_
  obtain ⟨rfl, hx⟩ := hx
  rcases hx with ⟨h0, -⟩ | ⟨-, n', rfl⟩
  ·cases h0
  simp -implicitDefEqProofs only [go_sem]
  exact aZ (by simp) ⟨Keep.app _ _ _, by rw [bad (by simp_all)]; exact ⟨_, rfl⟩⟩
theorem RdAt.app {r : Rd} {k : Nat} {h : List AObj} (hr : RdAt r k h) (l : List AObj) : RdAt r k (h ++ l) := by
 obtain ⟨m, b, fr, n, L, o1, o2, o3, hp, hl⟩ := hr.s
 exact ⟨⟨m, b, fr, n, L, aC o1, aC o2, o3.imp id aC, hp, fun s n a l' e => aC (hl s n a l' e)⟩⟩
theorem h195 (r : Rd) (t : Tm) (ht : t.strs) (hl : r.procs.length < 2 ^ 40) (k : Nat) (h : List AObj) (hr : RdAt r k h) :
  AC Tryz.prog GL (.fn 195) [.ref k 0, enc t] h fun x h' => Keep RdK h h' /\ match r.decl t with
   | some r' => x = .val (.tup []) /\ RdAt r' k h'
   | none => ∃ n, x = .panic (wrongV n) := by
 obtain ⟨m, b, fr, n, L, o1, -⟩ := hr.s
 have q182 := h182 (GL := GL) t [47] 2
 refine k195.call (by simp) ?_
 have o1_g := fun l => aC (l := l) o1
 have o1_s := fun o l => aE (l := l) o1 o
 have o1_e := fun o l => aD (o := o) (l := l) o1
 have o1_h := fun o => aJ (o := o) o1
 rcases hm : (r.mark == 0) with _ | _
 ·have bad : r.decl t = none := by rw [Rd.decl, hm]; rfl
  simp -implicitDefEqProofs only [go_sem, c195, r195, o1_g, hm]
  refine aR hC (h114 false k _ (o1_g _)) fun x h' hx => ?_
  obtain ⟨rfl, hx⟩ := hx
  rcases hx with ⟨h0, -⟩ | ⟨-, n', rfl⟩
  ·cases h0
  simp -implicitDefEqProofs only [go_sem]
  exact aZ (by simp) ⟨Keep.app _ _ _, by rw [bad]; exact ⟨_, rfl⟩⟩
 simp -implicitDefEqProofs only [go_sem, c195, r195, o1_g, hm]
 refine aG hC q182 ?_
 rcases hf : t.isFun [47] 2 with _ | _
 ·have bad : r.decl t = none := by rw [Rd.decl, hm, hf]; rfl
  simp -implicitDefEqProofs only [go_sem]
  refine aR hC (h114 false k _ (o1_g _)) fun x h' hx => ?_
  obtain ⟨rfl, hx⟩ := hx
  rcases hx with ⟨h0, -⟩ | ⟨-, n', rfl⟩
  ·cases h0
  simp -implicitDefEqProofs only [go_sem]
  exact aZ (by simp) ⟨Keep.app _ _ _, by rw [bad]; exact ⟨_, rfl⟩⟩
 obtain ⟨-, hl2⟩ := dH hf
 rcases ht' : t.l with _ | ⟨u, _ | ⟨v, _ | ⟨z, rest⟩⟩⟩
 ·rw [ht'] at hl2; simp at hl2
 ·rw [ht'] at hl2; simp at hl2
 ·have a0 : t.at0 = u := by rw [Tm.at0, ht']; rfl
  have a1 : t.at1 = v := by rw [Tm.at1, ht']; rfl
  have hu : u.strs := bJ ((bS t).1 ht).2 _ (by rw [ht']; simp)
  have ed : r.decl t = if u.kind == 3 && (v.kind == 2 && (decide (0 <= v.n) && decide (v.n <= 16))) then r.begin ⟨u.s, v.n⟩ else none := by
   rw [Rd.decl, hm, hf, a0, a1]; rfl
  simp -implicitDefEqProofs only [go_sem]
  refine aR hC (h114 true k _ (o1_g _)) fun x h' hx => ?_
  obtain ⟨rfl, hx⟩ := hx
  rcases hx with ⟨-, rfl⟩ | ⟨h0, -⟩
  rotate_left
  ·cases h0
  simp -implicitDefEqProofs only [go_sem, aO, bI, List.append_assoc, sO, tW, Nat.reduceAdd, List.getD_cons_zero, List.getD_cons_succ, gV, lD]
  rcases h3 : (u.kind == 3) with _ | _
  ·have bad : r.decl t = none := by rw [ed, h3]; rfl
   simp -implicitDefEqProofs only [go_sem]
   refine aR hC (h114 false k _ (o1_g _)) fun x h' hx => ?_
   obtain ⟨rfl, hx⟩ := hx
   rcases hx with ⟨h0, -⟩ | ⟨-, n', rfl⟩
   ·cases h0
   simp -implicitDefEqProofs only [go_sem]
   exact aZ (by simp) ⟨Keep.app _ _ _, by rw [bad]; exact ⟨_, rfl⟩⟩
  rcases h2 : (v.kind == 2) with _ | _
  ·have bad : r.decl t = none := by rw [ed, h3, h2]; rfl
   simp -implicitDefEqProofs only [go_sem, h2, aO]
   refine aR hC (h114 false k _ (o1_g _)) fun x h' hx => ?_
   obtain ⟨rfl, hx⟩ := hx
   rcases hx with ⟨h0, -⟩ | ⟨-, n', rfl⟩
   ·cases h0
   simp -implicitDefEqProofs only [go_sem]
   exact aZ (by simp) ⟨Keep.app _ _ _, by rw [bad]; exact ⟨_, rfl⟩⟩
  by_cases h0 : 0 <= v.n
  rotate_left
  ·have d0 : decide (v.n >= 0) = false := decide_eq_false h0
   have bad : r.decl t = none := by rw [ed, if_neg (by simp [h0])]
   simp -implicitDefEqProofs only [go_sem, h2, d0, aO]
   refine aR hC (h114 false k _ (o1_g _)) fun x h' hx => ?_
   obtain ⟨rfl, hx⟩ := hx
   rcases hx with ⟨h0, -⟩ | ⟨-, n', rfl⟩
   ·cases h0
   simp -implicitDefEqProofs only [go_sem]
   exact aZ (by simp) ⟨Keep.app _ _ _, by rw [bad]; exact ⟨_, rfl⟩⟩
  have d0 : decide (v.n >= 0) = true := decide_eq_true h0
  by_cases h16 : v.n <= 16
  rotate_left
  ·have d1 : decide (v.n <= 16) = false := decide_eq_false h16
   have bad : r.decl t = none := by rw [ed, if_neg (by simp [h16])]
   simp -implicitDefEqProofs only [go_sem, h2, d0, d1, aO]
   refine aR hC (h114 false k _ (o1_g _)) fun x h' hx => ?_
   obtain ⟨rfl, hx⟩ := hx
   rcases hx with ⟨h0, -⟩ | ⟨-, n', rfl⟩
   ·cases h0
   simp -implicitDefEqProofs only [go_sem]
   exact aZ (by simp) ⟨Keep.app _ _ _, by rw [bad]; exact ⟨_, rfl⟩⟩
  have d1 : decide (v.n <= 16) = true := decide_eq_true h16
  have hd : r.decl t = r.begin ⟨u.s, v.n⟩ := by rw [ed, h3, h2, if_pos (by simp [h0, h16])]
  simp -implicitDefEqProofs only [go_sem, h2, d0, d1, aO]
  refine aR hC (h114 true k _ (o1_g _)) fun x h' hx => ?_
  obtain ⟨rfl, hx⟩ := hx
  rcases hx with ⟨-, rfl⟩ | ⟨h0, -⟩
  rotate_left
  ·cases h0
  simp -implicitDefEqProofs only [go_sem, aO, sO, Nat.reduceAdd, List.getD_cons_zero, gV]
  refine aR hC (h246 r ⟨u.s, v.n⟩ ((bS u).1 hu).1 hl k _ (hr.app _)) fun x h' ⟨hk, hx⟩ => ?_
  have hk' : Keep RdK h h' := Keep.left hk
  rw [hd]
  rcases hb : r.begin ⟨u.s, v.n⟩ with _ | r'
  ·rw [hb] at hx
   obtain ⟨n', rfl⟩ := hx
   simp -implicitDefEqProofs only [go_sem]
   exact aZ hk'.1 ⟨hk', _, rfl⟩
  ·rw [hb] at hx
   obtain ⟨rfl, hr'⟩ := hx
   simp -implicitDefEqProofs only [go_sem]
   exact ⟨_, _, Wk.refl hk'.1, hk', rfl, hr'⟩
 ·rw [ht'] at hl2; simp at hl2; omega
end Go.Rip
namespace Go.Rip
open Go Go.Proofs
set_option maxRecDepth 100000
attribute [local irreducible] Pure
theorem dB {i : Nat} {T : TypeId} {l : List AV} (h : T ≠ 145) : ¬ RdK i (.cells T l) := by
 rintro (⟨l', e⟩ | ⟨ks, vs, e⟩ | ⟨l', e⟩ | e)
 ·cases e; exact h rfl
 ·cases e
 ·cases e
 ·cases e
theorem oZ {t : Tm} (h : t.strs) : t.split.1.strs /\ t.split.2.1.strs /\ t.split.2.2.strs := by
 have ha : (atomT trueB).strs := ⟨by decide, trivial⟩
 have hz : Tm.zero.strs := ⟨by decide, trivial⟩
 have k0 : ∀ u : Tm, u.strs -> u.at0.strs := fun u hu => by
  rw [Tm.at0]
  rcases e : u.l with _ | ⟨x, r⟩
  ·exact hz
  ·exact bJ ((bS u).1 hu).2 _ (by rw [e]; simp)
 have k1 : ∀ u : Tm, u.strs -> u.at1.strs := fun u hu => by
  rw [Tm.at1]
  rcases e : u.l with _ | ⟨x, _ | ⟨y, r⟩⟩
  ·exact hz
  ·exact hz
  ·exact bJ ((bS u).1 hu).2 _ (by rw [e]; simp)
 rw [Tm.split]
 split
 ·split
  ·exact ⟨k0 _ h, k0 _ (k1 _ h), k1 _ (k1 _ h)⟩
  ·exact ⟨k0 _ h, ha, k1 _ h⟩
 ·exact ⟨h, ha, ha⟩
theorem vT {t : Tm} : t.split.1.size <= t.size + 1 /\ t.split.2.1.size <= t.size + 1 /\ t.split.2.2.size <= t.size + 1 := by
 have ha : (atomT trueB).size = 1 := rfl
 have hz : Tm.zero.size = 1 := rfl
 have hp := oI t
 have k0 : ∀ u : Tm, u.at0.size <= max u.size 1 := fun u => by
  rw [Tm.at0]
  rcases e : u.l with _ | ⟨x, r⟩
  ·simp [hz]; omega
  ·have := kL (t := u) (x := x) (by rw [e]; simp)
   simp; omega
 have k1 : ∀ u : Tm, u.at1.size <= max u.size 1 := fun u => by
  rw [Tm.at1]
  rcases e : u.l with _ | ⟨x, _ | ⟨y, r⟩⟩
  ·simp [hz]; omega
  ·simp [hz]; omega
  ·have := kL (t := u) (x := y) (by rw [e]; simp)
   simp; omega
 have a0 := k0 t
 have a1 := k1 t
 have b0 := k0 t.at1
 have b1 := k1 t.at1
 rw [Tm.split]
 split
 ·split
  ·simp only; omega
  ·simp only [ha]; omega
 ·simp only [ha]; omega
theorem cU : ∀ t : Tm, sizes t.parted <= t.size := by
 refine cR fun t ih => ?_
 rw [dG]
 have h1 := bE t
 split
 ·have : ∀ l : List Tm, (∀ x ∈ l, sizes x.parted <= x.size) -> sizes (parteds l) <= sizes l := by
   intro l
   induction l with
   | nil => intro _; simp [parteds]
   | cons x r ih => intro h; have := h x (by simp); have := ih fun y hy => h y (by simp [hy]); simp only [parteds, sizes, bB]; omega
  have := this t.l ih
  omega
 ·split
  ·simp [sizes]
  ·simp [sizes]
theorem cE : ∀ t : Tm, t.strs -> strss t.parted := by
 refine cR fun t ih => ?_
 intro ht
 rw [dG]
 split
 ·have : ∀ l : List Tm, (∀ x ∈ l, x.strs -> strss x.parted) -> strss l -> strss (parteds l) := by
   intro l
   induction l with
   | nil => intro _ _; trivial
   | cons x r ih => intro h hs; rw [parteds, cF]; exact ⟨h x (by simp) hs.1, ih (fun y hy => h y (by simp [hy])) hs.2⟩
  exact this t.l ih ((bS t).1 ht).2
 ·split
  ·trivial
  ·exact ⟨ht, trivial⟩
end Go.Rip
