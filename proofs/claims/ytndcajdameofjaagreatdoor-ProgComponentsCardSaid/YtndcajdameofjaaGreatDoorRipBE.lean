/- Trees in memory of their own; equal lists, equal clauses. -/
import Derived.Test.YtndcajdameofjaaGreatDoorRipBD
import Derived.Test.YtndcajdameofjaaGreatDoorRipAT
import Derived.Test.YtndcajdameofjaaGreatDoorRipBA
import Derived.Test.YtndcajdameofjaaGreatDoorRipBC
namespace Go.Rip
open Go
set_option maxRecDepth 100000
variable {GL : Glob}
end Go.Rip
namespace Go.Rip
open Go Go.Proofs
set_option maxRecDepth 100000
variable {GL : Glob}
attribute [local irreducible] Pure
theorem reachR_lt {p : Pg} {q : Qy} : ∀ x ∈ reachR p q, x < p.procs.length := fun x hx => by
 unfold reachR at hx
 split at hx
 ·have := nxs_lt hx
  rwa [reachS, closeF_len, cR] at this
 ·simp at hx
theorem reachR_len (p : Pg) (q : Qy) : (reachR p q).length <= p.procs.length := by
 unfold reachR
 split
 ·have := nxs_len (reachS p q.goals)
  rwa [reachS, closeF_len, cR] at this
 ·simp
theorem comps_len (n : Nat) (M : List (List Bool)) : ∀ (f : Nat) (done : List Bool), (comps n M f done).length <= f /\ ∀ x ∈ comps n M f done, x.length <= n
 | 0, _ => by simp [comps]
 | f + 1, done => by
  rw [comps]
  split
  ·simp
  ·have := comps_len n M f
   rename_i i _
   have t := this (markM n M done i)
   refine ⟨by simp; omega, fun x hx => ?_⟩
   rcases List.mem_cons.1 hx with h | h
   ·subst h; exact compT_len M i n
   ·exact t.2 x h
theorem compsR_len (p : Pg) : (compsR p).length <= p.procs.length /\ ∀ x ∈ compsR p, x.length <= p.procs.length := by
 unfold compsR
 split
 ·exact comps_len _ _ _ _
 ·simp
def encBs (l : List Bool) : AV := .sl 1 (l.map encB)
theorem free_encBs : Free encBs := ⟨fun κ a => by simp only [encBs, ren, free_encB.rens], fun n a => by simp only [encBs, bd, free_encB.bds]⟩
@[go_sem] theorem bds_encBs (n : Nat) (l : List (List Bool)) : bds n (l.map encBs) = True := free_encBs.bds n l
theorem getD_app {α : Type} {d : α} {l : List α} {i : Nat} (h : i < l.length) (x : α) : (l ++ [x]).getD i d = l.getD i d := by simp only [List.getD, List.getElem?_append_left h]
def vecsA (n : Nat) (ρ : List Nat) : List AV := (List.range n).map fun i => if i < ρ.length then .vec (ρ.getD i 0) 1 n else .v (.slice none 0 0)
theorem vecsA_len (n : Nat) (ρ : List Nat) : (vecsA n ρ).length = n := by simp [vecsA]
theorem vecsA_nil (n : Nat) : List.replicate n (AV.v (.slice none 0 0)) = vecsA n [] := by
 apply List.ext_getElem (by simp [vecsA])
 intro i h1 h2
 simp [vecsA]
theorem vecsA_snoc {n : Nat} {ρ : List Nat} (_ : ρ.length < n) (a : Nat) : (vecsA n ρ).set ρ.length (.vec a 1 n) = vecsA n (ρ ++ [a]) := by
 apply List.ext_getElem (by simp [vecsA])
 intro i h1 h2
 rw [List.getElem_set]
 simp only [vecsA, List.getElem_map, List.getElem_range, List.length_append, List.length_singleton]
 split
 ·subst_vars; simp [List.getD]
 ·rename_i hne
  by_cases h : i < ρ.length
  ·rw [if_pos h, if_pos (by omega), getD_app h]
  ·rw [if_neg h, if_neg (by omega)]
theorem vecsA_get {n : Nat} {ρ : List Nat} {i : Nat} (h : i < n) (hi : i < ρ.length) : (vecsA n ρ)[i]? = some (.vec (ρ.getD i 0) 1 n) := by simp [vecsA, h, hi]
theorem vecsA_none {n : Nat} {ρ : List Nat} {i : Nat} (h : i < n) (hi : ¬ i < ρ.length) : (vecsA n ρ)[i]? = some (.v (.slice none 0 0)) := by simp [vecsA, h, hi]
theorem bndV {n : Nat} (ρ : List Nat) {i : Nat} (h : i < n) : bounds (i : Int) (List.take n (vecsA n ρ)).length = True := by
 rw [List.take_of_length_le (by rw [vecsA_len]; exact Nat.le_refl _), vecsA_len]; simp [bounds, h]
theorem bleV (n : Nat) (ρ : List Nat) : Nat.ble n (vecsA n ρ).length = true := by rw [vecsA_len]; simp
theorem bndW {n : Nat} {l : List Bool} (hl : l.length = n) {i : Nat} (h : i < n) : bounds (i : Int) (List.take n (List.map encB l)).length = True := by simp [bounds]; omega
theorem bleW {n : Nat} {l : List Bool} (hl : l.length = n) : Nat.ble n l.length = true := by rw [hl]; simp
structure FH (n kt : Nat) (ρ : List Nat) (R : List (List Bool)) (h : List AObj) : Prop where
 t : h[kt]? = some (.buf 92 1 (vecsA n ρ))
 r : ∀ i, i < ρ.length -> h[ρ.getD i 0]? = some (.buf 4 1 ((R.getD i []).map encB))
 d : ∀ i j, i < ρ.length -> j < ρ.length -> ρ.getD i 0 = ρ.getD j 0 -> i = j
theorem FH.keep {n kt : Nat} {ρ : List Nat} {R : List (List Bool)} {h h' : List AObj} (H : FH n kt ρ R h) (k : Keep All h h') : FH n kt ρ R h' := ⟨k.got H.t, fun i hi => k.got (H.r i hi), H.d⟩
theorem FH.set {n kt : Nat} {ρ : List Nat} {R : List (List Bool)} {h : List AObj} (H : FH n kt ρ R h) {i : Nat} (hi : i < ρ.length) (hR : i < R.length) (x : List Bool) : FH n kt ρ (R.set i x) (h.set (ρ.getD i 0) (.buf 4 1 (x.map encB))) := by
 refine ⟨?_, fun j hj => ?_, H.d⟩
 ·rw [aR (cJ (H.r i hi) H.t (by simp))]; exact H.t
 ·rw [getD_setr hR]
  by_cases e : j = i
  ·subst e; rw [if_pos rfl]; exact aJ (H.r j hj)
  ·rw [if_neg e, aR fun he => e (H.d _ _ hi hj he).symm]; exact H.r j hj
theorem FH.new {n kt : Nat} {ρ : List Nat} {R : List (List Bool)} {h : List AObj} (H : FH n kt ρ R h) (_hn : ρ.length < n) (hR : R.length = ρ.length) (x : List Bool) : FH n kt (ρ ++ [h.length]) (R ++ [x]) (h.set kt (.buf 92 1 (vecsA n (ρ ++ [h.length]))) ++ [.buf 4 1 (x.map encB)]) := by
 have hkt := aV H.t
 refine ⟨aE (aJ H.t), fun i hi => ?_, fun i j hi hj e => ?_⟩
 ·by_cases h1 : i < ρ.length
  ·have e1 : (ρ ++ [h.length]).getD i 0 = ρ.getD i 0 := getD_app h1 _
   have e2 : (R ++ [x]).getD i [] = R.getD i [] := getD_app (by omega) _
   rw [e1, e2]
   exact aE (by rw [aR (cJ H.t (H.r i h1) (by simp))]; exact H.r i h1)
  ·have h2 : i = ρ.length := by simp at hi; omega
   subst h2
   have e2 : (R ++ [x]).getD ρ.length [] = x := by rw [<- hR]; simp [List.getD]
   rw [e2]
   simp [List.getD]
 ·simp only [List.length_append, List.length_singleton] at hi hj
  have lt : ∀ i, i < ρ.length -> ρ.getD i 0 < h.length := fun i hi => aV (H.r i hi)
  have e0 : ∀ i, i < ρ.length -> (ρ ++ [h.length]).getD i 0 = ρ.getD i 0 := fun i hi => getD_app hi _
  have e1 : (ρ ++ [h.length]).getD ρ.length 0 = h.length := by simp [List.getD]
  by_cases h1 : i < ρ.length <;> by_cases h2 : j < ρ.length
  ·rw [e0 i h1, e0 j h2] at e; exact H.d i j h1 h2 e
  ·have : j = ρ.length := by omega
   subst this
   rw [e0 i h1, e1] at e; have := lt i h1; omega
  ·have : i = ρ.length := by omega
   subst this
   rw [e0 j h2, e1] at e; have := lt j h2; omega
  ·omega
theorem FH.end {n kt : Nat} {ρ : List Nat} {R : List (List Bool)} {h : List AObj} (H : FH n kt ρ R h) (hρ : ρ.length = n) (d : Dim n R) : fzN h 2 (.tup [.vec kt 1 n, .b true]) = .tup [.sl 1 (R.map encBs), .b true] := by
 have e1 : ∀ i, i < n -> fzN h 1 (.vec (ρ.getD i 0) 1 n) = encBs (R.getD i []) := fun i hi => by
  have hr := H.r i (by omega)
  have hc := d.c i hi
  have e0 : fzN h 0 = fz := rfl
  simp only [fzN, fzG, hr, List.length_map, hc, aQ]
  rw [List.take_of_length_le (by rw [List.length_map, hc]; exact Nat.le_refl _), encBs, List.map_map]
  rfl
 simp only [fzN.eq_2 _ 1, fzG, fzGs, H.t, vecsA_len, aQ]
 rw [List.take_of_length_le (by rw [vecsA_len]; exact Nat.le_refl _)]
 congr 3
 apply List.ext_getElem
 ·simp [vecsA, d.r]
 ·intro i h1 h2
  have hi : i < n := by simpa [vecsA] using h1
  have hR : i < R.length := by simpa using h2
  simp only [vecsA, List.getElem_map, List.getElem_range, hρ, hi, if_true, e1 i hi]
  simp [List.getD, hR]
theorem fin_vecs2 {n kt : Nat} {ρ : List Nat} {R : List (List Bool)} {h : List AObj} (H : FH n kt ρ R h) (hρ : ρ.length = n) (d : Dim n R) :
  ∃ y h', Wk GL 0 [(0, .tup [.vec kt 1 n, .b true])] h [(0, y)] h' /\ h' = [] /\ ARes.val y = ARes.val (.tup [.sl 1 (R.map encBs), .b true]) := by
 have e := H.end hρ d
 have hb : bd 0 (fzN h 2 (.tup [.vec kt 1 n, .b true])) := by rw [e]; simp [go_sem]
 have := Wk.fzN (GL := GL) 2 hb
 rw [e] at this
 exact ⟨_, [], this, rfl, rfl⟩
def mkS (n : Nat) (ks : List Nat) : List Bool := (List.range n).map fun k => ks.contains k
theorem mkS_len (n : Nat) (ks : List Nat) : (mkS n ks).length = n := by simp [mkS]
theorem mkS_nil (n : Nat) : mkS n [] = List.replicate n false := by
 apply List.ext_getElem (by simp [mkS])
 intro i h1 h2
 simp [mkS]
theorem mkS_snoc {n : Nat} {ks : List Nat} {t : Nat} (ht : t < ks.length) (_ : ks[t] < n) : (mkS n (ks.take t)).set ks[t] true = mkS n (ks.take (t + 1)) := by
 apply List.ext_getElem (by simp [mkS])
 intro i h1 h2
 rw [List.getElem_set]
 simp only [mkS, List.getElem_map, List.getElem_range]
 rw [bB ht]
 simp only [List.contains_append]
 split
 ·subst_vars; simp
 ·rename_i hne
  have : ([ks[t]].contains i) = false := by simp; omega
  rw [this, Bool.or_false]
theorem mkS_cal (p : Pg) (i : Nat) : mkS p.procs.length (calN p i) = calG p i := by
 apply List.ext_getElem (by rw [mkS_len, dH])
 intro k h1 h2
 rw [<- dG h2, <- cont_calN]
 simp [mkS]
theorem calM_take {p : Pg} {j : Nat} (h : j < p.procs.length) : (calM p).take (j + 1) = (calM p).take j ++ [calG p j] := by
 have hl : (calM p).length = p.procs.length := by simp [calM]
 rw [bB (by omega)]; simp [calM]
end Go.Rip
namespace Go.Rip
open Go Go.Proofs
set_option maxRecDepth 100000
attribute [local irreducible] Pure
theorem set_last {α : Type} {l : List α} {j : Nat} (h : l.length = j) (x y : α) : (l ++ [x]).set j y = l ++ [y] := by
 subst h; simp
theorem getD_last {l : List (List Bool)} {j : Nat} (h : l.length = j) (x : List Bool) : (l ++ [x]).getD j [] = x := by
 subst h; simp [List.getD]
theorem h64 (p : Pg) (hp : p.small) (hok : p.ok = true) : Pure (PC GLs) 64 [encPg p] (.tup [.sl 1 ((matM p).map encBs), .b true]) := by
 have hl := hp.l
 have q42 : ∀ j, j < p.procs.length -> Pure (PC GLs) 42 [.agg [.sl 3 (p.procs.map encPr)], .i j] (.tup [.sl 1 ((calN p j).map encN), .i 0]) := fun j hj => by
  have := h42 p hp (j : Int)
  have e1 : callsE p (j : Int) = 0 := by
   unfold callsE; rw [if_pos hok, if_neg (by omega)]
  have e2 : callsR p (j : Int) = calN p j := by rw [callsR, if_pos e1]; rfl
  rw [e1, e2] at this
  simpa only [encPg] using this
 have hcl := calN_lt p
 have hln : ∀ j, (calN p j).length <= p.procs.length := fun j => by have := nxs_len (calG p j); rwa [dH] at this
 have hct := fun j (h : j < p.procs.length) => calM_take h
 have hmc := mkS_cal p
 have hcm : (calM p).length = p.procs.length := by simp [calM]
 have hfw := fun k hk => (fwK_ok (calM_dim p) k hk).1
 refine k64.pure (by simp) (by simp [go_sem]) (by simp [go_sem]) ?_
 rw [<- fw_matM]
 simp -implicitDefEqProofs only [go_sem, c64, r64, encPg, List.length_map]
 generalize hn : p.procs.length = n at *
 simp -implicitDefEqProofs only [go_sem, vecsA_nil]
 refine ⟨by omega, ?_⟩
 refine aZ hC (fun j (_ : List Nat) => [(20, .i j), (19, .i n), (4, .i n), (5, .vec 1 1 n), (1, .ref 0 0)])
  (fun j ρ h' => h'[0]? = some (.cells 37 [.sl 3 (p.procs.map encPr)]) /\ FH n 1 ρ ((calM p).take j) h' /\ ρ.length = j) n ?_ fun j ρ h2 hj ⟨f1, H, hρ⟩ => ?_
 ·exact ⟨[], _, Wk.pick (Nat.zero_le _) (by simp [go_sem]), rfl, ⟨rfl, fun i hi => by simp at hi, fun i j hi => by simp at hi⟩, rfl⟩
 simp -implicitDefEqProofs only [go_sem]
 refine aG (fun hlt => ?_) (fun hlt => ?_)
 ·have hlt := aI hlt
  have w5 : IntKind.i64.wrap ((j : Int) + 1) = (j : Int) + 1 := aD _ (by omega)
  have HR : ((calM p).take j).length = j := by simp; omega
  have N := H.new (by omega) (by omega) (List.replicate n false)
  have g1 := H.t
  have gj : (vecsA n ρ)[j]? = some (.v (.slice none 0 0)) := vecsA_none hlt (by omega)
  have es : (vecsA n ρ).set j (.vec h2.length 1 n) = vecsA n (ρ ++ [h2.length]) := by
   have := vecsA_snoc (n := n) (ρ := ρ) (by omega) h2.length
   rwa [hρ] at this
  have f1_g := fun l => aE (l := l) f1
  have f1_s := fun o l => aO (l := l) f1 o
  have f1_e := fun o l => aP (o := o) (l := l) f1
  have f1_h := fun o => aJ (o := o) f1
  have g1_g := fun l => aE (l := l) g1
  have g1_s := fun o l => aO (l := l) g1 o
  have g1_e := fun o l => aP (o := o) (l := l) g1
  have g1_h := fun o => aJ (o := o) g1
  have f1_g1b := fun o l => get_beside (o := o) (l := l) f1 g1 (by simp)
  have f1_g1s := fun o l x => set_beside (o := o) (l := l) (x' := x) f1 g1 (by simp)
  have f1_g1g := fun o l x => get_beside2 (o := o) (l := l) (x' := x) f1 g1 (by simp)
  have f1_g1k := fun o l x => get_beside3 (o := o) (l := l) (x' := x) f1 g1 (by simp)
  simp -implicitDefEqProofs only [go_sem, hlt, map_rep, g1_g, g1_s, f1_g1b, bleV, bndV _ hlt, gj, es]
  refine ⟨by omega, ?_⟩
  refine aC hC (q42 j hlt) ?_
  have hks := hcl j
  have hkl := hln j
  have hmj := hmc j
  have hcj := hct j hlt
  generalize calN p j = ks at *
  simp -implicitDefEqProofs only [go_sem, bne_self_eq_false]
  refine aZ hC (fun t (_ : Unit) => [(38, .i t), (36, .sl 1 (ks.map encN)), (37, .i ks.length), (6, .i j), (20, .i j), (19, .i n), (4, .i n), (5, .vec 1 1 n), (1, .ref 0 0)])
   (fun t (_ : Unit) h' => h'[0]? = some (.cells 37 [.sl 3 (p.procs.map encPr)]) /\ FH n 1 (ρ ++ [h2.length]) ((calM p).take j ++ [mkS n (ks.take t)]) h') ks.length ?_ fun t _ h3 ht ⟨u1, U⟩ => ?_
  ·refine ⟨(), _, Wk.pick (Nat.zero_le _) (by simp [go_sem]), aE (by rw [aR (cJ g1 f1 (by simp))]; exact f1), ?_⟩
   rw [List.take_zero, mkS_nil]; exact N
  have hρ2 : j < (ρ ++ [h2.length]).length := by simp; omega
  have gd : (ρ ++ [h2.length]).getD j 0 = h2.length := by rw [<- hρ]; simp [List.getD]
  have ur := U.r j hρ2
  rw [gd, getD_last HR] at ur
  have ug : (vecsA n (ρ ++ [h2.length]))[j]? = some (.vec h2.length 1 n) := by rw [vecsA_get hlt hρ2, gd]
  simp -implicitDefEqProofs only [go_sem]
  refine aG (fun hlt2 => ?_) (fun hlt2 => ?_)
  ·have hlt2 := aI hlt2
   have hk := hks _ (List.getElem_mem hlt2)
   have d1 : decide ((ks[t] : Int) < 0) = false := decide_eq_false (by omega)
   have d2 : decide ((ks[t] : Int) >= (n : Int)) = false := decide_eq_false (by omega)
   have w6 : IntKind.i64.wrap ((t : Int) + 1) = (t : Int) + 1 := aD _ (by omega)
   have lm := mkS_len n (ks.take t)
   simp -implicitDefEqProofs only [go_sem, hlt2, aS, encN, d1, d2, U.t, bleV, bndV _ hlt, ug, ur, bleW lm, bndW lm hk, dE (show ks[t] < (mkS n (ks.take t)).length by rw [lm]; exact hk), set_encB, mkS_snoc hlt2 hk]
   refine ⟨(), _, Wk.pick (Nat.zero_le _) (by simp [go_sem, w6]), by rw [aR (cJ ur u1 (by simp))]; exact u1, ?_⟩
   have := U.set hρ2 (by simp; omega) (mkS n (ks.take (t + 1)))
   rwa [gd, set_last HR] at this
  ·have hge := aL hlt2
   rw [aU hge, hmj, <- hcj] at U
   simp -implicitDefEqProofs only [go_sem, hlt2, w5]
   exact ⟨ρ ++ [h2.length], h3, Wk.pick (Nat.zero_le _) (by simp [go_sem]), u1, U, by simp; omega⟩
 ·have hge := aL hlt
  have hρn : ρ.length = n := by omega
  rw [aU (by omega)] at H
  simp -implicitDefEqProofs only [go_sem, hlt]
  refine aZ hC (fun k (_ : Unit) => [(58, .i k), (57, .i n), (4, .i n), (5, .vec 1 1 n)]) (fun k (_ : Unit) h' => FH n 1 ρ (fwK n (calM p) k) h') n ⟨(), _, Wk.pick (Nat.zero_le _) (by simp [go_sem]), H⟩ fun k _ h3 hk H3 => ?_
  have dk := hfw k hk
  simp -implicitDefEqProofs only [go_sem]
  by_cases hkn : k < n
  ·have d1 : decide ((k : Int) < (n : Int)) = true := decide_eq_true (by omega)
   have wk : IntKind.i64.wrap ((k : Int) + 1) = (k : Int) + 1 := aD _ (by omega)
   simp -implicitDefEqProofs only [go_sem, d1]
   refine aZ hC (fun i (_ : Unit) => [(62, .i i), (61, .i n), (11, .i k), (58, .i k), (57, .i n), (4, .i n), (5, .vec 1 1 n)]) (fun i (_ : Unit) h' => FH n 1 ρ (fwI n (fwK n (calM p) k) k i) h') n ⟨(), _, Wk.pick (Nat.zero_le _) (by simp [go_sem]), H3⟩ fun i _ h4 hi H4 => ?_
   have di := (fwI_ok dk (k := k) i hi).1
   simp -implicitDefEqProofs only [go_sem]
   by_cases hin : i < n
   ·have d2 : decide ((i : Int) < (n : Int)) = true := decide_eq_true (by omega)
    have wi : IntKind.i64.wrap ((i : Int) + 1) = (i : Int) + 1 := aD _ (by omega)
    simp -implicitDefEqProofs only [go_sem, d2]
    refine aZ hC (fun j (_ : Unit) => [(66, .i j), (65, .i n), (12, .i i), (62, .i i), (61, .i n), (11, .i k), (58, .i k), (57, .i n), (4, .i n), (5, .vec 1 1 n)]) (fun j (_ : Unit) h' => FH n 1 ρ (fwJ (fwI n (fwK n (calM p) k) k i) k i j) h') n ⟨(), _, Wk.pick (Nat.zero_le _) (by simp [go_sem]), H4⟩ fun j _ h5 hj H5 => ?_
    have dj := (fwJ_ok di (k := k) hin j hj).1
    have hs : fwJ (fwI n (fwK n (calM p) k) k i) k i (j + 1) = stepM (fwJ (fwI n (fwK n (calM p) k) k i) k i j) k i j := rfl
    have hs0 : fwI n (fwK n (calM p) k) k (i + 1) = fwJ (fwI n (fwK n (calM p) k) k i) k i n := rfl
    simp -implicitDefEqProofs only [go_sem]
    by_cases hjn : j < n
    ·have d3 : decide ((j : Int) < (n : Int)) = true := decide_eq_true (by omega)
     have wj : IntKind.i64.wrap ((j : Int) + 1) = (j : Int) + 1 := aD _ (by omega)
     rw [hs]
     generalize fwJ (fwI n (fwK n (calM p) k) k i) k i j = R at *
     have ri := dj.c i hin
     have rk := dj.c k hkn
     have gi := H5.r i (by omega)
     have gk := H5.r k (by omega)
     have bij : ((R.getD i []).map encB)[j]? = some (.v (.bool (toM R i j))) := dE (by omega)
     have bik : ((R.getD i []).map encB)[k]? = some (.v (.bool (toM R i k))) := dE (by omega)
     have bkj : ((R.getD k []).map encB)[j]? = some (.v (.bool (toM R k j))) := dE (by omega)
     have fin : ∀ v, (toM R i j || (toM R i k && toM R k j)) = v -> FH n 1 ρ (stepM R k i j) (h5.set (ρ.getD i 0) (.buf 4 1 (((R.getD i []).set j v).map encB))) := fun v hv => by
      rw [stepM, hv, setM]
      exact H5.set (by omega) (by have := dj.r; omega) _
     rcases ha : toM R i j with _ | _
     ·rcases hb : toM R i k with _ | _
      ·rw [ha, hb] at fin
       simp -implicitDefEqProofs only [go_sem, d3, H5.t, bleV, bndV ρ hin, vecsA_get hin (show i < ρ.length by omega), gi, bleW ri, bndW ri hjn, bndW ri hkn, bij, bik, ha, hb, set_encB', wj]
       exact ⟨by omega, (), _, Wk.pick (Nat.zero_le _) (by simp [go_sem]), fin _ rfl⟩
      ·rw [ha, hb] at fin
       simp -implicitDefEqProofs only [go_sem, d3, H5.t, bleV, bndV ρ hin, bndV ρ hkn, vecsA_get hin (show i < ρ.length by omega), vecsA_get hkn (show k < ρ.length by omega), gi, gk, bleW ri, bleW rk, bndW ri hjn, bndW ri hkn, bndW rk hjn, bij, bik, bkj, ha, hb, set_encB', wj]
       exact ⟨by omega, (), _, Wk.pick (Nat.zero_le _) (by simp [go_sem]), fin _ rfl⟩
     ·rw [ha] at fin
      simp -implicitDefEqProofs only [go_sem, d3, H5.t, bleV, bndV ρ hin, vecsA_get hin (show i < ρ.length by omega), gi, bleW ri, bndW ri hjn, bij, ha, set_encB', wj]
      exact ⟨by omega, (), _, Wk.pick (Nat.zero_le _) (by simp [go_sem]), fin _ rfl⟩
    ·have d3 : decide ((j : Int) < (n : Int)) = false := decide_eq_false (by omega)
     have : j = n := by omega
     subst this
     rw [<- hs0] at H5
     simp -implicitDefEqProofs only [go_sem, d3, wi]
     exact ⟨hin, (), _, Wk.pick (Nat.zero_le _) (by simp [go_sem]), H5⟩
   ·have d2 : decide ((i : Int) < (n : Int)) = false := decide_eq_false (by omega)
    have : i = n := by omega
    subst this
    simp -implicitDefEqProofs only [go_sem, d2, wk]
    exact ⟨hkn, (), _, Wk.pick (Nat.zero_le _) (by simp [go_sem]), H4⟩
  ·have d1 : decide ((k : Int) < (n : Int)) = false := decide_eq_false (by omega)
   have : k = n := by omega
   subst this
   simp -implicitDefEqProofs only [go_sem, d1]
   exact fin_vecs2 H3 hρn dk
theorem set_encI (l : List Int) (i : Nat) (x : Int) : (l.map encI).set i (.v (.int .i64 x)) = (l.set i x).map encI := by rw [show AV.v (.int .i64 x) = encI x from rfl, List.map_set]
theorem rep_encI (n : Nat) : List.replicate n (AV.v (.int .i64 0)) = (List.replicate n 0).map encI := by simp [encI]
theorem bndI {n : Nat} {l : List Int} (hl : l.length = n) {i : Nat} (h : i < n) : bounds (i : Int) (List.take n (List.map encI l)).length = True := by simp [bounds]; omega
theorem bleI {n : Nat} {l : List Int} (hl : l.length = n) : Nat.ble n l.length = true := by rw [hl]; simp
theorem matM_get {p : Pg} {i : Nat} (h : i < p.procs.length) : ((matM p).map encBs).getD i .any = encRow p i := by
 have hl : i < (matM p).length := by simpa [matM] using h
 have := matM_row h
 simp only [List.getD, List.getElem?_eq_getElem hl, Option.getD_some] at this
 simp [List.getD, List.getElem?_eq_getElem hl, this, encBs, encRow]
theorem bndM {p : Pg} {i : Nat} (h : i < p.procs.length) : bounds (i : Int) (matM p).length = True := bnd (by simpa [matM] using h)
theorem reach_closed {p : Pg} {goals : List Tm} {k j : Nat} (hk : mkd (reachS p goals) k = true) (_hkn : k < p.procs.length) (h : mkd (rowM p k) j = true) : mkd (reachS p goals) j = true := by
 have h1 := closeF_lc (G := calN p) (l := calB p goals) (by rw [cR]; exact calN_lt p)
 have h2 := closeF_lc (G := calN p) (l := calG p k) (by rw [dH]; exact calN_lt p)
 exact h2.t _ h1.c (fun x hx => h1.c k hk x (mem_nxs.2 hx)) j h
theorem h9 (p : Pg) (q : Qy) (hp : p.wid) (hq : q.wid) : Pure (PC GLs) 9 [encPg p, encQy q] (.b true) := by
 have f2 := h17 (GL := GLs) [q.goals] 2000 (by simp [hq.1, hq.2]) (by simp) (by omega)
 have q27 := fun h => h27 (GL := GLs) p hp h
 simp only [encPg] at q27
 refine k9.pure (by simp) (by simp [go_sem]) (by simp [go_sem]) ?_
 simp -implicitDefEqProofs only [go_sem, c9, r9, encPg, encQy]
 refine aC hC sane_ok ?_
 simp -implicitDefEqProofs only [go_sem, Bool.not_true]
 refine aN hC (q27 _) fun x h1 ⟨b, hx, hk1, hb⟩ => ?_
 subst hx
 have o1 := hk1.got (i := 0) rfl
 have o2 := hk1.got (i := 1) rfl
 have o1_g := fun l => aE (l := l) o1
 have o1_s := fun o l => aO (l := l) o1 o
 have o1_e := fun o l => aP (o := o) (l := l) o1
 have o1_h := fun o => aJ (o := o) o1
 have o2_g := fun l => aE (l := l) o2
 have o2_s := fun o l => aO (l := l) o2 o
 have o2_e := fun o l => aP (o := o) (l := l) o2
 have o2_h := fun o => aJ (o := o) o2
 rcases b with _ | _
 ·simp -implicitDefEqProofs only [go_sem, Bool.not_false]
  refine aF ?_ ?_ <;> simp [go_sem]
 have hps := hb rfl
 simp -implicitDefEqProofs only [go_sem, Bool.not_true, o2, blt01]
 refine call_fz f2 ?_ ?_
 ·simp [fzs, fzGs, fzG, encL, fzGs_encs, <- encs_map]
 rcases hc2 : cnts [q.goals].flatten 2000 1 with ⟨_ | _, y⟩
 ·simp -implicitDefEqProofs only [go_sem, Bool.not_false]
  refine aF ?_ ?_ <;> simp [go_sem]
 have hy := cnts_true q.goals 2000 1 y (by omega) (by simpa using hc2)
 have hqf : q.fits := ⟨by omega, hy.2.2⟩
 have hgl := aW q.goals
 have hg2 : q.goals.length < 2 ^ 24 := by omega
 have g1 := h63 p hps
 have g0 := h32 p hps.fits
 have g3 := h65 p hps q hqf hg2
 rcases hok : p.ok with _ | _
 ·have e0 : okE false = 5 := rfl
  have hT : compsR p = [] := by simp [compsR, hok]
  rw [hT, hok, e0] at g1
  rw [hok, e0] at g0
  simp only [encPg, List.map_nil] at g0 g1
  clear hb hps q27 f2 hc2 hy hk1
  simp -implicitDefEqProofs only [go_sem, Bool.not_true, o1_g]
  refine aC hC g1 ?_
  simp -implicitDefEqProofs only [go_sem, o1_g, bne50]
  refine aC hC g0 ?_
  simp -implicitDefEqProofs only [go_sem, beq_self_eq_true]
  refine aF ?_ ?_ <;> simp [go_sem]
 have e0 : okE true = 0 := rfl
 have g2 := h64 p hps hok
 rw [hok, e0] at g1
 have H := compsR_ok hok
 have hlaw := comps_law H
 have hlen := (compsR_len p).1
 have hl := hps.l
 have hks := reachR_lt (p := p) (q := q)
 have hkl := reachR_len p q
 have hcl : okQuery p q = true -> ∀ k ∈ reachR p q, ∀ j, mkd (rowM p k) j = true -> j ∈ reachR p q := fun h k hk j hj => by
  have e : reachR p q = nxs (reachS p q.goals) := by simp [reachR, h]
  have := hks k hk
  rw [e, mem_nxs] at hk ⊢
  exact reach_closed hk this hj
 simp only [encPg, encQy] at g1 g2 g3
 generalize compsR p = L at *
 generalize reachR p q = ks at *
 obtain ⟨hmany, hlaw⟩ := hlaw
 have hml := manyC_le L
 rw [hmany] at hml
 have hoc := fun a => ofC_len p.procs.length L a
 clear hb q27 f2 hc2 hy hk1 g0 hps
 simp -implicitDefEqProofs only [go_sem, Bool.not_true, o1_g]
 refine aC hC g1 ?_
 simp -implicitDefEqProofs only [go_sem, o1_g, bne_self_eq_false]
 refine aC hC g2 ?_
 simp -implicitDefEqProofs only [go_sem, List.append_assoc, o1_g, Bool.not_true, rep_encI]
 refine ⟨by omega, ?_⟩
 obtain ⟨K, hK⟩ : ∃ K, K = h1.length + 1 := ⟨_, rfl⟩
 rw [<- hK]
 have hK2 : 2 <= K := by have := aV o2; omega
 refine aZ hC (fun a (_ : Unit) => [(65, .i a), (64, .i L.length), (63, .sl 1 (L.map encIs)), (7, .sl 1 ((matM p).map encBs)), (9, .vec K 1 p.procs.length), (10, .i (manyC L a : Nat)), (2, .ref 0 0), (3, .ref 1 0)])
  (fun a (_ : Unit) h' => h'[0]? = some (.cells 37 [.sl 3 (p.procs.map encPr)]) /\ h'[1]? = some (.cells 49 [.v (.int .i64 q.vars), .sl 4 (q.goals.map enc)]) /\ h'[K]? = some (.buf 3 1 ((ofC p.procs.length L a).map encI))) L.length ?_ fun a _ h2 ha ⟨u1, u2, u3⟩ => ?_
 ·refine ⟨(), _, Wk.pick (Nat.zero_le _) (by simp [go_sem, manyC]), o1_g _, o2_g _, ?_⟩
  rw [hK, aT]; rfl
 have wa : IntKind.i64.wrap ((a : Int) + 1) = (a : Int) + 1 := aD _ (by omega)
 simp -implicitDefEqProofs only [go_sem]
 refine aG (fun hlt => ?_) (fun hlt => ?_)
 ·have hlt := aI hlt
  have hc0 : L.getD a [] = L[a] := by simp [List.getD, hlt]
  have hm1 := hml (a + 1) hlt
  have hm2 : manyC L (a + 1) = manyC L a + L[a].length := by rw [manyC, hc0]
  have ho2 : ofC p.procs.length L (a + 1) = putC (ofC p.procs.length L a) L[a] a := by rw [ofC, hc0]
  have hz := fun x hx => H.z a x (by rw [hc0]; exact hx)
  have ho := fun k hk => H.o a k (by rw [hc0]; exact hk)
  have hpl := fun c => putC_len c a (ofC p.procs.length L a)
  rw [hoc] at hpl
  simp -implicitDefEqProofs only [go_sem, hlt, aS, encIs]
  generalize L[a] = c at *
  refine aZ hC (fun t (_ : Unit) => [(72, .i t), (71, .i c.length), (70, .sl 1 (c.map encI)), (11, .i a), (65, .i a), (64, .i L.length), (63, .sl 1 (L.map encIs)), (7, .sl 1 ((matM p).map encBs)), (9, .vec K 1 p.procs.length), (10, .i (manyC L a + t : Nat)), (2, .ref 0 0), (3, .ref 1 0)])
   (fun t (_ : Unit) h' => h'[0]? = some (.cells 37 [.sl 3 (p.procs.map encPr)]) /\ h'[1]? = some (.cells 49 [.v (.int .i64 q.vars), .sl 4 (q.goals.map enc)]) /\ h'[K]? = some (.buf 3 1 ((putC (ofC p.procs.length L a) (c.take t) a).map encI))) c.length ?_ fun t _ h3 ht ⟨v1, v2, v3⟩ => ?_
  ·exact ⟨(), _, Wk.pick (Nat.zero_le _) (by simp [go_sem]), u1, u2, u3⟩
  have wt : IntKind.i64.wrap ((t : Int) + 1) = (t : Int) + 1 := aD _ (by omega)
  simp -implicitDefEqProofs only [go_sem]
  refine aG (fun hlt2 => ?_) (fun hlt2 => ?_)
  ·have hlt2 := aI hlt2
   have wm : IntKind.i64.wrap (((manyC L a + t : Nat) : Int) + 1) = ((manyC L a + (t + 1) : Nat) : Int) := by rw [aD _ (by omega)]; omega
   obtain ⟨k, hk⟩ := hz _ (List.getElem_mem hlt2)
   have hkn := (ho k (by rw [<- hk]; exact List.getElem_mem hlt2)).1
   have hsn : putC (ofC p.procs.length L a) (c.take (t + 1)) a = (putC (ofC p.procs.length L a) (c.take t) a).set k a := by
    rw [bB hlt2, putC_snoc, hk]; rfl
   have hpt := hpl (c.take t)
   generalize putC (ofC p.procs.length L a) (c.take t) a = of at *
   have d1 : decide ((k : Int) < 0) = false := decide_eq_false (by omega)
   have d2 : decide ((k : Int) >= (p.procs.length : Int)) = false := decide_eq_false (by omega)
   simp -implicitDefEqProofs only [go_sem, hlt2, aS, encI, hk, d1, d2, v3, bleI hpt, bndI hpt hkn, aH (show k < of.length by omega), Int.toNat_natCast, set_encI, wm]
   refine ⟨(), _, Wk.pick (Nat.zero_le _) (by simp [go_sem, wt]), by rw [aR (by omega)]; exact v1, by rw [aR (by omega)]; exact v2, ?_⟩
   rw [hsn]; exact aJ v3
  ·have hge := aL hlt2
   have het : t = c.length := by omega
   rw [aU hge] at v3
   simp -implicitDefEqProofs only [go_sem, hlt2, wa]
   exact ⟨(), h3, Wk.pick (Nat.zero_le _) (by simp [go_sem, hm2, het]), v1, v2, by rw [ho2]; exact v3⟩
 have hge := aL hlt
 have : a = L.length := by omega
 subst this
 rw [hmany]
 have hof := hoc L.length
 generalize ofC p.procs.length L L.length = of at *
 simp -implicitDefEqProofs only [go_sem, hlt, bne_self_eq_false]
 refine aZ hC (fun i (_ : Unit) => [(98, .i i), (97, .i p.procs.length), (7, .sl 1 ((matM p).map encBs)), (9, .vec K 1 p.procs.length), (2, .ref 0 0), (3, .ref 1 0)])
  (fun i (_ : Unit) h' => h'[0]? = some (.cells 37 [.sl 3 (p.procs.map encPr)]) /\ h'[1]? = some (.cells 49 [.v (.int .i64 q.vars), .sl 4 (q.goals.map enc)]) /\ h'[K]? = some (.buf 3 1 (of.map encI))) p.procs.length ?_ fun i _ h3 hi ⟨v1, v2, v3⟩ => ?_
 ·exact ⟨(), _, Wk.pick (Nat.zero_le _) (by simp [go_sem]), u1, u2, u3⟩
 have wi : IntKind.i64.wrap ((i : Int) + 1) = (i : Int) + 1 := aD _ (by omega)
 simp -implicitDefEqProofs only [go_sem]
 refine aG (fun hin => ?_) (fun hin => ?_)
 ·have hin := aI hin
  simp -implicitDefEqProofs only [go_sem, hin]
  refine aZ hC (fun k (_ : Unit) => [(103, .i k), (102, .i p.procs.length), (15, .i i), (98, .i i), (97, .i p.procs.length), (7, .sl 1 ((matM p).map encBs)), (9, .vec K 1 p.procs.length), (2, .ref 0 0), (3, .ref 1 0)])
   (fun k (_ : Unit) h' => h'[0]? = some (.cells 37 [.sl 3 (p.procs.map encPr)]) /\ h'[1]? = some (.cells 49 [.v (.int .i64 q.vars), .sl 4 (q.goals.map enc)]) /\ h'[K]? = some (.buf 3 1 (of.map encI))) p.procs.length ?_ fun k _ h4 hk ⟨w1, w2, w3⟩ => ?_
  ·exact ⟨(), _, Wk.pick (Nat.zero_le _) (by simp [go_sem]), v1, v2, v3⟩
  have wk : IntKind.i64.wrap ((k : Int) + 1) = (k : Int) + 1 := aD _ (by omega)
  simp -implicitDefEqProofs only [go_sem]
  refine aG (fun hkn => ?_) (fun hkn => ?_)
  ·have hkn := aI hkn
   obtain ⟨l1, l2⟩ := hlaw i k hin hkn
   have ei : ((i : Int) == (k : Int)) = (i == k) := by rw [Bool.eq_iff_iff, beq_iff_eq, beq_iff_eq]; omega
   have ho : oneM (matM p) i k = (i == k || (mkd (rowM p i) k && mkd (rowM p k) i)) := by rw [oneM, toM_row hin, toM_row hkn]
   have l3 : (of.getD i 0 == of.getD k 0) = (i == k || (mkd (rowM p i) k && mkd (rowM p k) i)) := by rw [<- ho, Bool.eq_iff_iff, beq_iff_eq]; exact l1
   rw [toM_row hin] at l2
   have l4 : mkd (rowM p i) k = true -> decide (of.getD k 0 > of.getD i 0) = false := fun h => decide_eq_false (by have := l2 h; omega)
   have bi := bleI hof
   have xi := aH (show i < of.length by omega)
   have xk := aH (show k < of.length by omega)
   rcases hik : i == k with _ | _ <;> rcases hA : mkd (rowM p i) k with _ | _ <;> rcases hB : mkd (rowM p k) i with _ | _
   all_goals
    rw [hik, hA, hB] at l3
    simp only [Bool.false_or, Bool.true_or, Bool.and_false, Bool.and_true, Bool.and_self, Bool.or_self] at l3
    rw [hA] at l4
    try replace l4 := l4 rfl
    simp -implicitDefEqProofs only [go_sem, hkn, w3, bi, bndI hof hin, bndI hof hkn, xi, xk, l3, l4, ei, hik, matM_get hin, matM_get hkn, bndM hin, bndM hkn, encRow, bndRow hin, bndRow hkn, getRow hin, getRow hkn, encB, hA, hB, Bool.not_true, Bool.not_false, wk]
    exact ⟨(), h4, Wk.pick (Nat.zero_le _) (by simp [go_sem]), w1, w2, w3⟩
  ·simp -implicitDefEqProofs only [go_sem, hkn, wi]
   exact ⟨(), h4, Wk.pick (Nat.zero_le _) (by simp [go_sem]), w1, w2, w3⟩
 simp -implicitDefEqProofs only [go_sem, hin, v1, v2]
 refine aC hC g3 ?_
 rcases hok2 : okQuery p q with _ | _
 ·have e5 : okE false = 5 := rfl
  simp -implicitDefEqProofs only [go_sem, e5, bne50, beq_self_eq_true]
  refine aF ?_ ?_ <;> simp [go_sem]
 have hcl := hcl hok2
 simp -implicitDefEqProofs only [go_sem, e0, bne_self_eq_false, map_rep]
 refine ⟨by omega, ?_⟩
 refine aZ hC (fun t (_ : Unit) => [(174, .i t), (173, .i ks.length), (172, .sl 1 (ks.map encN)), (17, .sl 1 (ks.map encN)), (18, .vec h3.length 1 p.procs.length), (9, .vec K 1 p.procs.length), (7, .sl 1 ((matM p).map encBs))])
  (fun t (_ : Unit) h' => h'[h3.length]? = some (.buf 4 1 ((mkS p.procs.length (ks.take t)).map encB))) ks.length ?_ fun t _ h4 ht v4 => ?_
 ·refine ⟨(), _, Wk.pick (Nat.zero_le _) (by simp [go_sem]), ?_⟩
  rw [List.take_zero, mkS_nil, dF]; rfl
 have wt : IntKind.i64.wrap ((t : Int) + 1) = (t : Int) + 1 := aD _ (by omega)
 simp -implicitDefEqProofs only [go_sem]
 refine aG (fun hlt2 => ?_) (fun hlt2 => ?_)
 ·have hlt2 := aI hlt2
  have hk := hks _ (List.getElem_mem hlt2)
  have d1 : decide ((ks[t] : Int) < 0) = false := decide_eq_false (by omega)
  have d2 : decide ((ks[t] : Int) >= (p.procs.length : Int)) = false := decide_eq_false (by omega)
  have lm := mkS_len p.procs.length (ks.take t)
  simp -implicitDefEqProofs only [go_sem, hlt2, aS, encN, d1, d2, v4, bleW lm, bndW lm hk, dE (show ks[t] < (mkS p.procs.length (ks.take t)).length by rw [lm]; exact hk), set_encB, mkS_snoc hlt2 hk]
  exact ⟨(), _, Wk.pick (Nat.zero_le _) (by simp [go_sem, wt]), aJ v4⟩
 have hge := aL hlt2
 rw [aU hge] at v4
 simp -implicitDefEqProofs only [go_sem, hlt2]
 refine aZ hC (fun t (_ : Unit) => [(192, .i t), (191, .i ks.length), (190, .sl 1 (ks.map encN)), (18, .vec h3.length 1 p.procs.length), (9, .vec K 1 p.procs.length), (7, .sl 1 ((matM p).map encBs))])
  (fun t (_ : Unit) h' => h'[h3.length]? = some (.buf 4 1 ((mkS p.procs.length ks).map encB))) ks.length ⟨(), _, Wk.pick (Nat.zero_le _) (by simp [go_sem]), v4⟩ fun t _ h5 ht v5 => ?_
 have wt : IntKind.i64.wrap ((t : Int) + 1) = (t : Int) + 1 := aD _ (by omega)
 simp -implicitDefEqProofs only [go_sem]
 refine aG (fun hlt2 => ?_) (fun hlt2 => ?_)
 ·have hlt2 := aI hlt2
  have hk := hks _ (List.getElem_mem hlt2)
  have hcl := hcl _ (List.getElem_mem hlt2)
  simp -implicitDefEqProofs only [go_sem, hlt2, aS, encN]
  refine aZ hC (fun j (_ : Unit) => [(198, .i j), (197, .i p.procs.length), (22, .i ks[t]), (192, .i t), (191, .i ks.length), (190, .sl 1 (ks.map encN)), (18, .vec h3.length 1 p.procs.length), (9, .vec K 1 p.procs.length), (7, .sl 1 ((matM p).map encBs))])
   (fun j (_ : Unit) h' => h'[h3.length]? = some (.buf 4 1 ((mkS p.procs.length ks).map encB))) p.procs.length ⟨(), _, Wk.pick (Nat.zero_le _) (by simp [go_sem]), v5⟩ fun j _ h6 hj v6 => ?_
  have wj : IntKind.i64.wrap ((j : Int) + 1) = (j : Int) + 1 := aD _ (by omega)
  simp -implicitDefEqProofs only [go_sem]
  refine aG (fun hjn => ?_) (fun hjn => ?_)
  ·have hjn := aI hjn
   have lm := mkS_len p.procs.length ks
   rcases hA : mkd (rowM p ks[t]) j with _ | _
   ·simp -implicitDefEqProofs only [go_sem, hjn, matM_get hk, bndM hk, encRow, bndRow hjn, getRow hjn, encB, hA, wj]
    exact ⟨(), _, Wk.pick (Nat.zero_le _) (by simp [go_sem]), v6⟩
   ·have hin : mkd (mkS p.procs.length ks) j = true := by
     rw [dG (by rw [lm]; exact hjn)]
     simpa [mkS] using hcl j hA
    simp -implicitDefEqProofs only [go_sem, hjn, matM_get hk, bndM hk, encRow, bndRow hjn, getRow hjn, encB, hA, v6, bleW lm, bndW lm hjn, dE (show j < (mkS p.procs.length ks).length by rw [lm]; exact hjn), hin, Bool.not_true, wj]
    exact ⟨(), _, Wk.pick (Nat.zero_le _) (by simp [go_sem]), v6⟩
  ·simp -implicitDefEqProofs only [go_sem, hjn, wt]
   exact ⟨(), _, Wk.pick (Nat.zero_le _) (by simp [go_sem]), v6⟩
 ·simp -implicitDefEqProofs only [go_sem, hlt2]
  refine aF ?_ ?_ <;> simp [go_sem]
end Go.Rip
