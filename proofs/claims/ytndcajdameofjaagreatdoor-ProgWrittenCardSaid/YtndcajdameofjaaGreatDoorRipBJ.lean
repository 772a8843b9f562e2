/- Program: terms read as a program; what is thrown is caught. -/
import Derived.Test.YtndcajdameofjaaGreatDoorRipBI
import Derived.Test.YtndcajdameofjaaGreatDoorRipBH
import Derived.Test.YtndcajdameofjaaGreatDoorRipAP
import Derived.Test.YtndcajdameofjaaGreatDoorRipAI
import Derived.Test.YtndcajdameofjaaGreatDoorRipBF
import Derived.Test.YtndcajdameofjaaGreatDoorRipAU
import Derived.Test.YtndcajdameofjaaGreatDoorRipBC
namespace Go.Rip
open Go Go.Proofs
set_option maxRecDepth 100000
attribute [local irreducible] Pure
theorem kO {GL : Glob} {C : Calling} {m : Nat} {c : ACode} {Q : Post} {Pn : AV -> List AObj -> Prop} {τ : List (Nat × AV)} {h : List AObj} (g : wpA GL C m c (pst GL C m Pn [] Q) Pn τ h) : wpA GL C m c Q Pn τ h := g
def ProgR (l : List Tm) (r : ARes) (h : List AObj) : Prop := h = [] /\ ∃ a e, r = .val (.tup [encPg ((progR l).getD ⟨[]⟩), .i a, .i e]) /\ (e = 0 ↔ (progR l).isSome = true)
theorem jY {l : List Tm} {a e : Int} {h : List AObj} (hp : progR l = none) (he : e ≠ 0) : ∃ y h', Wk GLs 0 [(0, .tup [.agg [.v (.slice none 0 0)], .i a, .i e])] h [(0, y)] h' /\ ProgR l (.val y) h' := by
 obtain ⟨y, h', hw, rfl, ey⟩ := aI (GL := GLs) (x := .tup [.agg [.v (.slice none 0 0)], .i a, .i e]) (v := .tup [encPg ⟨[]⟩, .i a, .i e]) (h := h) (by simp [wkr, wkrs, encPg]) (by simp [go_sem, encPg])
 cases ey
 exact ⟨_, _, hw, rfl, a, e, by rw [hp]; rfl, by simp [hp, he]⟩
theorem qW {l : List Tm} {n : Int} {H : List AObj} {τ : List (Nat × AV)} {x0 x1 x2 : AV} (c0 : H[0]? = some (.cells 37 [x0])) (c1 : H[1]? = some (.cells 3 [x1])) (c2 : H[2]? = some (.cells 39 [x2]))
  (t2 : tget τ 2 = .ref 0 0) (t3 : tget τ 3 = .ref 1 0) (t4 : tget τ 4 = .ref 2 0) (hp : progR l = none) :
  bodyRec GLs (AC Tryz.prog GLs) c112 6 3 (wrongV n) [.ref 0 0, .ref 1 0, .ref 2 0] H (finD GLs 0 r29 τ (ProgR l)) := by
 unfold bodyRec
 refine kO ?_
 have c0_g := fun l => aC (l := l) c0
 have c0_s := fun o l => aE (l := l) c0 o
 have c0_e := fun o l => aD (o := o) (l := l) c0
 have c0_h := fun o => aJ (o := o) c0
 have c1_g := fun l => aC (l := l) c1
 have c1_s := fun o l => aE (l := l) c1 o
 have c1_e := fun o l => aD (o := o) (l := l) c1
 have c1_h := fun o => aJ (o := o) c1
 have c2_g := fun l => aC (l := l) c2
 have c2_s := fun o l => aE (l := l) c2 o
 have c2_e := fun o l => aD (o := o) (l := l) c2
 have c2_h := fun o => aJ (o := o) c2
 have l0 := aH c0
 have l1 := aH c1
 have l2 := aH c2
 have f1 : ∀ X l, (H.set 0 X ++ l)[1]? = some (.cells 3 [x1]) := fun X l => aC (by rw [aF (by omega)]; exact c1)
 have f2 : ∀ X Y l, (H.set 0 X ++ l).set 1 Y = (H.set 0 X).set 1 Y ++ l := fun X Y l => cK (by simpa using l1)
 have f3 : ∀ X Y l, ((H.set 0 X).set 1 Y ++ l)[H.length]? = l[0]? := fun X Y l => by rw [List.getElem?_append_right (by simp)]; simp
 have f4 : ∀ X Y l, ((H.set 0 X).set 1 Y ++ l)[2]? = some (.cells 39 [x2]) := fun X Y l => aC (by rw [aF (by omega), aF (by omega)]; exact c2)
 have f5 : ∀ X Y Z l, ((H.set 0 X).set 1 Y ++ l).set 2 Z = ((H.set 0 X).set 1 Y).set 2 Z ++ l := fun X Y Z l => cK (by simpa using l2)
 simp -implicitDefEqProofs only [go_sem, c112, wrongV, cM, c0_g, c0_s, f1, f2, f3, f4, f5]
 have g0 : ∀ X Y Z l, (((H.set 0 X).set 1 Y).set 2 Z ++ l)[0]? = some X := fun X Y Z l => aC (by rw [aF (by omega), aF (by omega), List.getElem?_set_self l0])
 have g1 : ∀ X Y Z l, (((H.set 0 X).set 1 Y).set 2 Z ++ l)[1]? = some Y := fun X Y Z l => aC (by rw [aF (by omega), List.getElem?_set_self (by simpa using l1)])
 have g2 : ∀ X Y Z l, (((H.set 0 X).set 1 Y).set 2 Z ++ l)[2]? = some Z := fun X Y Z l => aC (by rw [List.getElem?_set_self (by simpa using l2)])
 refine ⟨_, _, Wk.refl (by simp), ?_⟩
 have er : ∀ l', retA τ (((H.set 0 (.cells 37 [.v (.slice none 0 0)])).set 1 (.cells 3 [.v (.int .i64 n)])).set 2 (.cells 39 [.v (.int .i64 40)]) ++ l') r29 = some (.tup [.agg [.v (.slice none 0 0)], .i n, .i 40]) := fun l' => by simp -implicitDefEqProofs only [go_sem, r29, t2, t3, t4, g0, g1, g2]
 simp only [finD, er]
 exact jY hp (by decide)
theorem rec_nil {R : ARes -> List AObj -> Prop} {H : List AObj} {τ : List (Nat × AV)} {x0 x1 x2 : AV} (c0 : H[0]? = some (.cells 37 [x0])) (c1 : H[1]? = some (.cells 3 [x1])) (c2 : H[2]? = some (.cells 39 [x2]))
  (t2 : tget τ 2 = .ref 0 0) (t3 : tget τ 3 = .ref 1 0) (t4 : tget τ 4 = .ref 2 0) (hf : ∃ y h', Wk GLs 0 [(0, .tup [.agg [x0], x1, x2])] H [(0, y)] h' /\ R (.val y) h') :
  bodyRec GLs (AC Tryz.prog GLs) c112 6 3 (.v .nilIface) [.ref 0 0, .ref 1 0, .ref 2 0] H (finD GLs 0 r29 τ R) := by
 unfold bodyRec
 refine kO ?_
 have c0_g := fun l => aC (l := l) c0
 have c0_s := fun o l => aE (l := l) c0 o
 have c0_e := fun o l => aD (o := o) (l := l) c0
 have c0_h := fun o => aJ (o := o) c0
 have c1_g := fun l => aC (l := l) c1
 have c1_s := fun o l => aE (l := l) c1 o
 have c1_e := fun o l => aD (o := o) (l := l) c1
 have c1_h := fun o => aJ (o := o) c1
 have c2_g := fun l => aC (l := l) c2
 have c2_s := fun o l => aE (l := l) c2 o
 have c2_e := fun o l => aD (o := o) (l := l) c2
 have c2_h := fun o => aJ (o := o) c2
 simp -implicitDefEqProofs only [go_sem, c112]
 have er : retA τ H r29 = some (.tup [.agg [x0], x1, x2]) := by simp -implicitDefEqProofs only [go_sem, r29, t2, t3, t4, c0, c1, c2]
 refine ⟨_, _, Wk.refl (Nat.le_refl _), ?_⟩
 simp only [finD, er]
 exact hf
theorem mZ {R : ARes -> List AObj -> Prop} {H : List AObj} {τ : List (Nat × AV)} {x0 x1 x2 y0 y1 y2 : AV} (c0 : H[0]? = some (.cells 37 [x0])) (c1 : H[1]? = some (.cells 3 [x1])) (c2 : H[2]? = some (.cells 39 [x2]))
  (t2 : tget τ 2 = .ref 0 0) (t3 : tget τ 3 = .ref 1 0) (t4 : tget τ 4 = .ref 2 0) (hf : ∀ h, ∃ y h', Wk GLs 0 [(0, .tup [.agg [y0], y1, y2])] h [(0, y)] h' /\ R (.val y) h') :
  bodyRec GLs (AC Tryz.prog GLs) c112 6 3 (.v .nilIface) [.ref 0 0, .ref 1 0, .ref 2 0] (((H.set 0 (.cells 37 [y0])).set 1 (.cells 3 [y1])).set 2 (.cells 39 [y2])) (finD GLs 0 r29 τ R) := by
 have l0 := aH c0
 have l1 := aH c1
 have l2 := aH c2
 refine rec_nil (x0 := y0) (x1 := y1) (x2 := y2) ?_ ?_ ?_ t2 t3 t4 (hf _)
 ·rw [aF (by decide), aF (by decide), List.getElem?_set_self l0]
 ·rw [aF (by decide), List.getElem?_set_self (by simpa using l1)]
 ·rw [List.getElem?_set_self (by simpa using l2)]
theorem fin_some {l : List Tm} {p : Pg} {L : List AV} (hp : progR l = some p) (hw : Wd (.agg [.sl 3 L]) (encPg p)) (h : List AObj) : ∃ y h', Wk GLs 0 [(0, .tup [.agg [.sl 3 L], .i 0, .i 0])] h [(0, y)] h' /\ ProgR l (.val y) h' := by
 obtain ⟨y, h', hw2, rfl, ey⟩ := aI (GL := GLs) (x := .tup [encPg p, .i 0, .i 0]) (v := .tup [encPg p, .i 0, .i 0]) (h := h) (cB _) (by simp [go_sem, encPg])
 cases ey
 exact ⟨_, _, (Wk.pickW (τ := [(0, .tup [.agg [.sl 3 L], .i 0, .i 0])]) (τ' := [(0, .tup [encPg p, .i 0, .i 0])]) (Nat.zero_le _) ⟨Wd.tup ⟨hw, Wd.rfl _, Wd.rfl _, trivial⟩, trivial⟩).trans hw2, rfl, 0, 0, by rw [hp]; rfl, by simp [hp]⟩
theorem h29c (l : List Tm) (hz : sizes l < 2 ^ 27) (hs : strss l) : ACall Tryz.prog GLs 29 [.sl 4 (l.map enc)] [] (ProgR l) := by
 have h4 := aQ l
 have q110 := h110 (GL := GLs) l 111 (fun t => !t.ok) (by omega) (fun x hx => h111 x (by obtain ⟨j, hj, rfl⟩ := List.mem_iff_getElem.1 hx; have := bK hj; omega) (bJ hs x hx))
 refine mkD_ok Tryz.prog GLs 29 _ D29 _ _ _ (by simp) ?_
 simp only [bodyDefer, da29, de29, wpPre]
 refine kO ?_
 simp -implicitDefEqProofs only [go_sem]
 simp only [kseq, K112]
 refine kO ?_
 simp -implicitDefEqProofs only [go_sem]
 refine aG hC q110 ?_
 by_cases hall : l.all Tm.ok = true
 rotate_left
 ·have hany : (l.any fun t => !t.ok) = true := by
   simp only [Bool.not_eq_true, List.all_eq_false] at hall
   rw [List.any_eq_true]
   obtain ⟨x, hx, hb⟩ := hall
   exact ⟨x, hx, by simpa using hb⟩
  have ei : idxF (fun t : Tm => !t.ok) l = ((l.findIdx fun t => !t.ok : Nat) : Int) := by rw [idxF, if_pos hany]
  have d1 : decide (((l.findIdx fun t => !t.ok : Nat) : Int) >= 0) = true := decide_eq_true (by omega)
  have ep : progR l = none := by rw [progR, if_neg hall]
  rw [ei]
  simp -implicitDefEqProofs only [go_sem, d1]
  simp only [kseq]
  simp -implicitDefEqProofs only [go_sem, r29]
  exact jY ep (by decide)
 have hany : (l.any fun t => !t.ok) = false := by
  rw [List.any_eq_false]
  intro x hx
  simpa using List.all_eq_true.1 hall x hx
 have ei : idxF (fun t : Tm => !t.ok) l = -1 := by rw [idxF, if_neg (by rw [hany]; simp)]
 have d1 : decide ((-1 : Int) >= 0) = false := rfl
 rw [ei]
 simp -implicitDefEqProofs only [go_sem, d1]
 simp only [kseq, bodyBehind]
 refine kO ?_
 simp -implicitDefEqProofs only [go_sem, c29]
 have bad : ∀ j, readL (l.take j) ⟨[], 0⟩ = none -> progR l = none := fun j e => by rw [progR, if_pos hall, wR e]
 refine bH hC (fun j (_ : Rd) => [(21, .i j), (20, .i l.length), (19, .sl 4 (l.map enc)), (6, .ref 4 0), (2, .ref 0 0), (3, .ref 1 0), (4, .ref 2 0)])
  (fun j r h' => readL (l.take j) ⟨[], 0⟩ = some r /\ RdFit r /\ RdAt r 4 h' /\ h'[0]? = some (.cells 37 [.v (.slice none 0 0)]) /\ h'[1]? = some (.cells 3 [.i 0]) /\ h'[2]? = some (.cells 39 [.i 0])) l.length ?_ fun j r h2 hj ⟨i1, i2, i3, c0, c1, c2⟩ => ?_
 ·refine ⟨⟨[], 0⟩, _, Wk.pick (by simp) (by simp [go_sem]), rfl, ⟨by simp, fun q hq => by cases hq⟩, ⟨3, 0, 0, 0, [], rfl, rfl, .inl rfl, trivial, fun s n a l e => by cases e⟩, rfl, rfl, rfl⟩
 obtain ⟨m, b, fr, n, L, o1, o2, o3, hPL, hla⟩ := i3.s
 have o1_g := fun l => aC (l := l) o1
 have o1_s := fun o l => aE (l := l) o1 o
 have o1_e := fun o l => aD (o := o) (l := l) o1
 have o1_h := fun o => aJ (o := o) o1
 simp -implicitDefEqProofs only [go_sem]
 refine aK (fun hlt => ?_) (fun hlt => ?_)
 ·have hlt := aM hlt
  have w5 : IntKind.i64.wrap ((j : Int) + 1) = (j : Int) + 1 := aP _ (by omega)
  have hm1 := List.getElem_mem hlt
  have sz := bK hlt
  have es := vJ hlt ⟨[], 0⟩
  rw [i1, Option.bind_some] at es
  simp -implicitDefEqProofs only [go_sem, hlt, aS, cM, o1_g, o1_s]
  refine aR hC (h113 r l[j] (by omega) (bJ hs _ hm1) (by have := i2.1; omega) 4 _ ((i3.at (n' := j) o1).app _)) fun x h' ⟨hk, hx⟩ => ?_
  have c0s : ∀ X, (h2.set 4 X)[0]? = _ := fun X => (aF (by decide)).trans c0
  have c0' := hk.get (aC (c0s _)) (dB (by decide))
  have c1s : ∀ X, (h2.set 4 X)[1]? = _ := fun X => (aF (by decide)).trans c1
  have c1' := hk.get (aC (c1s _)) (dB (by decide))
  have c2s : ∀ X, (h2.set 4 X)[2]? = _ := fun X => (aF (by decide)).trans c2
  have c2' := hk.get (aC (c2s _)) (dB (by decide))
  rcases hb : r.read l[j] with _ | r'
  ·rw [hb] at hx es
   obtain ⟨n', rfl⟩ := hx
   simp only [jG]
   exact qW c0' c1' c2' rfl rfl rfl (bad _ es)
  ·rw [hb] at hx es
   obtain ⟨rfl, hr'⟩ := hx
   have hl3 := hk.1
   simp -implicitDefEqProofs only [go_sem, w5]
   exact ⟨r', _, Wk.pick (by have := aH c2'; omega) (by simp [go_sem]), es, uS i2 (bJ hs _ hm1) hb, hr', c0', c1', c2'⟩
 ·have hge := aL hlt
  rw [aT hge] at i1
  have hr4 := i3.at (n' := fr) o1
  have c0' : (h2.set 4 (.cells 145 [vecA b 3 L, .mp m, .i r.mark, .i fr, .i fr]))[0]? = some (.cells 37 [.v (.slice none 0 0)]) := by rw [aF (by omega)]; exact c0
  have c1' : (h2.set 4 (.cells 145 [vecA b 3 L, .mp m, .i r.mark, .i fr, .i fr]))[1]? = some (.cells 3 [.i 0]) := by rw [aF (by omega)]; exact c1
  have c2' : (h2.set 4 (.cells 145 [vecA b 3 L, .mp m, .i r.mark, .i fr, .i fr]))[2]? = some (.cells 39 [.i 0]) := by rw [aF (by omega)]; exact c2
  have hpg : progR l = if (r.mark == 0 && Pg.ok ⟨r.procs⟩) = true then some ⟨r.procs⟩ else none := by rw [progR, if_pos hall, i1]
  have w1 : ∀ X Y, (h2.set 4 X).set 4 Y = h2.set 4 Y := fun X Y => List.set_set ..
  rcases hm : (r.mark == 0) with _ | _
  ·have hno : progR l = none := by rw [hpg, hm]; rfl
   simp -implicitDefEqProofs only [go_sem, hlt, o1, o1_h, hm]
   refine aR hC (h114 false 4 _ (o1_h _)) fun x h' hx => ?_
   obtain ⟨rfl, hx⟩ := hx
   rcases hx with ⟨h0, -⟩ | ⟨-, n', rfl⟩
   ·cases h0
   simp only [jG]
   exact qW c0' c1' c2' rfl rfl rfl hno
  simp -implicitDefEqProofs only [go_sem, hlt, o1, o1_h, hm]
  refine aR hC (h114 true 4 _ (o1_h _)) fun x H hx => ?_
  have c0 : H[0]? = some (.cells 37 [.v (.slice none 0 0)]) := by rw [hx.1]; exact c0'
  have c1 : H[1]? = some (.cells 3 [.i 0]) := by rw [hx.1]; exact c1'
  have c2 : H[2]? = some (.cells 39 [.i 0]) := by rw [hx.1]; exact c2'
  have o1 : H[4]? = some (.cells 145 [vecA b 3 L, .mp m, .i r.mark, .i fr, .i fr]) := by rw [hx.1]; exact o1_h _
  have o3 : L = [] ∨ H[b]? = some (.buf 60 3 L) := by
   rw [hx.1]
   refine o3.imp id fun o3 => ?_
   rw [aF (aN (by assumption) o3 (by simp))]; exact o3
  rcases hx.2 with ⟨-, rfl⟩ | ⟨h0, -⟩
  rotate_left
  ·cases h0
  rw [hm, Bool.true_and] at hpg
  have q32 := h32 ⟨r.procs⟩ (fit_fits i2)
  clear hx c0' c1' c2' o1_g o1_s o1_e o1_h hr4
  have l0 := aH c0
  have l1 := aH c1
  have l2 := aH c2
  have k1 : ∀ X, (H.set 0 X)[1]? = some (.cells 3 [.i 0]) := fun X => (aF (by decide)).trans c1
  have k2 : ∀ X Y, ((H.set 0 X).set 1 Y)[2]? = some (.cells 39 [.i 0]) := fun X Y => (aF (by decide)).trans ((aF (by decide)).trans c2)
  by_cases hL : L = []
  ·have hps : r.procs = [] := List.eq_nil_of_length_eq_zero (by rw [<- hPL.len, hL]; rfl)
   subst hL
   rw [gZ] at o1
   have c0_g := fun l => aC (l := l) c0
   have c0_s := fun o l => aE (l := l) c0 o
   have c0_e := fun o l => aD (o := o) (l := l) c0
   have c0_h := fun o => aJ (o := o) c0
   have c1_g := fun l => aC (l := l) c1
   have c1_s := fun o l => aE (l := l) c1 o
   have c1_e := fun o l => aD (o := o) (l := l) c1
   have c1_h := fun o => aJ (o := o) c1
   have c2_g := fun l => aC (l := l) c2
   have c2_s := fun o l => aE (l := l) c2 o
   have c2_e := fun o l => aD (o := o) (l := l) c2
   have c2_h := fun o => aJ (o := o) c2
   have o1_g := fun l => aC (l := l) o1
   have o1_s := fun o l => aE (l := l) o1 o
   have o1_e := fun o l => aD (o := o) (l := l) o1
   have o1_h := fun o => aJ (o := o) o1
   simp -implicitDefEqProofs only [go_sem, o1]
   refine sG (args' := [encPg ⟨r.procs⟩]) ⟨by rw [hps]; exact Wd.agg ⟨Wd.nil, trivial⟩, trivial⟩ (aG hC q32 ?_)
   rcases hok : Pg.ok ⟨r.procs⟩ with _ | _
   ·have e5 : (okE false != 0) = true := rfl
    rw [hok] at hpg
    simp -implicitDefEqProofs only [go_sem, e5, c0, k1, k2]
    exact mZ c0 c1 c2 rfl rfl rfl fun h => jY (by rw [hpg]; rfl) (by decide)
   ·have e5 : (okE true != 0) = false := rfl
    rw [hok] at hpg
    simp -implicitDefEqProofs only [go_sem, e5, c0, o1, k1, k2]
    refine mZ c0 c1 c2 rfl rfl rfl fun h => ?_
    obtain ⟨y, h', hw, rfl, ey⟩ := aI (GL := GLs) (x := .tup [.agg [.v (.slice none 0 0)], .i 0, .i 0]) (v := .tup [encPg ⟨r.procs⟩, .i 0, .i 0]) (h := h) (by simp [wkr, wkrs, encPg, hps]) (by simp [go_sem, encPg])
    cases ey
    exact ⟨_, _, hw, rfl, 0, 0, by rw [hpg]; rfl, by simp [hpg]⟩
  ·have o3 := o3.resolve_left hL
   rw [bZ hL] at o1
   have c0_g := fun l => aC (l := l) c0
   have c0_s := fun o l => aE (l := l) c0 o
   have c0_e := fun o l => aD (o := o) (l := l) c0
   have c0_h := fun o => aJ (o := o) c0
   have c1_g := fun l => aC (l := l) c1
   have c1_s := fun o l => aE (l := l) c1 o
   have c1_e := fun o l => aD (o := o) (l := l) c1
   have c1_h := fun o => aJ (o := o) c1
   have c2_g := fun l => aC (l := l) c2
   have c2_s := fun o l => aE (l := l) c2 o
   have c2_e := fun o l => aD (o := o) (l := l) c2
   have c2_h := fun o => aJ (o := o) c2
   have o1_g := fun l => aC (l := l) o1
   have o1_s := fun o l => aE (l := l) o1 o
   have o1_e := fun o l => aD (o := o) (l := l) o1
   have o1_h := fun o => aJ (o := o) o1
   simp -implicitDefEqProofs only [go_sem, o1]
   have et : L.take L.length = L := List.take_of_length_le (Nat.le_refl _)
   refine ACall.freeze2 (T := 60) (Tc := 145) (x := []) (z := [.mp m, .i r.mark, .i fr, .i fr]) (l := L) (c := 4) o3 (Nat.le_refl _) o1 (Frz.inn [] [] []) ?_
   rw [et]
   refine sG (args' := [encPg ⟨r.procs⟩]) ⟨Wd.agg ⟨Wd.sl hPL.wds, trivial⟩, trivial⟩ (aG hC q32 ?_)
   have n0 : b ≠ 0 := aN o3 c0 (by simp)
   have n1 : b ≠ 1 := aN o3 c1 (by simp)
   have n2 : b ≠ 2 := aN o3 c2 (by simp)
   have n4 : b ≠ 4 := aN o3 o1 (by simp)
   have d0 : ((H.set b AObj.dead ++ [AObj.spare 60 3]).set 4 (AObj.cells 145 ([] ++ AV.sl 3 L :: [AV.mp m, AV.i r.mark, AV.i fr, AV.i fr])))[0]? = some (.cells 37 [.v (.slice none 0 0)]) := by
    rw [aF (by decide)]
    exact aC ((aF n0).trans c0)
   have d1 : ((H.set b AObj.dead ++ [AObj.spare 60 3]).set 4 (AObj.cells 145 ([] ++ AV.sl 3 L :: [AV.mp m, AV.i r.mark, AV.i fr, AV.i fr])))[1]? = some (.cells 3 [.i 0]) := by
    rw [aF (by decide)]
    exact aC ((aF n1).trans c1)
   have d2 : ((H.set b AObj.dead ++ [AObj.spare 60 3]).set 4 (AObj.cells 145 ([] ++ AV.sl 3 L :: [AV.mp m, AV.i r.mark, AV.i fr, AV.i fr])))[2]? = some (.cells 39 [.i 0]) := by
    rw [aF (by decide)]
    exact aC ((aF n2).trans c2)
   have d4 : ((H.set b AObj.dead ++ [AObj.spare 60 3]).set 4 (AObj.cells 145 ([] ++ AV.sl 3 L :: [AV.mp m, AV.i r.mark, AV.i fr, AV.i fr])))[4]? = some (.cells 145 [.sl 3 L, .mp m, .i r.mark, .i fr, .i fr]) := List.getElem?_set_self (by have := aH o1; simp; omega)
   generalize (H.set b AObj.dead ++ [AObj.spare 60 3]).set 4 (AObj.cells 145 ([] ++ AV.sl 3 L :: [AV.mp m, AV.i r.mark, AV.i fr, AV.i fr])) = H2 at d0 d1 d2 d4
   clear c0_g c0_s c0_e c0_h c1_g c1_s c1_e c1_h c2_g c2_s c2_e c2_h o1_g o1_s o1_e o1_h o1 o3 c0 c1 c2 k1 k2 l0 l1 l2
   have k1 : ∀ X, (H2.set 0 X)[1]? = some (.cells 3 [.i 0]) := fun X => (aF (by decide)).trans d1
   have k2 : ∀ X Y, ((H2.set 0 X).set 1 Y)[2]? = some (.cells 39 [.i 0]) := fun X Y => (aF (by decide)).trans ((aF (by decide)).trans d2)
   have d0_g := fun l => aC (l := l) d0
   have d0_s := fun o l => aE (l := l) d0 o
   have d0_e := fun o l => aD (o := o) (l := l) d0
   have d0_h := fun o => aJ (o := o) d0
   have d1_g := fun l => aC (l := l) d1
   have d1_s := fun o l => aE (l := l) d1 o
   have d1_e := fun o l => aD (o := o) (l := l) d1
   have d1_h := fun o => aJ (o := o) d1
   have d2_g := fun l => aC (l := l) d2
   have d2_s := fun o l => aE (l := l) d2 o
   have d2_e := fun o l => aD (o := o) (l := l) d2
   have d2_h := fun o => aJ (o := o) d2
   have d4_g := fun l => aC (l := l) d4
   have d4_s := fun o l => aE (l := l) d4 o
   have d4_e := fun o l => aD (o := o) (l := l) d4
   have d4_h := fun o => aJ (o := o) d4
   rcases hok : Pg.ok ⟨r.procs⟩ with _ | _
   ·have e5 : (okE false != 0) = true := rfl
    rw [hok] at hpg
    simp -implicitDefEqProofs only [go_sem, e5, d0, k1, k2]
    exact mZ d0 d1 d2 rfl rfl rfl fun h => jY (by rw [hpg]; rfl) (by decide)
   ·have e5 : (okE true != 0) = false := rfl
    rw [hok] at hpg
    simp -implicitDefEqProofs only [go_sem, e5, d0, d4, k1, k2]
    exact mZ d0 d1 d2 rfl rfl rfl (fin_some (by rw [hpg]; rfl) (Wd.agg ⟨Wd.sl hPL.wds, trivial⟩))
end Go.Rip
namespace Go.Rip
open Go Go.Proofs
set_option maxRecDepth 100000
variable {GL : Glob}
attribute [local irreducible] Pure
theorem same_isT {t : Tm} (h : t.nodesOk = true) : t.same (atomT trueB) = t.isT := by
 rw [Bool.eq_iff_iff, same_iff]
 obtain ⟨k, n, s, l⟩ := t
 rw [bC, Tm.nodeOk] at h
 simp only [Tm.isT, Tm.isAtom, atomT, Tm.kind, Tm.s, Tm.mk.injEq, Bool.and_eq_true, beq_iff_eq]
 refine ⟨fun ⟨a, _, c, _⟩ => ⟨a, c⟩, fun ⟨a, c⟩ => ?_⟩
 subst a
 simp [Tm.kind, Tm.bare, Tm.n, Tm.l] at h
 exact ⟨rfl, h.1.1.1, c, h.1.1.2⟩
theorem noT_snoc {l : List Tm} {j : Nat} (hj : j < l.length) : noT (l.take (j + 1)) = noT (l.take j) ++ if l[j].isT = true then [] else [l[j]] := by
 rw [bD hj, noT, List.filter_append]
 cases h : l[j].isT <;> simp [noT, h]
theorem h115 (l : List Tm) (hz : sizes l < 2 ^ 30) (hn : nodesOks l = true) : Pure (PC GL) 115 [.sl 4 (l.map enc)] (.sl 4 ((noT l).map enc)) := by
 have h4 := aQ l
 have q93 := h93 (GL := GL) trueB
 refine k115.pure (by simp) (by simp [go_sem]) (by simp [go_sem]) ?_
 simp -implicitDefEqProofs only [go_sem, c115, r115]
 refine bH hC (fun j a => [(8, .i j), (3, .own a 4 ((noT (l.take j)).map enc)), (6, .sl 4 (l.map enc)), (7, .i l.length)]) (fun j a h => h[a]? = some (.spare 24 4)) l.length ?_ fun j a h hj ha => ?_
 ·refine ⟨0, _, (Wk.own_nil (h := []) 24 4 3 (by simp [go_sem]) (Nat.zero_le _)).trans (Wk.pick (by simp) (by simp [go_sem, noT])), rfl⟩
 have ha_g := fun l => aC (l := l) ha
 have ha_s := fun o l => aE (l := l) ha o
 have ha_e := fun o l => aD (o := o) (l := l) ha
 have ha_h := fun o => aJ (o := o) ha
 simp -implicitDefEqProofs only [go_sem]
 refine aK (fun hlt => ?_) (fun hlt => ?_)
 ·have hlt := aM hlt
  have g1 := bK hlt
  have g3 := iQ (l.take j)
  have g4 : (l.take j).length <= j := by simp; omega
  have e0 := same_isT (fU hn (List.getElem_mem hlt))
  have q24 := h24 (GL := GL) l[j] (by omega) (atomT trueB)
  rw [e0] at q24
  have es := noT_snoc hlt
  have w5 : IntKind.i64.wrap ((j : Int) + 1) = (j : Int) + 1 := aP _ (by omega)
  simp -implicitDefEqProofs only [go_sem, hlt, aS]
  refine aG hC q93 ?_
  simp -implicitDefEqProofs only [go_sem]
  refine aG hC q24 ?_
  rcases ht : l[j].isT with _ | _
  ·rw [ht] at es
   simp -implicitDefEqProofs only [go_sem, List.append_assoc, ha_g, ha_s, Bool.not_false, cP]
   refine ⟨by simp; omega, ?_⟩
   refine ⟨h.length + 2, _, Wk.pick (Nat.zero_le _) (by simp [go_sem, w5, es]), ?_⟩
   rw [cX (by simp)]; simp
  ·rw [ht] at es
   simp -implicitDefEqProofs only [go_sem, Bool.not_true, w5]
   exact ⟨a, _, Wk.pick (Nat.zero_le _) (by simp [go_sem, es]), aC ha⟩
 ·have hge := aL hlt
  simp -implicitDefEqProofs only [go_sem, hlt]
  rw [aT hge]
  refine aI ?_ (by simp [go_sem])
  simp [go_sem]
theorem h48e (h : List AObj) : Gives (PC GL) 48 [.sl 5 []] h fun y h' => y = .sl 5 [] /\ Keep (fun _ _ => False) h h' := by
 refine ACall.sl_nil fun p c => ?_
 have h0 : Gives (PC GL) 48 [.v (.slice p 0 c)] h fun y h' => y = .sl 5 [] /\ Keep (fun _ _ => False) h h' := by
  refine k48.gives (by simp) ?_
  cases p with
  | none =>
   simp -implicitDefEqProofs only [go_sem, c48, r48, Option.isNone_none]
   exact vV (Nat.le_refl _) Wd.nil ⟨rfl, Keep.refl _ _⟩
  | some p =>
   simp -implicitDefEqProofs only [go_sem, c48, r48, Option.isNone_some, wI, gV, List.replicate_zero]
   exact ⟨⟨by omega, by omega⟩, nY (l := []) (T := 68) (s' := 5) (eM _ _) (by simp) (by simp) ⟨rfl, (Keep.app _ h _).freeze _ _ (Nat.le_refl _)⟩⟩
 exact h0
def BP (h : List AObj) (q : Pr) (v : AV) : Prop := ∃ x, v = .agg [.str q.name, .i q.arity, x] /\ (x = .sl 5 [] /\ q.clauses = [] ∨ ∃ b, x = .vec b 5 q.clauses.length /\ h[b]? = some (.buf 68 5 (q.clauses.map encCl)))
def BL (h : List AObj) : List Pr -> List AV -> Prop
 | [], [] => True
 | q :: r, v :: l => BP h q v /\ BL h r l
 | _, _ => False
theorem BP.keep {h h' : List AObj} {q : Pr} {v : AV} (hb : BP h q v) (hk : ∀ (b : Nat) (l : List AV), h[b]? = some (AObj.buf 68 5 l) -> h'[b]? = some (AObj.buf 68 5 l)) : BP h' q v := by
 obtain ⟨x, e, hx⟩ := hb
 exact ⟨x, e, hx.imp id fun ⟨b, e1, e2⟩ => ⟨b, e1, hk _ _ e2⟩⟩
theorem BL.keep {h h' : List AObj} (hk : ∀ (b : Nat) (l : List AV), h[b]? = some (AObj.buf 68 5 l) -> h'[b]? = some (AObj.buf 68 5 l)) : ∀ {ps : List Pr} {L : List AV}, BL h ps L -> BL h' ps L
 | [], [], _ => trivial
 | _ :: _, _ :: _, ⟨a, b⟩ => ⟨a.keep hk, BL.keep hk b⟩
theorem BL.len {h : List AObj} : ∀ {ps : List Pr} {L : List AV}, BL h ps L -> L.length = ps.length
 | [], [], _ => rfl
 | _ :: _, _ :: _, h => by simp [BL.len h.2]
theorem BL.app {h : List AObj} : ∀ {ps qs : List Pr} {L M : List AV}, BL h ps L -> BL h qs M -> BL h (ps ++ qs) (L ++ M)
 | [], _, [], _, _, k => k
 | _ :: _, _, _ :: _, _, g, k => ⟨g.1, BL.app g.2 k⟩
theorem BP.fz {h : List AObj} {q : Pr} {v : AV} (hb : BP h q v) : fzN h 1 v = encPr q := by
 obtain ⟨x, rfl, ⟨rfl, e⟩ | ⟨b, rfl, e⟩⟩ := hb
 ·simp [fzN, fzG, fzGs, encPr, e]
 ·have e1 : (q.clauses.map encCl).map Go.Rip.fz = q.clauses.map encCl := by
   rw [List.map_map]
   exact List.map_congr_left fun c _ => fzG_encCl _ c
  have e2 : fzN h 0 = Go.Rip.fz := rfl
  have e3 : (q.clauses.map encCl).take q.clauses.length = q.clauses.map encCl := List.take_of_length_le (by simp)
  simp only [fzN, fzG, fzGs, encPr, e, e3, e1, List.length_map, cV]
theorem BL.fz {h : List AObj} : ∀ {ps : List Pr} {L : List AV}, BL h ps L -> L.map (fzN h 1) = ps.map encPr
 | [], [], _ => rfl
 | _ :: _, _ :: _, g => by simp [g.1.fz, BL.fz g.2]
theorem fzN_vec {h : List AObj} {k s s' : Nat} {T : TypeId} {l : List AV} (n : Nat) (hk : h[k]? = some (.buf T s' l)) : fzN h (n + 1) (.agg [.vec k s l.length]) = .agg [.sl s (l.map (fzN h n))] := by
 simp only [fzN, fzG, fzGs, hk, cV, List.take_length]
theorem fin_bare {ps : List Pr} {L : List AV} {h : List AObj} {a : Nat} (ha : L = [] ∨ h[a]? = some (.buf 60 3 L)) (hb : BL h ps L) :
  ∃ y h', Wk GL 0 [(0, .agg [vecA a 3 L])] h [(0, y)] h' /\ h' = [] /\ ARes.val y = ARes.val (encPg ⟨ps⟩) := by
 have hl := hb.len
 by_cases h0 : L = []
 ·have e : ps = [] := List.eq_nil_of_length_eq_zero (by rw [<- hl, h0]; rfl)
  rw [h0, e]
  exact aI (by simp [vecA, wkr, wkrs, encPg]) (by simp [go_sem, encPg])
 ·have ha := ha.resolve_left h0
  have e1 : fzN h 2 (.agg [.vec a 3 L.length]) = encPg ⟨ps⟩ := by
   rw [fzN_vec 1 ha, hb.fz]; rfl
  rw [bZ h0]
  have hbd : bd 0 (fzN h 2 (.agg [.vec a 3 L.length])) := by rw [e1]; simp [go_sem, encPg]
  have := Wk.fzN (GL := GL) 2 hbd
  rw [e1] at this
  exact ⟨_, [], this, rfl, rfl⟩
theorem h48u (l : List Cl) (hl : l.length <= 120) (h : List AObj) : Gives (PC GL) 48 [.sl 5 (l.map encCl)] h fun y h' => ((∀ h'' : List AObj, lenA h'' .sl y = some l.length) /\ y.solid = true /\ y.cells = [y] /\ ∀ r, loadA false 1 (y :: r) = some y) /\ Keep All h h' /\
  (y = .sl 5 [] /\ l = [] ∨ ∃ b, h.length <= b /\ y = .vec b 5 l.length /\ h'[b]? = some (.buf 68 5 (l.map encCl))) := by
 cases l with
 | nil =>
  refine ACall.mono _ _ _ _ _ ?_ (h48e h)
  rintro r h' ⟨x, rfl, rfl, hk⟩
  exact ⟨_, rfl, ⟨fun _ => rfl, rfl, rfl, fun _ => rfl⟩, ⟨hk.1, fun i o hi hn => hk.2 i o hi fun e => e⟩, .inl ⟨rfl, rfl⟩⟩
 | cons c l =>
  refine ACall.mono _ _ _ _ _ ?_ (h48 (encCl c) (l.map encCl) (by simp at hl; simp; omega) h)
  rintro r h' ⟨x, rfl, rfl, rfl⟩
  exact ⟨_, rfl, ⟨fun _ => by simp [lenA], rfl, rfl, fun _ => rfl⟩, Keep.app _ _ _, .inr ⟨h.length + 1, by omega, by simp, by simp⟩⟩
theorem set_bare {l : List Cl} {i : Nat} (h : i < l.length) : ((l.take i).map Cl.bareC ++ l.drop i).set i l[i].bareC = (l.take (i + 1)).map Cl.bareC ++ l.drop (i + 1) := by
 rw [List.drop_eq_getElem_cons h, List.set_append_right _ _ (by simp; omega), bD h, List.map_append]
 have e : i - ((l.take i).map Cl.bareC).length = 0 := by simp; omega
 rw [e, List.set_cons_zero, List.append_assoc]
 rfl
theorem get_bare {l : List Cl} {i : Nat} (h : i < l.length) : ((l.take i).map Cl.bareC ++ l.drop i)[i]? = some l[i] := by
 rw [List.drop_eq_getElem_cons h, List.getElem?_append_right (by simp; omega)]
 have e : i - ((l.take i).map Cl.bareC).length = 0 := by simp; omega
 rw [e]; rfl
theorem h31 (p : Pg) (hp : p.small) (hok : p.ok = true) : Pure (PC GLs) 31 [encPg p] (encPg p.bare) := by
 have hl := hp.l
 refine k31.pure (by simp) (by simp [go_sem, encPg]) (by simp [go_sem, encPg]) ?_
 have es0 : ∀ j (hj : j < p.procs.length), (p.procs.take (j + 1)).map Pr.bareP = (p.procs.take j).map Pr.bareP ++ [p.procs[j].bareP] := fun j hj => by rw [bD hj, List.map_append]; rfl
 simp -implicitDefEqProofs only [go_sem, c31, r31, encPg]
 refine bH hC (fun j (_ : Nat) => [(12, .i j), (10, .sl 3 (p.procs.map encPr)), (11, .i p.procs.length), (2, .ref 1 0), (4, .ref 2 0), (3, .fn (.func 115) [] [])])
  (fun j a h' => h'[1]? = some (.cells 37 [.v (.slice none 0 0)]) /\ ∃ L, h'[2]? = some (.cells 37 [vecA a 3 L]) /\ (L = [] ∨ h'[a]? = some (.buf 60 3 L)) /\ BL h' ((p.procs.take j).map Pr.bareP) L) p.procs.length ?_ fun j a h2 hj ⟨f1, L, f2, f3, f4⟩ => ?_
 ·exact ⟨0, _, Wk.pick (Nat.zero_le _) (by simp [go_sem]), rfl, [], rfl, .inl rfl, trivial⟩
 have f1_g := fun l => aC (l := l) f1
 have f1_s := fun o l => aE (l := l) f1 o
 have f1_e := fun o l => aD (o := o) (l := l) f1
 have f1_h := fun o => aJ (o := o) f1
 have f2_g := fun l => aC (l := l) f2
 have f2_s := fun o l => aE (l := l) f2 o
 have f2_e := fun o l => aD (o := o) (l := l) f2
 have f2_h := fun o => aJ (o := o) f2
 simp -implicitDefEqProofs only [go_sem]
 refine aK (fun hlt => ?_) (fun hlt => ?_)
 ·have hlt := aM hlt
  have w5 : IntKind.i64.wrap ((j : Int) + 1) = (j : Int) + 1 := aP _ (by omega)
  have hq := List.getElem_mem hlt
  have hqs := hp.q _ hq
  have es := es0 j hlt
  have hcl := hqs.c
  simp -implicitDefEqProofs only [go_sem, hlt, aS, encPr]
  refine aU hC (h48u p.procs[j].clauses hcl _) fun X h3 hX => ?_
  obtain ⟨⟨hlen, hso, hce, hlo⟩, hk, hX⟩ := hX
  have g1 := hk.got (f1_g _)
  have g2 := hk.got (f2_g _)
  have g6 := hk.got (eM h2 _)
  have hkl : h2.length < h3.length := by have := hk.1; simp at this; omega
  clear f1_g f1_s f1_e f1_h f2_g f2_s f2_e f2_h
  have g1_g := fun l => aC (l := l) g1
  have g1_s := fun o l => aE (l := l) g1 o
  have g1_e := fun o l => aD (o := o) (l := l) g1
  have g1_h := fun o => aJ (o := o) g1
  have g2_g := fun l => aC (l := l) g2
  have g2_s := fun o l => aE (l := l) g2 o
  have g2_e := fun o l => aD (o := o) (l := l) g2
  have g2_h := fun o => aJ (o := o) g2
  have g6_g := fun l => aC (l := l) g6
  have g6_s := fun o l => aE (l := l) g6 o
  have g6_e := fun o l => aD (o := o) (l := l) g6
  have g6_h := fun o => aJ (o := o) g6
  simp -implicitDefEqProofs only [go_sem, g6, g6_h, hlen, hso, hce, hlo]
  refine bH hC (fun i (_ : Unit) => [(23, .i i), (21, X), (22, .i p.procs[j].clauses.length), (6, .ref h2.length 0), (2, .ref 1 0), (4, .ref 2 0), (3, .fn (.func 115) [] []), (12, .i j), (10, .sl 3 (p.procs.map encPr)), (11, .i p.procs.length)])
   (fun i (_ : Unit) h' => Keep All h2 h' /\ h'[h2.length]? = some (.cells 60 [.str p.procs[j].name, .i p.procs[j].arity, X]) /\
    (X = .sl 5 [] /\ p.procs[j].clauses = [] ∨ ∃ b, h2.length < b /\ X = .vec b 5 p.procs[j].clauses.length /\ h'[b]? = some (.buf 68 5 (((p.procs[j].clauses.take i).map Cl.bareC ++ p.procs[j].clauses.drop i).map encCl)))) p.procs[j].clauses.length ?_ fun i _ h4 hi ⟨v1, v2, v3⟩ => ?_
  ·refine ⟨(), _, Wk.pick (Nat.zero_le _) (by simp [go_sem]), ?_, g6_h _, ?_⟩
   ·refine ⟨by simp; omega, fun i o hi _ => ?_⟩
    rw [aF (by have := aH hi; omega)]
    exact hk.got (aC hi)
   ·refine hX.imp id fun ⟨b, e1, e2, e3⟩ => ⟨b, by simp at e1; omega, e2, ?_⟩
    rw [aF (by simp at e1; omega)]
    simpa using e3
  clear g1_g g1_s g1_e g1_h g2_g g2_s g2_e g2_h g6_g g6_s g6_e g6_h hX hk hkl g1 g2 g6
  have d1 := v1.got f1
  have d2 := v1.got f2
  simp -implicitDefEqProofs only [go_sem]
  refine aK (fun hlt2 => ?_) (fun hlt2 => ?_)
  ·have hlt2 := aM hlt2
   have w6 : IntKind.i64.wrap ((i : Int) + 1) = (i : Int) + 1 := aP _ (by omega)
   rcases v3 with ⟨-, v3⟩ | ⟨b, hb, rfl, v3⟩
   ·rw [v3] at hlt2; cases hlt2
   have em : ((p.procs[j].clauses.take i).map Cl.bareC ++ p.procs[j].clauses.drop i).set i p.procs[j].clauses[i].bareC = (p.procs[j].clauses.take (i + 1)).map Cl.bareC ++ p.procs[j].clauses.drop (i + 1) := set_bare hlt2
   have ei : ((p.procs[j].clauses.take i).map Cl.bareC ++ p.procs[j].clauses.drop i)[i]? = some p.procs[j].clauses[i] := get_bare hlt2
   have el : ((p.procs[j].clauses.take i).map Cl.bareC ++ p.procs[j].clauses.drop i).length = p.procs[j].clauses.length := by simp; omega
   rw [<- em]
   generalize (p.procs[j].clauses.take i).map Cl.bareC ++ p.procs[j].clauses.drop i = M at *
   have e1 : Nat.ble p.procs[j].clauses.length M.length = true := by rw [el]; exact cV _
   have e2 : (M.map encCl).take p.procs[j].clauses.length = M.map encCl := List.take_of_length_le (by simp; omega)
   have e3 : (M.map encCl)[i]? = some (encCl p.procs[j].clauses[i]) := by rw [List.getElem?_map, ei]; rfl
   have hcm := List.getElem_mem hlt2
   have hct := hqs.t _ hcm
   obtain ⟨a1, a2, a3, a4⟩ := iD hok
   have hno : nodesOks p.procs[j].clauses[i].parts = true := by
    have hto := cZ (nD (a4 _ hq _ hcm).1).2
    simp only [termsOk, Bool.and_eq_true] at hto; exact hto.1
   simp only [Cl.parts, bB, cA, Bool.and_eq_true] at hct hno
   have q1 := h115 (GL := GLs) p.procs[j].clauses[i].guard (by omega) hno.2.1
   have q2 := h115 (GL := GLs) p.procs[j].clauses[i].body (by omega) hno.2.2
   have hbk : h2.length ≠ b := by omega
   have hlk := aH v2
   have v2_g := fun l => aC (l := l) v2
   have v2_s := fun o l => aE (l := l) v2 o
   have v2_e := fun o l => aD (o := o) (l := l) v2
   have v2_h := fun o => aJ (o := o) v2
   have v3_g := fun l => aC (l := l) v3
   have v3_s := fun o l => aE (l := l) v3 o
   have v3_e := fun o l => aD (o := o) (l := l) v3
   have v3_h := fun o => aJ (o := o) v3
   simp -implicitDefEqProofs only [go_sem, hlt2, v3, cV, e2, e3, encCl, el, bnd hlt2]
   refine aG hC q1 ?_
   simp -implicitDefEqProofs only [go_sem]
   refine aG hC q2 ?_
   simp -implicitDefEqProofs only [go_sem, v2_g, v3_g, v3_s, cV, e2, e3, encCl, el, bnd hlt2]
   refine ⟨(), _, Wk.pick (Nat.zero_le _) (by simp [go_sem, w6]), (v1.turn _ v3 (Nat.le_of_lt hb)).trans (Keep.app _ _ _), aC ((aF hbk.symm).trans v2), .inr ⟨b, hb, rfl, (v3_e _ _).trans ?_⟩⟩
   rw [List.map_set]; rfl
  ·have hge2 := aL hlt2
   have hx : BP h4 p.procs[j].bareP (.agg [.str p.procs[j].name, .i p.procs[j].arity, X]) := ⟨X, rfl, v3.imp (fun v => ⟨v.1, by simp [Pr.bareP, v.2]⟩) fun ⟨b, _, e1, e2⟩ => ⟨b, by simp [Pr.bareP, e1], by rw [e2, aT hge2, List.drop_eq_nil_of_le hge2]; simp [Pr.bareP]⟩⟩
   have ll := f4.len
   simp at ll
   by_cases hL : L = []
   ·subst hL
    rw [gZ] at d2
    have v2_g := fun l => aC (l := l) v2
    have v2_s := fun o l => aE (l := l) v2 o
    have v2_e := fun o l => aD (o := o) (l := l) v2
    have v2_h := fun o => aJ (o := o) v2
    have d2_g := fun l => aC (l := l) d2
    have d2_s := fun o l => aE (l := l) d2 o
    have d2_e := fun o l => aD (o := o) (l := l) d2
    have d2_h := fun o => aJ (o := o) d2
    simp -implicitDefEqProofs only [go_sem, hlt2, List.append_assoc, v2, d2, d2_g, d2_s, w5, cP]
    have keep : ∀ (b : Nat) (l : List AV), h4[b]? = some (AObj.buf 68 5 l) -> ∀ Y Z, (h4.set 2 Y ++ Z)[b]? = some (AObj.buf 68 5 l) := fun b l hb Y Z => aC ((aF (aN d2 hb (by simp))).trans hb)
    refine ⟨by decide, h4.length + 1, _, Wk.pick (Nat.zero_le _) (by simp [go_sem]), aC ((aF (by decide)).trans (v1.got f1)), [.agg [.str p.procs[j].name, .i p.procs[j].arity, X]], (d2_e _ _).trans (by simp [vecA]), .inr (by rw [cX (by simp)]; simp), ?_⟩
    rw [es]
    exact BL.app (f4.keep fun b l hb => keep b l (v1.got hb) _ _) ⟨hx.keep fun b l hb => keep b l hb _ _, trivial⟩
   ·have f3 := f3.resolve_left hL
    have d3 := v1.got f3
    rw [bZ hL] at d2
    have v2_g := fun l => aC (l := l) v2
    have v2_s := fun o l => aE (l := l) v2 o
    have v2_e := fun o l => aD (o := o) (l := l) v2
    have v2_h := fun o => aJ (o := o) v2
    have d2_g := fun l => aC (l := l) d2
    have d2_s := fun o l => aE (l := l) d2 o
    have d2_e := fun o l => aD (o := o) (l := l) d2
    have d2_h := fun o => aJ (o := o) d2
    have d3_g := fun l => aC (l := l) d3
    have d3_s := fun o l => aE (l := l) d3 o
    have d3_e := fun o l => aD (o := o) (l := l) d3
    have d3_h := fun o => aJ (o := o) d3
    have h2a : 2 ≠ a := aN d2 d3 (by simp)
    have g2 : ∀ D l, (h4.set a D ++ l)[2]? = some (.cells 37 [.vec a 3 L.length]) := fun D l => aC ((aF h2a.symm).trans d2)
    have s2 : ∀ D Y l, (h4.set a D ++ l).set 2 Y = (h4.set a D).set 2 Y ++ l := fun D Y l => cK (by simpa using aH d2)
    simp -implicitDefEqProofs only [go_sem, hlt2, List.append_assoc, v2, d2, d3_g, d3_s, w5, cP, g2, s2]
    have keep : ∀ (b : Nat) (l : List AV), h4[b]? = some (AObj.buf 68 5 l) -> ∀ D Y Z, ((h4.set a D).set 2 Y ++ Z)[b]? = some (AObj.buf 68 5 l) := fun b l hb D Y Z => aC ((aF (aN d2 hb (by simp))).trans ((aF (aN d3 hb (by simp))).trans hb))
    refine ⟨by omega, h4.length + 1, _, Wk.pick (Nat.zero_le _) (by simp [go_sem]), aC ((aF (by decide)).trans ((aF (aN (v1.got f1) d3 (by simp)).symm).trans (v1.got f1))), L ++ [.agg [.str p.procs[j].name, .i p.procs[j].arity, X]], ?_, .inr (by rw [cX (by simp)]; simp), ?_⟩
    ·rw [aC (List.getElem?_set_self (by simpa using aH d2)), cG]
    ·rw [es]
     exact BL.app (f4.keep fun b l hb => keep b l (v1.got hb) _ _ _) ⟨hx.keep fun b l hb => keep b l hb _ _ _, trivial⟩
 ·have hge := aL hlt
  rw [aT hge] at f4
  simp -implicitDefEqProofs only [go_sem, hlt, f1, f1_h, f2]
  exact fin_bare (ps := p.procs.map Pr.bareP) (f3.imp id fun f3 => (aF (aN f1 f3 (by simp))).trans f3) (f4.keep fun b l hb => (aF (aN f1 hb (by simp))).trans hb)
end Go.Rip
namespace Go.Rip
open Go Go.Proofs
theorem strss_iff : ∀ {l : List Tm}, strss l ↔ ∀ x ∈ l, x.strs
 | [] => by simp [strss]
 | t :: r => by simp [strss, strss_iff (l := r)]
def Pg.strs (p : Pg) : Prop := ∀ q ∈ p.procs, ∀ c ∈ q.clauses, strss c.parts
theorem sY {c : Cl} {ar : Int} (h : c.ok ar = true) : sizes c.parts <= 400 := by
 have h1 := (nD h).2
 simp only [Cl.shaped, Bool.and_eq_true, Bool.not_eq_true', decide_eq_false_iff_not] at h1
 omega
theorem oU {p : Pg} (hok : p.ok = true) (hs : p.strs) : p.small := by
 obtain ⟨a1, a2, a3, a4⟩ := iD hok
 refine ⟨by omega, fun q hq => ?_⟩
 have hf := fine_iff.1 (a3 _ hq)
 exact ⟨by have := jO hf.1; omega, by omega, fun c hc => ⟨by have := sY (a4 _ hq _ hc).1; omega, hs _ hq _ hc⟩⟩
theorem bare_strs {p : Pg} (hs : p.strs) : p.bare.strs := by
 intro q hq c hc
 obtain ⟨q0, h0, rfl⟩ := List.mem_map.1 hq
 obtain ⟨c0, h1, rfl⟩ := List.mem_map.1 hc
 have := hs _ h0 _ h1
 simp only [Cl.parts, cF] at this
 simp only [Cl.parts, Cl.bareC, cF]
 exact ⟨this.1, strss_iff.2 fun x hx => bJ this.2.1 x (mem_noT.1 hx).1, strss_iff.2 fun x hx => bJ this.2.2 x (mem_noT.1 hx).1⟩
theorem qZ : ∀ {l : List Tm} {r r' : Rd}, RdFit r -> strss l -> readL l r = some r' -> RdFit r'
 | [], r, r', h, _, e => by cases e; exact h
 | t :: l, r, r', h, hs, e => by
  rw [readL] at e
  cases h1 : r.read t with
  | none => rw [h1] at e; cases e
  | some r1 => rw [h1] at e; exact qZ (uS h hs.1 h1) hs.2 e
theorem qX {l : List Tm} {q : Pg} (hs : strss l) (h : progR l = some q) : q.strs := by
 rw [progR] at h
 split at h
 ·split at h
  ·rename_i r e
   split at h
   ·cases h
    have := qZ ⟨by simp, fun q hq => by cases hq⟩ hs e
    exact fun q hq c hc => ((this.2 q hq).2.2 c hc).2
   ·cases h
  ·cases h
 ·cases h
theorem jH {α : Type} (f : α -> List Tm) (n : Nat) : ∀ l : List α, (∀ x ∈ l, sizes (f x) <= n) -> sizes (l.flatMap f) <= n * l.length
 | [], _ => by simp [sizes]
 | x :: r, h => by
  have h1 := h x (by simp)
  have h2 := jH f n r fun y hy => h y (by simp [hy])
  rw [List.flatMap_cons, bB, List.length_cons, Nat.mul_succ]; omega
theorem qS : ∀ l : List Tm, sizes (noT l) <= sizes l
 | [] => Nat.le_refl _
 | t :: r => by
  have := qS r
  rw [show t :: r = [t] ++ r from rfl, kW, bB, bB]
  have : sizes (noT [t]) <= sizes [t] := by
   cases h : t.isT <;> simp [noT, h, sizes]
  omega
theorem pY (l : List Tm) : (joinT l).size <= 2 * sizes l + 1 := by
 have h1 := iJ (noT l)
 have h2 := qS l
 have h3 := aQ (noT l)
 rw [joinT]; omega
theorem writ_size (s : List UInt8) (c : Cl) : (writT s c).size <= 5 + 2 * sizes c.parts := by
 have h1 := pY c.guard
 have h2 := pY c.body
 have h3 : (headT s c.head).size = 1 + sizes c.head := by
  cases c.head <;> simp [headT, atomT, funT, Tm.size, sizes]; omega
 simp only [Cl.parts, bB]
 rw [writT]
 split
 ·simp only [funT, Tm.size, sizes]; omega
 ·split
  ·simp only [funT, Tm.size, sizes]; omega
  ·omega
theorem jC {p : Pg} (hok : p.ok = true) : sizes p.terms < 2 ^ 27 := by
 obtain ⟨a1, a2, a3, a4⟩ := iD hok
 have h1 := jH prTs 28900 p.procs fun q hq => by
  have h2 := jH (clTs q.name) 900 q.clauses fun c hc => by
   have h3 := writ_size q.name c
   have h4 := sY (a4 _ hq _ hc).1
   rw [clTs]
   split
   ·simp only [sizes]; omega
   ·simp only [sizes, markT, atomT, Tm.size]; omega
  have h5 := (fine_iff.1 (a3 _ hq)).2.2.2.2
  simp only [prTs, sizes, declT, funT, atomT, intT, Tm.size]
  omega
 rw [Pg.terms]; omega
theorem qY {α : Type} (f : α -> List Tm) (l : List α) (h : ∀ x ∈ l, strss (f x)) : strss (l.flatMap f) := strss_iff.2 fun t ht => by
 obtain ⟨x, hx, hm⟩ := List.mem_flatMap.1 ht
 exact bJ (h x hx) t hm
theorem pZ : ∀ l : List Tm, strss l -> (conjT l).strs
 | [], _ => ⟨by decide, trivial⟩
 | [t], h => h.1
 | t :: u :: r, h => ⟨by decide, h.1, pZ (u :: r) h.2, trivial⟩
theorem qA {l : List Tm} (h : strss l) : (joinT l).strs := pZ _ (strss_iff.2 fun x hx => bJ h x (mem_noT.1 hx).1)
theorem writ_strs {s : List UInt8} {c : Cl} (hs : s.length < 2 ^ 30) (h : strss c.parts) : (writT s c).strs := by
 simp only [Cl.parts, cF] at h
 have h1 : (headT s c.head).strs := by
  cases e : c.head with
  | nil => exact ⟨hs, trivial⟩
  | cons x r => exact ⟨hs, e ▸ h.1⟩
 have h2 := qA h.2.1
 have h3 := qA h.2.2
 rw [writT]
 split
 ·exact ⟨by decide, h1, ⟨by decide, h2, h3, trivial⟩, trivial⟩
 ·split
  ·exact ⟨by decide, h1, h3, trivial⟩
  ·exact h1
theorem jD {p : Pg} (hok : p.ok = true) (hs : p.strs) : strss p.terms := by
 obtain ⟨a1, a2, a3, a4⟩ := iD hok
 refine qY _ _ fun q hq => ?_
 have hn : q.name.length < 2 ^ 30 := by have := jO (fine_iff.1 (a3 _ hq)).1; omega
 refine ⟨⟨by decide, ⟨by decide, ⟨hn, trivial⟩, ⟨by decide, trivial⟩, trivial⟩, trivial⟩, qY _ _ fun c hc => ?_⟩
 have hw := writ_strs hn (hs _ hq _ hc)
 rw [clTs]
 split
 ·exact ⟨hw, trivial⟩
 ·refine ⟨⟨?_, trivial⟩, hw, trivial⟩
  split <;> decide
end Go.Rip
namespace Go.Rip
open Go Go.Proofs
set_option maxRecDepth 100000
attribute [local irreducible] Pure
theorem h29 (l : List Tm) (hz : sizes l < 2 ^ 27) (hs : strss l) (h : List AObj) : Gives (PC GLs) 29 [.sl 4 (l.map enc)] h fun x h' => h' = h /\ ∃ a e, x = .tup [encPg ((progR l).getD ⟨[]⟩), .i a, .i e] /\ (e = 0 ↔ (progR l).isSome = true) := by
 refine ACall.mono _ _ _ _ _ ?_ (mG (by simp [go_sem]) (h29c l hz hs) h)
 rintro r h' ⟨r0, h0, ⟨rfl, a, e, rfl, he⟩, rfl, rfl⟩
 exact ⟨_, rfl, by simp, a, e, dI _ (by simp [go_sem, encPg]), he⟩
theorem h4 (p : Pg) (l : List Tm) (hp : p.wid) (hw : wids l) (hl : l.length <= 2 ^ 47) : Pure (PC GLs) 4 [encPg p, .sl 4 (l.map enc)] (.b true) := by
 have f2 := h17 (GL := GLs) [l] 5000 (by simp [hw, hl]) (by simp) (by omega)
 have q27 := fun h => h27 (GL := GLs) p hp h
 simp only [encPg] at q27
 refine k4.pure (by simp) (by simp [go_sem, encPg]) (by simp [go_sem]) ?_
 simp -implicitDefEqProofs only [go_sem, c4, r4, encPg]
 refine aG hC sane_ok ?_
 simp -implicitDefEqProofs only [go_sem, Bool.not_true]
 refine aU hC (q27 _) fun x h1 ⟨b, hx, hk1, hb⟩ => ?_
 subst hx
 have o1 := hk1.got (i := 0) rfl
 have o1_g := fun l => aC (l := l) o1
 have o1_s := fun o l => aE (l := l) o1 o
 have o1_e := fun o l => aD (o := o) (l := l) o1
 have o1_h := fun o => aJ (o := o) o1
 rcases b with _ | _
 ·simp -implicitDefEqProofs only [go_sem, Bool.not_false]
  refine aI ?_ ?_ <;> simp [go_sem]
 have hps := hb rfl
 by_cases h200 : l.length <= 200
 rotate_left
 ·have d1 : decide ((l.length : Int) > 200) = true := decide_eq_true (by omega)
  simp -implicitDefEqProofs only [go_sem, Bool.not_true, d1]
  refine aI ?_ ?_ <;> simp [go_sem]
 have d1 : decide ((l.length : Int) > 200) = false := decide_eq_false (by omega)
 simp -implicitDefEqProofs only [go_sem, Bool.not_true, d1, cP]
 refine dC f2 ?_ ?_
 ·simp [fzs, fzGs, fzG, encL, cY, <- dL]
 rcases hc2 : cnts [l].flatten 5000 1 with ⟨_ | _, y⟩
 ·simp -implicitDefEqProofs only [go_sem, Bool.not_false]
  refine aI ?_ ?_ <;> simp [go_sem]
 have hy := dX l 5000 1 y (by omega) (by simpa using hc2)
 have hsz : sizes l < 2 ^ 27 := by omega
 have hst := hy.2.2
 have hpst : p.strs := fun q hq c hc => ((hps.q q hq).t c hc).2
 have q28 := h28 p hps.fits
 simp only [encPg] at q28
 clear hb q27 f2 hc2 hk1
 simp -implicitDefEqProofs only [go_sem, Bool.not_true, o1_g]
 refine aG hC q28 ?_
 rcases hok : p.ok with _ | _
 ·have e0 : (okE false == 0) = false := rfl
  simp -implicitDefEqProofs only [go_sem, e0]
  refine aU hC (h29 l hsz hst _) fun x H hx => ?_
  obtain ⟨-, a, e, rfl, he⟩ := hx
  rcases hq : progR l with _ | q
  ·rw [hq] at he
   have en : e ≠ 0 := fun e0 => by have := he.1 e0; cases this
   have e1 : (e != 0) = true := by simp [en]
   simp -implicitDefEqProofs only [go_sem, Option.getD_none, encPg, List.map_nil, e1]
   refine aI ?_ ?_ <;> simp [go_sem]
  rw [hq] at he
  obtain rfl : e = 0 := he.2 rfl
  have hqs := qX hst hq
  obtain ⟨hqo, hag⟩ := oH hq
  have hqm := oU hqo hqs
  have r32 := h32 q hqm.fits
  have r28 := h28 q hqm.fits
  have r29 := h29 q.terms (jC hqo) (jD hqo hqs)
  have r30 := h30g (GL := GLs) q q hqm hqm
  have f0 : okE true = 0 := rfl
  rw [hag] at r29
  rw [pL] at r30
  rw [hqo, f0] at r28 r32
  simp only [encPg] at r28 r30 r32
  simp -implicitDefEqProofs only [go_sem, Option.getD_some, encPg, bne_self_eq_false]
  refine aG hC r32 ?_
  simp -implicitDefEqProofs only [go_sem, bne_self_eq_false]
  refine aG hC r28 ?_
  simp -implicitDefEqProofs only [go_sem, if_pos]
  refine aU hC (r29 _) fun x H2 hx => ?_
  obtain ⟨rfl, a2, e2, rfl, he2⟩ := hx
  obtain rfl : e2 = 0 := he2.2 rfl
  simp -implicitDefEqProofs only [go_sem, aO, bI, List.append_assoc, Option.getD_some, encPg, beq_self_eq_true]
  refine aG hC r30 ?_
  simp -implicitDefEqProofs only [go_sem]
  refine aI ?_ ?_ <;> simp [go_sem]
 ·have e0 : (okE true == 0) = true := rfl
  have q29 := h29 p.terms (jC hok) (jD hok hpst)
  have q31 := h31 p hps hok
  have hbs := oU (bare_ok hok) (bare_strs hpst)
  have q30 := h30g (GL := GLs) p.bare p.bare hbs hbs
  rw [oS hok] at q29
  rw [pL] at q30
  simp only [encPg] at q31 q30
  simp -implicitDefEqProofs only [go_sem, e0, if_pos]
  refine aU hC (q29 _) fun x H hx => ?_
  obtain ⟨rfl, a, e, rfl, he⟩ := hx
  obtain rfl : e = 0 := he.2 rfl
  simp -implicitDefEqProofs only [go_sem, aO, bI, List.append_assoc, o1_g, Option.getD_some, encPg, bne_self_eq_false]
  refine aG hC q31 ?_
  simp -implicitDefEqProofs only [go_sem, aO]
  refine aG hC q30 ?_
  simp -implicitDefEqProofs only [go_sem, Bool.not_true]
  refine aU hC (h29 l hsz hst _) fun x H hx => ?_
  obtain ⟨-, a, e, rfl, he⟩ := hx
  rcases hq : progR l with _ | q
  ·rw [hq] at he
   have en : e ≠ 0 := fun e0 => by have := he.1 e0; cases this
   have e1 : (e != 0) = true := by simp [en]
   simp -implicitDefEqProofs only [go_sem, Option.getD_none, encPg, List.map_nil, e1]
   refine aI ?_ ?_ <;> simp [go_sem]
  rw [hq] at he
  obtain rfl : e = 0 := he.2 rfl
  have hqs := qX hst hq
  obtain ⟨hqo, hag⟩ := oH hq
  have hqm := oU hqo hqs
  have r32 := h32 q hqm.fits
  have r28 := h28 q hqm.fits
  have r29 := h29 q.terms (jC hqo) (jD hqo hqs)
  have r30 := h30g (GL := GLs) q q hqm hqm
  have f0 : okE true = 0 := rfl
  rw [hag] at r29
  rw [pL] at r30
  rw [hqo, f0] at r28 r32
  simp only [encPg] at r28 r30 r32
  simp -implicitDefEqProofs only [go_sem, Option.getD_some, encPg, bne_self_eq_false]
  refine aG hC r32 ?_
  simp -implicitDefEqProofs only [go_sem, bne_self_eq_false]
  refine aG hC r28 ?_
  simp -implicitDefEqProofs only [go_sem, if_pos]
  refine aU hC (r29 _) fun x H2 hx => ?_
  obtain ⟨rfl, a2, e2, rfl, he2⟩ := hx
  obtain rfl : e2 = 0 := he2.2 rfl
  simp -implicitDefEqProofs only [go_sem, aO, bI, List.append_assoc, Option.getD_some, encPg, beq_self_eq_true]
  refine aG hC r30 ?_
  simp -implicitDefEqProofs only [go_sem]
  refine aI ?_ ?_ <;> simp [go_sem]
end Go.Rip
