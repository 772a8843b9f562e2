/- read.Term: the term of a text, the names of its variables, or where and why not. -/
import Derived.Test.YtbndjohkaodecaaGreatDoorRipBA
import Derived.Test.YtbndjohkaodecaaGreatDoorRipAO
namespace Go.Rip
open Go Go.Proofs
set_option maxRecDepth 100000
variable {GL : Glob}
attribute [local irreducible] Pure
def readT (l : Str) : Except (Int × Int) (Tm × List Str) := match lexOut l with
 | .error e => .error e
 | .ok ls => match termF (4 * ls.length + 3) 1200 ls [] with
  | none => .error (21, 0)
  | some (.bad r) => .error (21, (muchAt r l.length : Nat))
  | some (.ok t r ns) => if r.isEmpty then (if t.1.ok then .ok (t.1, ns) else .error (2, 0)) else .error (21, (muchAt r l.length : Nat))
theorem qG {l : Str} {e n : Int} (h : readT l = .error (e, n)) : e ≠ 0 := by
 unfold readT at h
 split at h
 ·rename_i v hz
  cases h
  exact fW hz
 ·split at h
  ·cases h; decide
  ·cases h; decide
  ·split at h
   ·split at h
    ·cases h
    ·cases h; decide
   ·cases h; decide
theorem qD {l : Str} {ls : List Lx} (h : lexOut l = .ok ls) : LsOk ls /\ SL ls /\ ls.length <= 8000 /\ l.length <= 20000 := by
 unfold lexOut at h
 split at h
 ·cases h
 ·rename_i h1
  cases hz : lexL l 0 with
  | error e => rw [hz] at h; cases h
  | ok r =>
   rw [hz] at h
   simp only at h
   split at h
   ·cases h
   ·rename_i h2
    cases h
    have q := (oM _ _ _ _ (Nat.le_refl _) hz).1
    exact ⟨⟨by omega, fun x hx => (q x hx).1⟩, fun x hx => by have := (q x hx).2; omega, by omega, by omega⟩
def termV (l : Str) : AV := match readT l with
 | .error e => .tup [enc (.mk 0 0 [] []), .sl 1 [], .i e.2, .i e.1]
 | .ok (t, ns) => .tup [enc t, .sl 1 (ns.map AV.str), .i 0, .i 0]
theorem free_str : Free AV.str := ⟨fun κ a => by simp only [ren], fun n a => by simp only [bd]⟩
theorem bd_termV (l : Str) : bd 0 (termV l) := by
 unfold termV
 cases readT l with
 | error e => simp [go_sem]
 | ok x =>
  obtain ⟨t, ns⟩ := x
  simp [go_sem, free_str.bds]
theorem h66 (t : Tm) (ht : t.size < 2 ^ 30) (hs : t.strs) (h : List AObj) : AC Tryz.prog GL (.fn 66) [enc t] h fun x h' => Keep All h h' /\ if t.ok then x = .val (.tup []) else x = .panic (wrongV 2 0) := by
 refine k66.call (by simp) ?_
 simp -implicitDefEqProofs only [go_sem, c66, r66]
 refine aC hC (h76 t ht hs) ?_
 rcases hk : t.ok with _ | _
 ·simp only [Bool.false_eq_true, ↓reduceIte]
  have d1 : ((3 : Int) != 0) = true := rfl
  simp -implicitDefEqProofs only [go_sem, d1]
  exact aP (by simp) ⟨Keep.app _ _ _, rfl⟩
 ·simp only [↓reduceIte]
  have d1 : ((0 : Int) != 0) = false := rfl
  simp -implicitDefEqProofs only [go_sem, d1]
  exact ⟨_, _, Wk.refl (by simp), Keep.app _ _ _, rfl⟩
def K61 (k1 k2 : Nat) (i : Nat) (o : AObj) : Prop := (i = k1 ∨ i = k2) ∨ o = .spare 9 1 ∨ ∃ ks vs, o = .map ks vs
theorem rd61 {H h1 h2 : List AObj} {k k1 k2 : Nat} (hk : H.length <= k) (a : Keep (K61 k1 k2) H h1) (b : Keep (RdK k) h1 h2) : Keep (K61 k1 k2) H h2 := a.trans' b fun i o hi hr => by
 have := aL hi
 rcases hr with e | e | e
 ·omega
 ·exact .inr (.inl e)
 ·exact .inr (.inr e)
theorem h61 (hG : GLok GL) (l : Str) (H : List AObj) (k0 k1 k2 : Nat) (n12 : k1 ≠ k2) (c0 : H[k0]? = some (.cells 9 [.str l])) (c1 : H[k1]? = some (.cells 31 [.v (.int .i64 0), .v (.int .i64 0), .str [], .v (.slice none 0 0)])) (c2 : H[k2]? = some (.cells 32 [.v (.slice none 0 0)])) :
  AC Tryz.prog GL (.fn 61) [.ref k0 0, .ref k1 0, .ref k2 0] H fun x h' => Keep (K61 k1 k2) H h' /\ match readT l with
   | .error e => x = .panic (wrongV e.1 e.2)
   | .ok (t, ns) => (∃ v, x = .val v) /\ h'[k1]? = some (.cells 31 [.v (.int .i64 t.kind), .v (.int .i64 t.n), .str t.s, .sl 4 (t.l.map enc)]) /\ ∃ nv, h'[k2]? = some (.cells 32 [nv]) /\ NamesV ns nv h' := by
 refine k61.call (by simp) ?_
 simp -implicitDefEqProofs only [go_sem, c61, r61, c0]
 refine aJ hC (h62 hG l H) fun x h1 ⟨hk1, hR⟩ => ?_
 unfold readT
 rcases hz : lexOut l with e | ls
 ·rw [hz] at hR
  subst hR
  simp -implicitDefEqProofs only [go_sem]
  exact aP hk1.1 ⟨hk1.of_all, rfl⟩
 rw [hz] at hR
 obtain ⟨k, rfl, hkl, hpre⟩ := hR
 obtain ⟨hls, hsl, h8, h2⟩ := qD hz
 have l1 := aL c1
 have l2 := aL c2
 simp -implicitDefEqProofs only [go_sem]
 refine aI hC (h63 hpre) fun x h2 ⟨hk2, hs2⟩ => ?_
 have m2 : Keep (K61 k1 k2) H h2 := hk1.of_all.trans' hk2 fun i o hi e => by have := aL hi; omega
 obtain ⟨r, hr⟩ := enough 1200 ls []
 simp -implicitDefEqProofs only [go_sem]
 refine aJ hC (t64 _ 1200 ls 0 l.length [] k h2 r hls (by omega) (by simp) hs2 (by rw [List.drop_zero]; exact hr)) fun x h3 ho => ?_
 rw [hr]
 cases r with
 | bad rest =>
  obtain ⟨o1, rfl⟩ := ho
  have m3 := rd61 hkl m2 o1
  simp -implicitDefEqProofs only [go_sem]
  exact aP m3.1 ⟨m3, rfl⟩
 | ok t rest ns =>
  obtain ⟨o1, rfl, q, o2, o3, o4, o5⟩ := ho
  obtain ⟨z1, z2, z3⟩ := (sz _).term _ _ _ _ _ _ hsl hr
  have m3 := rd61 hkl m2 o1
  have nk1 : k1 ≠ k := by omega
  have nk2 : k2 ≠ k := by omega
  have d1 : h3[k1]? = some (.cells 31 [.v (.int .i64 0), .v (.int .i64 0), .str [], .v (.slice none 0 0)]) := by
   have a := hk1.got c1
   have b := hk2.get a (by omega)
   exact o1.rd b nk1 (by simp) (by simp)
  have d2 : h3[k2]? = some (.cells 32 [.v (.slice none 0 0)]) := by
   have a := hk1.got c2
   have b := hk2.get a (by omega)
   exact o1.rd b nk2 (by simp) (by simp)
  have o5' := o5.other d1 nk1 (by simp) (by simp) (.cells 31 [.v (.int .i64 t.1.kind), .v (.int .i64 t.1.n), .str t.1.s, .sl 4 (t.1.l.map enc)])
  have m4 : Keep (K61 k1 k2) H (h3.set k1 (.cells 31 [.v (.int .i64 t.1.kind), .v (.int .i64 t.1.n), .str t.1.s, .sl 4 (t.1.l.map enc)])) := m3.trans' (Keep.set (K := fun i _ => i = k1) _ d1 rfl) fun i o hi e => .inl (.inl e)
  have d1' := aH (o := .cells 31 [.v (.int .i64 t.1.kind), .v (.int .i64 t.1.n), .str t.1.s, .sl 4 (t.1.l.map enc)]) d1
  have d2' : (h3.set k1 (.cells 31 [.v (.int .i64 t.1.kind), .v (.int .i64 t.1.n), .str t.1.s, .sl 4 (t.1.l.map enc)]))[k2]? = some (.cells 32 [.v (.slice none 0 0)]) := by rw [aE n12]; exact d2
  obtain ⟨nv, nm, im, pm, hR5⟩ := id o5'
  have hk5 := hR5.1
  have d1_g := fun l => aF (l := l) d1
  have d1_s := fun o l => aG (l := l) d1 o
  have d1_e := fun o l => aD (o := o) (l := l) d1
  have d1_h := fun o => aH (o := o) d1
  by_cases hq : q < ls.length
  ·have e1 : decide ((q : Int) < (ls.length : Int)) = true := decide_eq_true (by omega)
   have hne : rest.isEmpty = false := by rw [<- o2, bW hq]; rfl
   simp -implicitDefEqProofs only [go_sem, d1, hk5, List.length_map, e1]
   refine aJ hC (h65 o5'.rc) fun x h4 ⟨x1, x2⟩ => ?_
   subst x1 x2
   simp -implicitDefEqProofs only [go_sem]
   exact aP (by have := m4.1; simpa using this) ⟨m4, by rw [hne, o2]; simp⟩
  ·have e1 : decide ((q : Int) < (ls.length : Int)) = false := decide_eq_false (by omega)
   have hem : rest.isEmpty = true := by rw [<- o2, List.drop_of_length_le (by omega)]; rfl
   simp -implicitDefEqProofs only [go_sem, d1, d1_h, hk5, List.length_map, e1, bC]
   refine aJ hC (h66 t.1 (by omega) z2 _) fun x h4 ⟨hk4, hx⟩ => ?_
   have m5 : Keep (K61 k1 k2) H h4 := m4.trans hk4.of_all
   rcases hok : t.1.ok with _ | _
   ·rw [hok, if_neg (by simp)] at hx
    subst hx
    simp -implicitDefEqProofs only [go_sem]
    exact aP m5.1 ⟨m5, by rw [hem]; simp⟩
   ·rw [hok, if_pos rfl] at hx
    subst hx
    have g5 := hk4.got hk5
    have g1 := hk4.got d1'
    have g2 := hk4.got d2'
    have hnv : NamesV ns nv h4 := hR5.2.1.imp id fun ⟨b, e, hb⟩ => ⟨b, e, hk4.got hb⟩
    have g2_g := fun l => aF (l := l) g2
    have g2_s := fun o l => aG (l := l) g2 o
    have g2_e := fun o l => aD (o := o) (l := l) g2
    have g2_h := fun o => aH (o := o) g2
    have fin : ∃ y h', Wk GL H.length [(0, .tup [])] (h4.set k2 (.cells 32 [nv])) [(0, y)] h' /\ Keep (K61 k1 k2) H h' /\ (∃ v, ARes.val y = .val v) /\ h'[k1]? = some (.cells 31 [.v (.int .i64 t.1.kind), .v (.int .i64 t.1.n), .str t.1.s, .sl 4 (t.1.l.map enc)]) /\ ∃ nv, h'[k2]? = some (.cells 32 [nv]) /\ NamesV ns nv h' :=
     ⟨_, _, Wk.refl (by have := m5.1; simpa using this), m5.trans' (Keep.set (K := fun i _ => i = k2) _ g2 rfl) fun i o hi e => .inl (.inr e), ⟨_, rfl⟩, by rw [aE n12.symm]; exact g1, nv, aH g2, oQ hnv g2 _⟩
    rcases hnv with ⟨rfl, rfl⟩ | ⟨b, rfl, hb⟩
    ·simp -implicitDefEqProofs only [go_sem, g5, g2, hem]
     exact fin
    ·simp -implicitDefEqProofs only [go_sem, g5, g2, hem]
     exact fin
theorem h21 (hG : GLok GL) (l : Str) : Pure (PC GL) 21 [.str l] (termV l) := by
 refine aN (by simp [go_sem]) (bd_termV l) ?_
 refine k21.call (by simp) ?_
 have h1 := h56b (GL := GL) (g := 61) (caps := [.ref 0 0, .ref 2 0, .ref 3 0]) (h := [.cells 9 [.str l], .cells 31 [.v (.int .i64 0), .v (.int .i64 0), .str [], .v (.slice none 0 0)], .cells 31 [.v (.int .i64 0), .v (.int .i64 0), .str [], .v (.slice none 0 0)], .cells 32 [.v (.slice none 0 0)]]) (Bad := fun e n h' => h'[1]? = some (.cells 31 [.v (.int .i64 0), .v (.int .i64 0), .str [], .v (.slice none 0 0)]) /\ readT l = .error (e, n)) (Ok := fun h' => h'[1]? = some (.cells 31 [.v (.int .i64 0), .v (.int .i64 0), .str [], .v (.slice none 0 0)]) /\ ∃ t ns, readT l = .ok (t, ns) /\ h'[2]? = some (.cells 31 [.v (.int .i64 t.kind), .v (.int .i64 t.n), .str t.s, .sl 4 (t.l.map enc)]) /\ ∃ nv, h'[3]? = some (.cells 32 [nv]) /\ NamesV ns nv h')
  (fun e n h1 h2 hb hs => by
   obtain ⟨a, b⟩ := hb
   exact ⟨hs 1 _ a (by simp) (by simp), b⟩)
  (aJ hC (h61 hG l _ 0 2 3 (by decide) rfl rfl rfl) fun x h' ⟨hk, hx⟩ => ⟨hk.get (i := 4) rfl (by unfold K61; simp), hk.get (i := 5) rfl (by unfold K61; simp), by
   cases hz : readT l with
   | error e => rw [hz] at hx; exact .inl ⟨e.1, e.2, hx, hk.get (i := 1) rfl (by unfold K61; simp), rfl⟩
   | ok p =>
    obtain ⟨t, ns⟩ := p
    rw [hz] at hx
    exact .inr ⟨hx.1, hk.get (i := 1) rfl (by unfold K61; simp), t, ns, rfl, hx.2⟩⟩)
 simp -implicitDefEqProofs only [go_sem, c21, r21]
 refine aJ hC h1 fun x h' ⟨hm, hx⟩ => ?_
 rcases hx with ⟨e, n, rfl, g1, hb⟩ | ⟨rfl, g1, t, ns, hz, q1, nv, q2, hn⟩
 ·have he := qG hb
  have d1 : (e != 0) = true := by simpa using he
  have ev : termV l = .tup [enc (.mk 0 0 [] []), .sl 1 [], .i n, .i e] := by rw [termV, hb]
  have g1_g := fun l => aF (l := l) g1
  have g1_s := fun o l => aG (l := l) g1 o
  have g1_e := fun o l => aD (o := o) (l := l) g1
  have g1_h := fun o => aH (o := o) g1
  simp -implicitDefEqProofs only [go_sem, d1, g1, g1_h]
  rw [ev]
  exact aO (by simp [wkr, wkrs, enc, encs]) (by simp [go_sem])
 ·have ev : termV l = .tup [enc t, .sl 1 (ns.map AV.str), .i 0, .i 0] := by rw [termV, hz]
  have d0 : ((0 : Int) != 0) = false := rfl
  have g1_g := fun l => aF (l := l) g1
  have g1_s := fun o l => aG (l := l) g1 o
  have g1_e := fun o l => aD (o := o) (l := l) g1
  have g1_h := fun o => aH (o := o) g1
  have q2s : ∀ X, (h'.set 1 X)[3]? = some (.cells 32 [nv]) := fun X => by rw [aE (by decide)]; exact q2
  rcases hn with ⟨rfl, rfl⟩ | ⟨b, rfl, hb⟩
  ·simp -implicitDefEqProofs only [go_sem, d0, q1, q2, q2s, g1, g1_h]
   rw [ev]
   exact aO (by simp [wkr, wkrs, cT]) (by simp [go_sem])
  ·simp -implicitDefEqProofs only [go_sem, d0, q1, q2, q2s, g1, g1_h]
   rw [ev]
   exact aO (by simp [wkr, wkrs, cT]) (by simp [go_sem, free_str.bds])
end Go.Rip
namespace Go.Rip
open Go
inductive It where
 | p (s : Str)
 | f (s : Str)
 | o
 | g
 | n (s : Str)
 | v (i : Int)
 | z
structure Ws where
 b : Str
 last : Str
 before : Bool
def lexS (l : Str) : Option (List Lx) := if l.length > 20000 then none else match lexL l 0 with
 | .error _ => none
 | .ok ls => if ls.length > 8000 then none else some ls
def apartB (a b : Str) : Bool := match lexS (a ++ b) with
 | some [x, y] => x.e == a.length && y.kind != 7
 | _ => false
def putW (s : Str) (w : Ws) : Ws := ⟨w.b ++ ((if w.last != [] && !(apartB w.last s) then [32] else []) ++ s), s, false⟩
def stepW (nf : Int -> Str) : It -> Ws -> Ws
 | .p s, w => putW s w
 | .f s, w => { putW s w with before := true }
 | .o, w => putW [40] (if w.before then ⟨w.b ++ [32], [], true⟩ else w)
 | .g, w => ⟨w.b ++ [40], [40], w.before⟩
 | .n s, w => ⟨(putW [45] w).b ++ s, s, false⟩
 | .v i, w => putW (nf i) w
 | .z, w => putW [93] (putW [91] w)
def stepsW (nf : Int -> Str) (l : List It) (w : Ws) : Ws := l.foldl (fun w i => stepW nf i w) w
theorem cB (nf : Int -> Str) (a b : List It) (w : Ws) : stepsW nf (a ++ b) w = stepsW nf b (stepsW nf a w) := by simp [stepsW]
theorem aW (nf : Int -> Str) (i : It) (b : List It) (w : Ws) : stepsW nf (i :: b) w = stepsW nf b (stepW nf i w) := rfl
theorem bT (nf : Int -> Str) (w : Ws) : stepsW nf [] w = w := rfl
def digF : Nat -> Nat -> Str
 | 0, _ => []
 | f + 1, n => if n < 10 then [UInt8.ofNat (48 + n)] else digF f (n / 10) ++ [UInt8.ofNat (48 + n % 10)]
def dig (n : Nat) : Str := digF (n + 1) n
def varN (i : Int) : Str := UInt8.ofNat (65 + i.toNat % 26) :: if i >= 26 then dig (i.toNat / 26) else []
def escC (q : UInt8) (other : UInt8 -> Str) (c : UInt8) : Str := if c == q || c == 92 then [92, c] else if isPlain c then [c] else other c
def escL (q : UInt8) (other : UInt8 -> Str) (s : Str) : Str := q :: (s.flatMap (escC q other) ++ [q])
def hexD (n : Nat) : UInt8 := ([48, 49, 50, 51, 52, 53, 54, 55, 56, 57, 97, 98, 99, 100, 101, 102] : Str).getD n 0
def textW (s : Str) : Str := escL 34 (fun c => if c == 10 then [92, 110] else [92, 120, hexD (c.toNat / 16), hexD (c.toNat % 16)]) s
def quoteW (s : Str) : Str := escL 39 (fun _ => []) s
def bareB (s : Str) : Bool := match lexS s with
 | some [x] => x.kind == 1 && x.s == s
 | _ => false
def functorW (s : Str) : Str := if bareB s then s else quoteW s
def atomW (s : Str) : It := if s == [91, 93] then .z else .p (if (infixO s).isSome || (prefixO s).isSome || !bareB s then quoteW s else s)
def isCell (t : Tm) : Bool := t.kind == 5 && t.s == [46] && t.l.length == 2
def isNilA (t : Tm) : Bool := t.kind == 3 && t.s == [91, 93]
def infixW (pl : Bool) (t : Tm) : Option Opr := if !pl && t.kind == 5 && t.l.length == 2 then infixO t.s else none
def neckB (t : Tm) : Bool := t.kind == 5 && t.l.length == 1 && t.s == [58, 45]
def signW (pl : Bool) (t : Tm) : Option Opr := if !pl && t.kind == 5 && t.l.length == 1 then
  (if t.s == [45] then (if (t.l.getD 0 default).kind != 2 && (infixW pl (t.l.getD 0 default)).isNone && !neckB (t.l.getD 0 default) then prefixO t.s else none) else prefixO t.s)
 else none
def formW (pl : Bool) (t : Tm) : Option (Opr × Bool) := match infixW pl t with
 | some o => some (o, true)
 | none => (signW pl t).map fun o => (o, false)
def inB (b : Bool) (l : List It) : List It := if b then .o :: (l ++ [.p [41]]) else l
def commas : List (List It) -> List It
 | [] => []
 | [a] => a
 | a :: b :: r => a ++ (.p [44] :: commas (b :: r))
mutual
def itW : Nat -> Bool -> Int -> Tm -> List It
 | 0, _, _, _ => []
 | f + 1, pl, lim, t => match formW pl t with
  | some (o, true) => inB (decide (o.prio > lim)) (itW f pl o.left (t.l.getD 0 default) ++ (.p t.s :: itW f pl o.right (t.l.getD 1 default)))
  | some (o, false) => inB (decide (o.prio > lim)) (.f t.s :: itW f pl o.right (t.l.getD 0 default))
  | none => itS f pl t
def itS : Nat -> Bool -> Tm -> List It
 | 0, _, _ => []
 | f + 1, pl, t =>
  if t.kind == 1 then [.v t.n]
  else if t.kind == 2 then (if t.n >= 0 then [.p (dig t.n.toNat)] else [.n (dig (-t.n).toNat)])
  else if t.kind == 4 then [.p (textW t.s)]
  else if t.kind == 3 then [atomW t.s]
  else if t.kind == 6 then .p [123] :: (commas (t.l.map (itW f pl 999)) ++ [.p [125]])
  else if isCell t then .p [91] :: (itW f pl 999 (t.l.getD 0 default) ++ itC f pl (t.l.getD 1 default))
  else .p (functorW t.s) :: .g :: (commas (t.l.map (itW f pl 999)) ++ [.p [41]])
def itC : Nat -> Bool -> Tm -> List It
 | 0, _, _ => []
 | f + 1, pl, t => if isCell t then .p [44] :: (itW f pl 999 (t.l.getD 0 default) ++ itC f pl (t.l.getD 1 default))
  else (if isNilA t then [] else .p [124] :: itW f pl 999 t) ++ [.p [93]]
end
def w0 : Ws := ⟨[], [], false⟩
def wrF (t : Tm) : Nat := 4 * t.size + 4
def wrW (nf : Int -> Str) (pl : Bool) (t : Tm) : Ws := stepsW nf (itW (wrF t) pl 1200 t) w0
end Go.Rip
