/- The scanner: words, symbols. -/
import Derived.Test.YtbndjohkaodecaaGreatDoorProg
import Derived.Shelf.Strings.Builder1
import Derived.KernelRfl
import Derived.Test.YtbndjohkaodecaaGreatDoorRipAO
import Derived.Test.YtbndjohkaodecaaGreatDoorRipAC
namespace Go.Rip
open Go Go.Proofs
set_option maxRecDepth 100000
variable {GL : Glob}
attribute [local irreducible] Pure
def bgV : AV := .fn (.func 95) [] []
def StAt (r : Stp) (l : List UInt8) (a : Nat) (ls : List Lx) (k : Nat) (x : ARes) (h' : List AObj) : Prop := match r with
 | .bad => x = .panic (wrongV 20 a)
 | .skip m => x = .val bgV /\ ScAt l (a + m) ls k h'
 | .lex d n t m => x = .val bgV /\ ScAt l (a + m) (ls ++ [⟨d, n, t, a, a + m⟩]) k h'
def Stt (GL : Glob) (f : FuncId) (r : Stp) (l : List UInt8) (a : Nat) (ls : List Lx) (k : Nat) (h : List AObj) : Prop :=
 AC Tryz.prog GL (.fn f) [.ref k 0] h fun x h' => Keep ScK h h' /\ StAt r l a ls k x h'
theorem cD {m : Nat} {l : List UInt8} {a : Nat} {ls : List Lx} {k : Nat} {h0 h : List AObj} {r : Stp} (hm : m <= h.length) (hr : r = .bad) (hk : Keep ScK h0 h) : kpanic GL m (fun x h' => Keep ScK h0 h' /\ StAt r l a ls k x h') (wrongV 20 a) h := ⟨_, h, Wk.refl hm, hk, by rw [hr]; rfl⟩
theorem dV {m : Nat} {l : List UInt8} {a : Nat} {ls : List Lx} {k : Nat} {h0 h : List AObj} {r : Stp} {d n : Int} {t : List UInt8} {q e : Nat} (hm : m <= h.length) (hr : r = .lex d n t q) (he : e = a + q) (hk : Keep ScK h0 h) (hs : ScAt l e (ls ++ [⟨d, n, t, a, e⟩]) k h) :
  ∃ y h', Wk GL m [(0, .fn (.func 95) [] [])] h [(0, y)] h' /\ Keep ScK h0 h' /\ StAt r l a ls k (.val y) h' := ⟨_, h, Wk.refl hm, hk, by rw [hr]; subst he; exact ⟨rfl, hs⟩⟩
theorem stt_skip {m : Nat} {l : List UInt8} {a : Nat} {ls : List Lx} {k : Nat} {h0 h : List AObj} {r : Stp} {q e : Nat} (hm : m <= h.length) (hr : r = .skip q) (he : e = a + q) (hk : Keep ScK h0 h) (hs : ScAt l e ls k h) :
  ∃ y h', Wk GL m [(0, .fn (.func 95) [] [])] h [(0, y)] h' /\ Keep ScK h0 h' /\ StAt r l a ls k (.val y) h' := ⟨_, h, Wk.refl hm, hk, by rw [hr]; subst he; exact ⟨rfl, hs⟩⟩
theorem dO (l : List UInt8) (a n : Nat) : (l.drop a).take (a + n - a) = (l.drop a).take n := by rw [Nat.add_sub_cancel_left]
theorem ScAt.set {l : List UInt8} {a e : Nat} {ls : List Lx} {k : Nat} {h : List AObj} {o : AV} (ho : OutV ls o h) (hk : h[k]? = some (.cells 126 [.str l, .i a, o])) : ScAt l e ls k (h.set k (.cells 126 [.str l, .i e, o])) := by
 refine ⟨o, aH hk, ho.imp id fun ⟨b, e1, hb⟩ => ⟨b, e1, ?_⟩⟩
 rw [aE (aU hk hb (by simp))]; exact hb
theorem h138 {l : List UInt8} {a : Nat} {ls : List Lx} {k : Nat} {h : List AObj} (hl : l.length < 2 ^ 40) (ha : a <= l.length) (hls : ls.length < 2 ^ 30) (hs : ScAt l a ls k h) :
  Stt GL 138 (stpWord (l.drop a) (if isLarge (l.getD a 0) then 3 else 1)) l a ls k h := by
 obtain ⟨o, hk, ho⟩ := hs
 have hrl := dD isName (l.drop a)
 simp only [List.length_drop] at hrl
 have h1 := h131 (GL := GL) (f := 184) (p := isName) (o1 := .i a) (o := o) (fun c => h184 c) a hl ha hk
 have h2 := h129 (GL := GL) (o := o) 0 hl ha (by omega) hk
 have h3 := h137 (GL := GL) (l.getD a 0)
 refine k138.call (by simp) ?_
 have w1 : IntKind.i64.wrap (((a + run isName (l.drop a) : Nat) : Int) - (a : Int)) = (run isName (l.drop a) : Int) := by rw [aK _ (by omega)]; omega
 simp -implicitDefEqProofs only [go_sem, c138, r138, hk]
 refine bB hC h1 ?_
 by_cases hb : run isName (l.drop a) > 32
 ·have d1 : decide ((run isName (l.drop a) : Int) > 32) = true := decide_eq_true (by omega)
  simp -implicitDefEqProofs only [go_sem, hk, w1, d1]
  refine aJ hC (h145 _ _) fun x h' ⟨e1, e2⟩ => ?_
  subst e1 e2
  simp -implicitDefEqProofs only [go_sem]
  exact cD (Nat.le_refl _) (by rw [stpWord, if_pos hb]) (Keep.refl _ _)
 ·have d1 : decide ((run isName (l.drop a) : Int) > 32) = false := decide_eq_false (by omega)
  have hst : ∀ d, stpWord (l.drop a) d = .lex d 0 ((l.drop a).take (run isName (l.drop a))) (run isName (l.drop a)) := fun d => by rw [stpWord, if_neg hb]
  simp -implicitDefEqProofs only [go_sem, hk, w1, d1]
  refine bB hC h2 ?_
  simp -implicitDefEqProofs only [go_sem, Nat.add_zero]
  refine aC hC h3 ?_
  have hst : ∀ d, stpWord (l.drop a) d = .lex d 0 ((l.drop a).take (run isName (l.drop a))) (run isName (l.drop a)) := fun d => by rw [stpWord, if_neg hb]
  rcases hL : isLarge (l.getD a 0) with _ | _
  all_goals
   simp -implicitDefEqProofs only [go_sem, hk, Int.toNat_natCast, dO]
   refine ⟨⟨by omega, by omega, by omega⟩, ?_⟩
   refine aI hC (h144 _ 0 _ _ hls ⟨o, hk, ho⟩) fun x h2 ⟨e, hkp, hsc⟩ => ?_
   subst e
   simp -implicitDefEqProofs only [go_sem]
   exact dV hkp.1 (hst _) rfl hkp hsc
theorem h140 {l : List UInt8} {a : Nat} {ls : List Lx} {k : Nat} {h : List AObj} (hl : l.length < 2 ^ 40) (ha : a <= l.length) (hls : ls.length < 2 ^ 30) (hs : ScAt l a ls k h) :
  Stt GL 140 (stpSym (l.drop a)) l a ls k h := by
 obtain ⟨o, hk, ho⟩ := hs
 have hrl := dD isSym (l.drop a)
 simp only [List.length_drop] at hrl
 have h1 := h131 (GL := GL) (f := 139) (p := isSym) (o1 := .i a) (o := o) (fun c => h139 c) a hl ha hk
 refine k140.call (by simp) ?_
 simp -implicitDefEqProofs only [go_sem, c140, r140, hk]
 refine bB hC h1 ?_
 have tl : ((l.drop a).take (run isSym (l.drop a))).length = run isSym (l.drop a) := by simp; omega
 simp -implicitDefEqProofs only [go_sem, hk, Int.toNat_natCast, dO]
 refine ⟨⟨by omega, by omega, by omega⟩, ?_⟩
 by_cases hb : run isSym (l.drop a) > 32
 ·have d1 : decide ((((l.drop a).take (run isSym (l.drop a))).length : Int) > 32) = true := decide_eq_true (by omega)
  simp -implicitDefEqProofs only [go_sem, hk, d1]
  refine aJ hC (h145 _ _) fun x h' ⟨e1, e2⟩ => ?_
  subst e1 e2
  simp -implicitDefEqProofs only [go_sem]
  exact cD (Nat.le_refl _) (by rw [stpSym, if_pos hb]) (Keep.refl _ _)
 ·have d1 : decide ((((l.drop a).take (run isSym (l.drop a))).length : Int) > 32) = false := decide_eq_false (by omega)
  have hst : ∀ d, (if ((l.drop a).take (run isSym (l.drop a)) == [46] && endAfter ((l.drop a).drop (run isSym (l.drop a)))) = true then (7 : Int) else 1) = d -> stpSym (l.drop a) = .lex d 0 ((l.drop a).take (run isSym (l.drop a))) (run isSym (l.drop a)) := fun d e => by rw [stpSym, if_neg hb, e]
  generalize hR : (l.drop a).take (run isSym (l.drop a)) = R at d1 hst tl ⊢
  have hdd : (l.drop a).drop (run isSym (l.drop a)) = l.drop (a + run isSym (l.drop a)) := by rw [List.drop_drop]
  rw [hdd] at hst
  generalize hn : run isSym (l.drop a) = n at d1 hst tl hrl ⊢
  rcases hp : (R == [46]) with _ | _
  ·rw [hp, Bool.false_and] at hst
   simp -implicitDefEqProofs only [go_sem, d1, hp]
   refine aI hC (h144 _ 0 _ _ hls ⟨o, hk, ho⟩) fun x h2 ⟨e, hkp, hsc⟩ => ?_
   subst e
   simp -implicitDefEqProofs only [go_sem]
   exact dV hkp.1 (hst _ rfl) rfl hkp hsc
  ·by_cases he : a + n = l.length
   ·have d2 : (((a + n : Nat) : Int) == (l.length : Int)) = true := by simp; omega
    have e2 : endAfter (l.drop (a + n)) = true := by rw [List.drop_of_length_le (by omega)]; rfl
    rw [hp, e2] at hst
    simp -implicitDefEqProofs only [go_sem, hk, d1, hp, d2]
    refine aI hC (h144 _ 0 _ _ hls ⟨o, hk, ho⟩) fun x h2 ⟨e, hkp, hsc⟩ => ?_
    subst e
    simp -implicitDefEqProofs only [go_sem]
    exact dV hkp.1 (hst _ rfl) rfl hkp hsc
   ·have d2 : (((a + n : Nat) : Int) == (l.length : Int)) = false := by simp; omega
    have hlt : a + n < l.length := by omega
    have hdc : l.drop (a + n) = l[a + n] :: l.drop (a + n + 1) := List.drop_eq_getElem_cons hlt
    have eg : l.getD (a + n) 0 = l[a + n] := by simp [List.getD, hlt]
    have e2 : endAfter (l.drop (a + n)) = (isBlank l[a + n] || ((l[a + n]).toNat : Int) == 37) := by rw [hdc, endAfter]
    have h3 := h130 (GL := GL) l[a + n]
    rw [hp, e2] at hst
    simp -implicitDefEqProofs only [go_sem, hk, d1, hp, d2, Int.toNat_natCast, hlt, eg]
    refine aC hC h3 ?_
    rcases hB : isBlank l[a + n] with _ | _
    ·rcases hC37 : (((l[a + n]).toNat : Int) == 37) with _ | _
     ·rw [hB, hC37] at hst
      simp -implicitDefEqProofs only [go_sem, hk, Int.toNat_natCast, hlt, eg, hC37]
      refine aI hC (h144 _ 0 _ _ hls ⟨o, hk, ho⟩) fun x h2 ⟨e, hkp, hsc⟩ => ?_
      subst e
      simp -implicitDefEqProofs only [go_sem]
      exact dV hkp.1 (hst _ rfl) rfl hkp hsc
     ·rw [hB, hC37] at hst
      simp -implicitDefEqProofs only [go_sem, hk, Int.toNat_natCast, hlt, eg, hC37]
      refine aI hC (h144 _ 0 _ _ hls ⟨o, hk, ho⟩) fun x h2 ⟨e, hkp, hsc⟩ => ?_
      subst e
      simp -implicitDefEqProofs only [go_sem]
      exact dV hkp.1 (hst _ rfl) rfl hkp hsc
    ·rw [hB, Bool.true_or] at hst
     simp -implicitDefEqProofs only [go_sem]
     refine aI hC (h144 _ 0 _ _ hls ⟨o, hk, ho⟩) fun x h2 ⟨e, hkp, hsc⟩ => ?_
     subst e
     simp -implicitDefEqProofs only [go_sem]
     exact dV hkp.1 (hst _ rfl) rfl hkp hsc
theorem qJ {p : UInt8 -> Bool} : ∀ l : List UInt8, (l.take (run p l)).all p = true
 | [] => rfl
 | c :: r => by
  rw [run]
  split
  ·rename_i h
   simp only [List.take_succ_cons, List.all_cons, h, Bool.true_and]
   exact qJ r
  ·rfl
theorem h135 (hG : GLok GL) {l : List UInt8} {a : Nat} {ls : List Lx} {k : Nat} {h : List AObj} (hl : l.length < 2 ^ 40) (ha : a <= l.length) (hls : ls.length < 2 ^ 30) (hs : ScAt l a ls k h) (hp : 0 < run isDigit (l.drop a)) :
  Stt GL 135 (stpNum (l.drop a)) l a ls k h := by
 obtain ⟨o, hk, ho⟩ := hs
 have hrl := dD isDigit (l.drop a)
 simp only [List.length_drop] at hrl
 have h1 := h131 (GL := GL) (f := 134) (p := isDigit) (o1 := .i a) (o := o) (fun c => h134 c) a hl ha hk
 refine k135.call (by simp) ?_
 simp -implicitDefEqProofs only [go_sem, c135, r135, hk]
 refine bB hC h1 ?_
 have tl : ((l.drop a).take (run isDigit (l.drop a))).length = run isDigit (l.drop a) := by simp; omega
 have hdg := qJ (p := isDigit) (l.drop a)
 simp -implicitDefEqProofs only [go_sem, hk, Int.toNat_natCast, dO]
 refine ⟨⟨by omega, by omega, by omega⟩, ?_⟩
 have hst : stpNum (l.drop a) = if decide (decVal ((l.drop a).take (run isDigit (l.drop a))) > 2147483647) || nmAfter (l.drop (a + run isDigit (l.drop a))) then .bad else .lex 4 (decVal ((l.drop a).take (run isDigit (l.drop a)))) [] (run isDigit (l.drop a)) := by rw [stpNum, List.drop_drop]
 generalize hR : (l.drop a).take (run isDigit (l.drop a)) = R at hst tl hdg ⊢
 generalize hn : run isDigit (l.drop a) = n at hst tl hrl hp ⊢
 have h3 := h183 hG R (by rintro rfl; simp at tl; omega) hdg (by omega) h
 refine aJ hC h3 fun x h' ⟨e1, e2⟩ => ?_
 subst e1
 rcases e2 with ⟨hv, rfl⟩ | ⟨hv, n', t', rfl⟩
 ·by_cases hb : decVal R > 2147483647
  ·have d1 : decide ((decVal R : Int) > 2147483647) = true := decide_eq_true (by omega)
   rw [decide_eq_true hb, Bool.true_or, if_pos rfl] at hst
   simp -implicitDefEqProofs only [go_sem, d1, hk]
   refine aJ hC (h145 _ _) fun x h' ⟨e1, e2⟩ => ?_
   subst e1 e2
   simp -implicitDefEqProofs only [go_sem]
   exact cD (Nat.le_refl _) hst (Keep.refl _ _)
  ·have d1 : decide ((decVal R : Int) > 2147483647) = false := decide_eq_false (by omega)
   rw [decide_eq_false hb, Bool.false_or] at hst
   by_cases he : a + n < l.length
   ·have d2 : decide (((a + n : Nat) : Int) < (l.length : Int)) = true := decide_eq_true (by omega)
    have hdc : l.drop (a + n) = l[a + n] :: l.drop (a + n + 1) := List.drop_eq_getElem_cons he
    have eg : l.getD (a + n) 0 = l[a + n] := by simp [List.getD, he]
    rw [hdc, nmAfter] at hst
    simp -implicitDefEqProofs only [go_sem, d1, hk, d2, Int.toNat_natCast, he, eg]
    refine aC hC (h184 _) ?_
    rcases hN : isName l[a + n] with _ | _
    ·rw [hN, if_neg (by simp)] at hst
     simp -implicitDefEqProofs only [go_sem]
     refine aI hC (h144 _ _ _ _ hls ⟨o, hk, ho⟩) fun x h2 ⟨e, hkp, hsc⟩ => ?_
     subst e
     simp -implicitDefEqProofs only [go_sem]
     exact dV hkp.1 hst rfl hkp hsc
    ·rw [hN, if_pos rfl] at hst
     simp -implicitDefEqProofs only [go_sem, hk]
     refine aJ hC (h145 _ _) fun x h' ⟨e1, e2⟩ => ?_
     subst e1 e2
     simp -implicitDefEqProofs only [go_sem]
     exact cD (Nat.le_refl _) hst (Keep.refl _ _)
   ·have d2 : decide (((a + n : Nat) : Int) < (l.length : Int)) = false := decide_eq_false (by omega)
    have hd0 : l.drop (a + n) = [] := List.drop_of_length_le (by omega)
    rw [hd0, nmAfter, if_neg (by simp)] at hst
    simp -implicitDefEqProofs only [go_sem, d1, hk, d2]
    refine aI hC (h144 _ _ _ _ hls ⟨o, hk, ho⟩) fun x h2 ⟨e, hkp, hsc⟩ => ?_
    subst e
    simp -implicitDefEqProofs only [go_sem]
    exact dV hkp.1 hst rfl hkp hsc
 ·rw [decide_eq_true (by omega), Bool.true_or, if_pos rfl] at hst
  simp -implicitDefEqProofs only [go_sem, hk]
  refine aJ hC (h145 _ _) fun x h' ⟨e1, e2⟩ => ?_
  subst e1 e2
  simp -implicitDefEqProofs only [go_sem]
  exact cD (Nat.le_refl _) hst (Keep.refl _ _)
theorem lZ : ∀ l : List UInt8, Go.Lib.index l [42, 47] = match findEnd l with
  | some k => (k : Int)
  | none => -1
 | [] => rfl
 | [c] => by simp [Go.Lib.index, findEnd, List.isPrefixOf]
 | c :: d :: r => by
  rw [Go.Lib.index, findEnd, lZ (d :: r)]
  have e : List.isPrefixOf [42, 47] (c :: d :: r) = (c == 42 && d == 47) := by
   simp only [List.isPrefixOf, Bool.and_true, BEq.comm (a := (42 : UInt8)), BEq.comm (a := (47 : UInt8))]
  rw [e]
  split
  ·rfl
  ·cases findEnd (d :: r) with
   | none => rfl
   | some k =>
    have : ((k : Int) == -1) = false := by simp
    simp only [this, Option.map_some, Bool.false_eq_true, if_false]
    rfl
theorem h133 (hG : GLok GL) {l : List UInt8} {a : Nat} {ls : List Lx} {k : Nat} {h : List AObj} (hl : l.length < 2 ^ 30) (ha : a + 2 <= l.length) (hs : ScAt l a ls k h) :
  Stt GL 133 (match findEnd (l.drop (a + 2)) with
   | some k => .skip (k + 4)
   | none => .bad) l a ls k h := by
 obtain ⟨o, hk, ho⟩ := hs
 refine k133.call (by simp) ?_
 have w1 : IntKind.i64.wrap ((a : Int) + 2) = ((a + 2 : Nat) : Int) := by rw [aK _ (by omega)]; omega
 have hte : (l.drop (a + 2)).take (l.length - (a + 2)) = l.drop (a + 2) := List.take_of_length_le (by simp)
 have h2 := h182 hG (l.drop (a + 2)) [42, 47] (by simp; omega)
 rw [lZ] at h2
 have hk_g := fun l => aF (l := l) hk
 have hk_s := fun o l => aG (l := l) hk o
 have hk_e := fun o l => aD (o := o) (l := l) hk
 have hk_h := fun o => aH (o := o) hk
 simp -implicitDefEqProofs only [go_sem, c133, r133, hk, w1, Int.toNat_natCast, hte]
 refine ⟨⟨by omega, by omega, by omega⟩, ?_⟩
 refine aC hC h2 ?_
 rcases hf : findEnd (l.drop (a + 2)) with _ | q
 ·have d1 : decide ((-1 : Int) < 0) = true := rfl
  simp -implicitDefEqProofs only [go_sem, hk, d1]
  refine aJ hC (h145 _ _) fun x h' ⟨e1, e2⟩ => ?_
  subst e1 e2
  simp -implicitDefEqProofs only [go_sem]
  exact cD (Nat.le_refl _) rfl (Keep.refl _ _)
 ·have hq := jO hf
  simp only [List.length_drop] at hq
  have d1 : decide ((q : Int) < 0) = false := decide_eq_false (by omega)
  have w2 : IntKind.i64.wrap ((q : Int) + 4) = ((q + 4 : Nat) : Int) := by rw [aK _ (by omega)]; omega
  have w3 : IntKind.i64.wrap ((a : Int) + ((q + 4 : Nat) : Int)) = ((a + (q + 4) : Nat) : Int) := by rw [aK _ (by omega)]; omega
  simp -implicitDefEqProofs only [go_sem, d1, w2, w3, hk]
  exact stt_skip (by simp) rfl rfl (Keep.set _ hk (.inl ⟨_, rfl⟩)) (ScAt.set ho hk)
end Go.Rip
namespace Go.Rip
open Go Go.Proofs Go.RowKit
set_option maxRecDepth 100000
theorem size102 : (Tryz.prog.info? 102).map (·.size) = some 2 := by kernel_rfl
set_option maxHeartbeats 2000000 in
theorem cc_used (b : Nat) (w : World) (h0 : w.cell? ⟨b, 0, none⟩ = some (.pointer (some ⟨b, 0, none⟩))) :
  Calls Tryz.prog 117 #[.pointer (some ⟨b, 0, none⟩)] w fun e w' => e = .returned (.tuple #[]) /\ w' = w := by
 obtain ⟨j, hj, _⟩ := Option.map_eq_some_iff.1 size102
 go_enter Tryz.func117, Tryz.ntmps117
 go_wp2
 rw [Go.Lib.run_neq_ptr_same w _ Tryz.underlying100 hj]
 go_wp2
 go_end0
 exact ⟨rfl, rfl⟩
set_option maxHeartbeats 2000000 in
theorem cc_fresh (b n : Nat) (T : TypeId) (w : World) (h0 : w.cell? ⟨b, 0, none⟩ = some (.pointer none)) (hsh : w.shape? b = some (T, n)) (hn : 0 < n) (hl : liesAt Tryz.prog Tryz.prog.depth T (n / Tryz.prog.cellsOf T) 0 102 1 = true) (hfz : w.frozen? ⟨b, 0, none⟩ = false) :
  Calls Tryz.prog 117 #[.pointer (some ⟨b, 0, none⟩)] w fun e w' => e = .returned (.tuple #[]) /\ w' = w.setCell ⟨b, 0, none⟩ (.pointer (some ⟨b, 0, none⟩)) := by
 obtain ⟨j, hj, hjs⟩ := Option.map_eq_some_iff.1 size102
 go_enter Tryz.func117, Tryz.ntmps117
 go_wp2
 rw [Go.Lib.run_to_unsafe w ⟨b, 0, none⟩ Tryz.underlying100 Tryz.underlying169 hj (by rw [hjs]; decide) hsh hn]
 simp only [Result.andThen]
 rw [Oper.upon_value]
 go_wp2
 rw [run_callFunc_extern Tryz.func168 (by kernel_rfl) (by kernel_rfl) (by kernel_rfl) (e := Extern.AbiNoEscape.same) (by kernel_rfl)]
 rw [Go.Lib.run_noEscape]
 simp only [Result.andThen]
 rw [Oper.upon_value]
 go_wp2
 rw [Go.Lib.run_from_unsafe w ⟨b, 0, none⟩ Tryz.underlying169 Tryz.underlying100 hj hsh hl]
 simp only [Result.andThen]
 rw [Oper.upon_value]
 go_wp2
 go_end0
 exact ⟨rfl, rfl⟩
theorem rA (W : World) (q : Option Addr) : (Builtin.unsafeString_ #[145, 3] 9 #[.pointer q, .int .i64 0]).run Tryz.prog W = .ok (.string .empty) W := Go.Lib.run_unsafeString_none W _ _ _ q
theorem qQ : Tryz.prog.follows .mixedOrders = true := by kernel_rfl
theorem cellsByte : Tryz.prog.cellsOf 5 = 1 := by kernel_rfl
set_option maxHeartbeats 2000000 in
theorem str_row (b g cap : Nat) (cur : Array Value) (l : List UInt8) (w : World) (hc : w.cell? ⟨b, 1, none⟩ = some (.slice (some ⟨g, 0, none⟩) l.length cap)) (h0 : l ≠ []) (hg : w.heap[g]? = some (.cells cur 5 (0, 0))) (hle : l.length <= cur.size) (hcap : cap ≠ 0) (hb : l.length <= 2 ^ 60)
  (hcell : ∀ (j : Nat) (x : UInt8), l[j]? = some x -> cur[j]? = some (Value.int .u8 x.toNat)) : Calls Tryz.prog 79 #[.pointer (some ⟨b, 0, none⟩)] w fun e w' => e = .returned (.string ⟨l.toArray⟩) /\ w' = w.drew.freeze ⟨g, 0, none⟩ l.length := by
 have c1 : w.drew.cell? ⟨b, 1, none⟩ = some (.slice (some ⟨g, 0, none⟩) l.length cap) := hc
 have hg' : w.drew.heap[g]? = some (.cells cur 5 (0, 0)) := hg
 have hSD : (Builtin.unsafeSliceData_ #[46] 145 #[.slice (some ⟨g, 0, none⟩) l.length cap]).run Tryz.prog w.drew = .ok (.pointer (some ⟨g, 0, none⟩)) w.drew := Go.Lib.run_unsafeSliceData_row _ _ _ _ _ _ hcap
 have hUS : (Builtin.unsafeString_ #[145, 3] 9 #[.pointer (some ⟨g, 0, none⟩), .int .i64 l.length]).run Tryz.prog w.drew = .ok (.string ⟨l.toArray⟩) (w.drew.freeze ⟨g, 0, none⟩ l.length) := by
  refine Go.Lib.run_unsafeString_row w.drew 145 3 9 5 Tryz.underlying145 cellsByte g cur.size (by simp [World.shape?, hg']) l h0 hle (by omega) ?_
  intro j x hx
  have := hcell j x hx
  rw [cP, Nat.zero_add]
  simp [World.cell?, hg', this]
 clear hcap hle hb hcell
 have mixed := qQ
 go_enter Tryz.func79, Tryz.ntmps79
 go_wp2
 go_region_o
 all_goals (go_wp2; go_ret; exact ⟨rfl, rfl⟩)
set_option maxHeartbeats 2000000 in
theorem str_nil (b : Nat) (w : World) (hc : w.cell? ⟨b, 1, none⟩ = some (.slice none 0 0)) : Calls Tryz.prog 79 #[.pointer (some ⟨b, 0, none⟩)] w fun e w' => e = .returned (.string ⟨#[]⟩) /\ w' = w.drew := by
 have hUS := rA
 have c1 : w.drew.cell? ⟨b, 1, none⟩ = some (.slice none 0 0) := hc
 have hSD : (Builtin.unsafeSliceData_ #[46] 145 #[.slice none 0 0]).run Tryz.prog w.drew = .ok (.pointer none) w.drew := rfl
 have mixed := qQ
 go_enter Tryz.func79, Tryz.ntmps79
 go_wp2
 go_region_o
 all_goals (go_wp2; go_ret; exact ⟨rfl, rfl⟩)
set_option maxHeartbeats 2000000 in
theorem str_room (b g cap : Nat) (w : World) (hcap : cap ≠ 0) (hc : w.cell? ⟨b, 1, none⟩ = some (.slice (some ⟨g, 0, none⟩) 0 cap)) : Calls Tryz.prog 79 #[.pointer (some ⟨b, 0, none⟩)] w fun e w' => e = .returned (.string ⟨#[]⟩) /\ w' = w.drew := by
 have hUS := rA
 have c1 : w.drew.cell? ⟨b, 1, none⟩ = some (.slice (some ⟨g, 0, none⟩) 0 cap) := hc
 have hSD : (Builtin.unsafeSliceData_ #[46] 145 #[.slice (some ⟨g, 0, none⟩) 0 cap]).run Tryz.prog w.drew = .ok (.pointer (some ⟨g, 0, none⟩)) w.drew := Go.Lib.run_unsafeSliceData_row _ _ _ _ _ _ hcap
 clear hcap
 have mixed := qQ
 go_enter Tryz.func79, Tryz.ntmps79
 go_wp2
 go_region_o
 all_goals (go_wp2; go_ret; exact ⟨rfl, rfl⟩)
set_option maxHeartbeats 2000000 in
theorem uL (b g : Nat) (cur : Array Value) (w : World) (hlt : b < w.heap.size) (hc : w.cell? ⟨b, 1, none⟩ = some (.slice (some ⟨g, 0, none⟩) 0 0)) (hg : w.heap[g]? = some (.cells cur 5 (0, 0))) :
  Calls Tryz.prog 79 #[.pointer (some ⟨b, 0, none⟩)] w fun e w' => e = .returned (.string ⟨#[]⟩) /\ w' = w.drew.alloc (.view ⟨g, 0, none⟩ 5) := by
 have hUS := rA
 have c1 : w.drew.cell? ⟨b, 1, none⟩ = some (.slice (some ⟨g, 0, none⟩) 0 0) := hc
 have hg' : w.drew.heap[g]? = some (.cells cur 5 (0, 0)) := hg
 have hSD : (Builtin.unsafeSliceData_ #[46] 145 #[.slice (some ⟨g, 0, none⟩) 0 0]).run Tryz.prog w.drew = .ok (.pointer (some ⟨w.drew.heap.size, 0, none⟩)) (w.drew.alloc (.view ⟨g, 0, none⟩ 5)) :=
  Go.Lib.run_unsafeSliceData_zero w.drew _ _ 5 Tryz.underlying145 ⟨g, 0, none⟩ 0 (5, cur.size) (by simp [World.shape?, hg'])
 have c2 : (w.drew.alloc (.view ⟨g, 0, none⟩ 5)).cell? ⟨b, 1, none⟩ = some (.slice (some ⟨g, 0, none⟩) 0 0) := (World.cell?_of_block (a := ⟨b, 1, none⟩) (Go.Lib.alloc_old w.drew _ b hlt)).trans hc
 have c3 : (w.alloc (.view ⟨g, 0, none⟩ 5)).drew.cell? ⟨b, 1, none⟩ = some (.slice (some ⟨g, 0, none⟩) 0 0) := c2
 have mixed := qQ
 go_enter Tryz.func79, Tryz.ntmps79
 go_wp2
 go_region_o
 all_goals (go_wp2; go_ret; exact ⟨rfl, rfl⟩)
end Go.Rip
namespace Go.Rip
open Go Go.Proofs
set_option maxRecDepth 100000
theorem freeze_at {w : World} {g o n : Nat} {cs : Array Value} {T : TypeId} {fz : Nat × Nat} (hg : w.heap[g]? = some (.cells cs T fz)) : ∃ fz', (w.freeze ⟨g, o, none⟩ n).heap[g]? = some (.cells cs T fz') := by
 unfold World.freeze
 split
 ·exact ⟨_, hg⟩
 ·obtain ⟨lo, hi⟩ := fz
  simp only [Array.getElem?_modify, if_true, hg, Option.map_some]
  exact ⟨_, rfl⟩
theorem fY {w : World} {g o n b : Nat} (hb : b ≠ g) : (w.freeze ⟨g, o, none⟩ n).heap[b]? = w.heap[b]? := by
 unfold World.freeze
 split
 ·rfl
 ·simp [Array.getElem?_modify, Ne.symm hb]
theorem rZ {w : World} {g o n : Nat} : (w.freeze ⟨g, o, none⟩ n).heap.size = w.heap.size /\ (w.freeze ⟨g, o, none⟩ n).os = w.os /\ (w.freeze ⟨g, o, none⟩ n).output = w.output /\ (w.freeze ⟨g, o, none⟩ n).tape = w.tape := by
 unfold World.freeze
 split <;> simp
theorem Wf.frozen {GL : Glob} {E : Env} {A : Nat -> Nat -> Prop} {G : Gd} {h : List AObj} {w : World} (hW : Wf GL E A G h w) {a g n : Nat} {T T' : TypeId} {cs : Array Value} {fz : Nat × Nat} (ha : h[a]? = some (.spare T 1)) (hg : (E.tok a).ownBlock = some g) (hc : w.heap[g]? = some (.cells cs T' fz)) :
  Wf GL E A G (h.set a .dead) (w.freeze ⟨g, 0, none⟩ n) /\ Ext A G w A G (w.freeze ⟨g, 0, none⟩ n) := by
 obtain ⟨fz', hf⟩ := freeze_at (o := 0) (n := n) hc
 obtain ⟨f1, f2, f3, f4⟩ := rZ (w := w) (g := g) (o := 0) (n := n)
 have hlt := (List.getElem?_eq_some_iff.1 ha).1
 obtain ⟨m, xs, o1, o2, o3⟩ := hW.o a _ ha
 have hgi : ¬ G.i g := (o3 g hg).2
 have hgh : ¬ G.h g := hW.ho a _ g ha hg
 have hcell : ∀ b o, (w.freeze ⟨g, 0, none⟩ n).cell? ⟨b, o, none⟩ = w.cell? ⟨b, o, none⟩ := fun b o => by
  by_cases hb : b = g
  ·subst hb; simp [World.cell?, hc, hf]
  ·exact World.cell?_of_block (a := ⟨b, o, none⟩) (fY hb)
 have hX : Ext A G w A G (w.freeze ⟨g, 0, none⟩ n) := ⟨fun _ _ h => h, fun _ h => h, fun b o _ => hcell b o, fun b hb => fY fun e => hgi (e ▸ hb), by rw [f1]; exact Nat.le_refl _, f2, f3, f4, fun _ => Iff.rfl,
  fun b hb => ⟨fY fun e => hgh (e ▸ hb), fun _ h => h, id⟩⟩
 refine ⟨hW.step E.le_refl hX (by simp [hW.n]) (fun b o hA => ?_) (fun b hb => by rw [f1]; exact hW.g b hb) (fun j => j = a) ?_ ?_ ?_ ?_, hX⟩
 ·obtain ⟨v, hv⟩ := hW.a b o hA
  exact ⟨v, (hcell b o).trans hv⟩
 ·intro j x hx hj
  rw [List.getElem?_set_ne (Ne.symm hj)] at hx
  exact ⟨hx, fun b hb => ⟨fY fun e => hj (hW.d j a x _ b hx ha hb (by rw [e]; exact hg)), fun _ h => h, id⟩⟩
 ·rintro j x hx rfl
  simp [hlt] at hx
  subst hx
  trivial
 ·rintro i j x y b hx _ rfl hbx _
  simp [hlt] at hx
  subst hx
  simp [obk] at hbx
 ·rintro i x b hx rfl hbx
  simp [hlt] at hx
  subst hx
  simp [obk] at hbx
def BdV (bs : List UInt8) (v : AV) (h : List AObj) : Prop := (bs = [] /\ v = .v (.slice none 0 0)) ∨ ∃ a, v = .own a 1 (bs.map byteA) /\ h[a]? = some (.spare 5 1)
def BdT (T : TypeId) (n : Nat) : Prop := liesAt Tryz.prog Tryz.prog.depth T (n / Tryz.prog.cellsOf T) 0 102 1 = true
theorem eD : BdT 102 2 := by unfold BdT; kernel_rfl
variable {GL : Glob}
theorem nO {h : List AObj} {k : Nat} {x : AObj} (hk : h[k]? = some x) : h.set k x = h := by
 apply List.ext_getElem?
 intro i
 by_cases hi : k = i
 ·subst hi; rw [aH hk, hk]
 ·rw [aE hi]
theorem h117 {T : TypeId} {p : AV} {rest : List AV} {k : Nat} {h : List AObj} (hT : BdT T (rest.length + 1)) (hk : h[k]? = some (.cells T (p :: rest))) (hp : p = .v (.pointer none) ∨ p = .ref k 0) :
  AC Tryz.prog GL (.fn 117) [.ref k 0] h fun r h' => r = .val (.tup []) /\ h' = h.set k (.cells T (.ref k 0 :: rest)) := by
 intro E A G w vs hW ha
 simp only [Reps, Rep] at ha
 obtain ⟨_, _, rfl, ⟨hkn, rfl⟩, rfl⟩ := ha
 obtain ⟨cs, c1, c2, c3, c4, c5⟩ := hW.o k _ hk
 refine .inl ⟨enters_of Tryz.func117 (by kernel_rfl) rfl _ w, ?_⟩
 have hlen : cs.size = rest.length + 1 := by have := c3.length; simpa using this
 obtain ⟨u0, hu0, hr0⟩ := c3.get (i := 0) (x := p) rfl
 have hcell : w.cell? ⟨E.blk k, 0, none⟩ = some u0 := by rw [cell_of_row w _ 0 cs T (0, 0) c1, <- Array.getElem?_toList]; exact hu0
 rcases hp with rfl | rfl
 ·simp only [Rep] at hr0
  subst hr0
  have hsh : w.shape? (E.blk k) = some (T, rest.length + 1) := by simp [World.shape?, c1, hlen]
  have hfz : w.frozen? ⟨E.blk k, 0, none⟩ = false := by simp [World.frozen?, c1]
  refine (cc_fresh (E.blk k) _ T w hcell hsh (by omega) hT hfz).mono ?_
  rintro e w' ⟨rfl, rfl⟩
  have hb' : (w.setCell ⟨E.blk k, 0, none⟩ (.pointer (some ⟨E.blk k, 0, none⟩))).heap[E.blk k]? = some (.cells (cs.setIfInBounds 0 (.pointer (some ⟨E.blk k, 0, none⟩))) T (0, 0)) := by
   simp [World.setCell, Array.getElem?_modify, c1]
  have hg : w.grownBy (w.setCell ⟨E.blk k, 0, none⟩ (.pointer (some ⟨E.blk k, 0, none⟩))) (some (E.blk k)) :=
   ⟨rfl, rfl, rfl, by simp [World.setCell], fun i _ hi => by
    have : E.blk k ≠ i := fun e => hi (by rw [e])
    simp [World.setCell, Array.getElem?_modify, this]⟩
  have hX := aV hW hg (fun _ _ h => h) (fun b e => by cases e; exact ⟨c5, hW.ho k _ _ hk rfl, fun o ho => absurd ho (c4 o)⟩) (fun _ _ => .inl)
  refine ⟨E, A, G, .val (.tup []), _, hW.put (o' := .cells T (.ref k 0 :: rest)) hk rfl rfl hg c4 c5 hX ⟨_, hb', ?_, ?_, c4, c5⟩, hX, E.le_refl, ?_, rfl, rfl⟩
  ·intro u hu
   rw [Array.toList_setIfInBounds] at hu
   rcases List.mem_or_eq_of_mem_set hu with hu | rfl
   ·exact c2 u hu
   ·rfl
  ·rw [Array.toList_setIfInBounds]
   have c3' := Reps.mono E.le_refl hX _ _ c3
   simp only [Reps] at c3'
   obtain ⟨u, us, e1, _, e2⟩ := c3'
   rw [e1]
   simp only [List.set_cons_zero, Reps, Rep]
   exact ⟨_, _, rfl, ⟨hkn, rfl⟩, e2⟩
  ·simp only [EndRep, Rep]
   exact ⟨_, rfl, by simp [Reps]⟩
 ·simp only [Rep] at hr0
  rw [hr0.2] at hcell
  refine (cc_used (E.blk k) w hcell).mono ?_
  rintro e w' ⟨rfl, rfl⟩
  refine ⟨E, A, G, .val (.tup []), h, hW, Ext.refl _ _ _, E.le_refl, ?_, rfl, (nO hk).symm⟩
  simp only [EndRep, Rep]
  exact ⟨_, rfl, by simp [Reps]⟩
def SpK (_ : Nat) (o : AObj) : Prop := o = .spare 5 1
theorem h79 {T : TypeId} {p v : AV} {rest : List AV} {bs : List UInt8} {k : Nat} {h : List AObj} (hk : h[k]? = some (.cells T (p :: v :: rest))) (hv : BdV bs v h) :
  AC Tryz.prog GL (.fn 79) [.ref k 0] h fun r h' => r = .val (.str bs) /\ Keep SpK h h' /\ h'.length = h.length := by
 intro E A G w vs hW ha
 simp only [Reps, Rep] at ha
 obtain ⟨_, _, rfl, ⟨hkn, rfl⟩, rfl⟩ := ha
 obtain ⟨cs, c1, c2, c3, c4, c5⟩ := hW.o k _ hk
 refine .inl ⟨enters_of Tryz.func79 (by kernel_rfl) rfl _ w, ?_⟩
 obtain ⟨u1, hu1, hr1⟩ := c3.get (i := 1) (x := v) rfl
 have hcell : w.cell? ⟨E.blk k, 1, none⟩ = some u1 := by rw [cell_of_row w _ 1 cs T (0, 0) c1, <- Array.getElem?_toList]; exact hu1
 have drewW : Wf GL E A G h w.drew /\ Ext A G w A G w.drew := ⟨hW.drawn, Ext.drawn⟩
 rcases hv with ⟨rfl, rfl⟩ | ⟨a, rfl, hsp⟩
 ·simp only [Rep] at hr1
  subst hr1
  refine (str_nil (E.blk k) w hcell).mono ?_
  rintro e w' ⟨rfl, rfl⟩
  exact ⟨E, A, G, .val (.str []), h, drewW.1, drewW.2, E.le_refl, by simp [EndRep, Rep], rfl, Keep.refl _ _, rfl⟩
 ·obtain ⟨xs, o1, o2, hxl, hxr, o3, o4⟩ := rK hW hr1 hsp
  simp only [Rep] at hr1
  obtain ⟨han, htok, _, _, _, _, hn50, _, h50, _⟩ := hr1
  rw [hn50, List.length_map] at h50
  have hxs : xs = bs.map fun c => Value.int .u8 c.toNat := by
   have e : ∀ (l : List UInt8) (us : List Value), Reps E A G w ((l.map byteA).flatMap AV.cells) us -> us = l.map fun c => Value.int .u8 c.toNat := by
    intro l
    induction l with
    | nil => intro us h; simpa [Reps] using h
    | cons c r ih =>
     intro us h
     have : ((c :: r).map byteA).flatMap AV.cells = byteA c :: (r.map byteA).flatMap AV.cells := rfl
     rw [this] at h
     simp only [Reps] at h
     obtain ⟨u, us', rfl, hu, hr⟩ := h
     simp only [byteA, Rep] at hu
     rw [hu, ih _ hr]; rfl
   exact e bs xs hxr
  rw [List.length_map] at o1
  rcases o1.2 with ⟨rfl, h0⟩ | ⟨g, cap, cur, rfl, hbg, hg, hnc, hcm, hcs, htake⟩
  ·have : bs = [] := List.eq_nil_of_length_eq_zero h0
   subst this
   refine (str_nil (E.blk k) w hcell).mono ?_
   rintro e w' ⟨rfl, rfl⟩
   exact ⟨E, A, G, .val (.str []), h, drewW.1, drewW.2, E.le_refl, by simp [EndRep, Rep], rfl, Keep.refl _ _, rfl⟩
  ·by_cases hb : bs = []
   ·subst hb
    by_cases hc0 : cap = 0
    ·subst hc0
     refine (uL (E.blk k) g cur w (Array.getElem?_eq_some_iff.1 c1).1 hcell hg).mono ?_
     rintro e w' ⟨rfl, rfl⟩
     obtain ⟨q1, q2⟩ := drewW.1.below (w' := w.drew.alloc (.view ⟨g, 0, none⟩ 5)) ((RowKit.Below.refl _ _).alloc (Nat.le_refl _) _)
     exact ⟨E, A, G, .val (.str []), h, q1, drewW.2.trans q2, E.le_refl, by simp [EndRep, Rep], rfl, Keep.refl _ _, rfl⟩
    ·refine (str_room (E.blk k) g cap w hc0 hcell).mono ?_
     rintro e w' ⟨rfl, rfl⟩
     exact ⟨E, A, G, .val (.str []), h, drewW.1, drewW.2, E.le_refl, by simp [EndRep, Rep], rfl, Keep.refl _ _, rfl⟩
   ·have hpos : 0 < bs.length := List.length_pos_iff.2 hb
    have hcs' : cur.size = cap := by simpa using hcs
    refine (str_row (E.blk k) g cap cur bs w hcell hb hg (by omega) (by omega) (by omega) ?_).mono ?_
    ·intro j x hx
     have e1 : (cur.toList.take (bs.length * 1))[j]? = some (Value.int .u8 x.toNat) := by rw [htake, hxs, List.getElem?_map, hx]; rfl
     rw [List.getElem?_take] at e1
     split at e1
     ·rw [<- Array.getElem?_toList]; exact e1
     ·cases e1
    ·rintro e w' ⟨rfl, rfl⟩
     obtain ⟨q1, q2⟩ := drewW.1.frozen (n := bs.length) (g := g) hsp (by rw [<- htok]; rfl) (show w.drew.heap[g]? = some (.cells cur 5 (0, 0)) from hg)
     exact ⟨E, A, G, .val (.str bs), h.set a .dead, q1, drewW.2.trans q2, E.le_refl, by simp [EndRep, Rep], rfl, Keep.set _ hsp rfl, by simp⟩
end Go.Rip
