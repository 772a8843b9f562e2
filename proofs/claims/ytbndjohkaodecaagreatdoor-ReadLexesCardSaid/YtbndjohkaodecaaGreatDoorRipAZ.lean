/- Operators: maps of strings. -/
import Derived.Test.YtbndjohkaodecaaGreatDoorRipAX
import Derived.Test.YtbndjohkaodecaaGreatDoorRipAY
import Derived.Test.YtbndjohkaodecaaGreatDoorRipAK
import Derived.Test.YtbndjohkaodecaaGreatDoorRipAR
import Derived.Test.YtbndjohkaodecaaGreatDoorRipAS
namespace Go.Rip
open Go Go.Proofs
set_option maxRecDepth 100000
variable {GL : Glob}
attribute [local irreducible] Pure
def encOp (o : Opr) : AV := .agg [.i o.prio, .i o.left, .i o.right]
theorem free_encOp : Free encOp := ⟨fun κ a => by simp only [encOp, ren, rens], fun n a => by simp only [encOp, bd, bds, and_self]⟩
theorem qC (κ : Nat -> Nat) (c : Opr) : ren κ (encOp c) = encOp c := free_encOp.1 κ c
theorem bd_encOp (n : Nat) (c : Opr) : bd n (encOp c) = True := free_encOp.2 n c
attribute [go_sem] qC bd_encOp
abbrev OpM := List (Str × Opr)
def keysM (m : OpM) : List AV := m.map fun p => .str p.1
def valsM (m : OpM) : List AV := m.map fun p => encOp p.2
def idxM (s : Str) : OpM -> Option Nat
 | [] => none
 | (k, _) :: r => if s == k then some 0 else (idxM s r).map (· + 1)
theorem aY (s : Str) : ∀ m : OpM, findA (.one .str) (.str s) (keysM m) = some (idxM s m)
 | [] => by simp [keysM, findA, eqKQ, eqAV, idxM]
 | (k, o) :: r => by
  have ih := aY s r
  simp only [keysM] at ih
  simp only [keysM, List.map_cons, findA, ih, eqKQ, eqAV, idxM]
  cases s == k <;> rfl
def putM (s : Str) (o : Opr) (m : OpM) : OpM := match idxM s m with
 | some i => m.set i (s, o)
 | none => m ++ [(s, o)]
theorem mP {s : Str} {o : Opr} {m : OpM} {i : Nat} (h : idxM s m = some i) : keysM (putM s o m) = keysM m /\ valsM (putM s o m) = (valsM m).set i (encOp o) := by
 unfold putM
 rw [h]
 simp only
 induction m generalizing i with
 | nil => cases h
 | cons p r ih =>
  obtain ⟨k, q⟩ := p
  rw [idxM] at h
  split at h
  ·rename_i hk
   cases h
   have : s = k := by simpa using hk
   subst this
   exact ⟨rfl, rfl⟩
  ·obtain ⟨j, hj, rfl⟩ := Option.map_eq_some_iff.1 h
   obtain ⟨a, b⟩ := ih hj
   simp only [keysM, valsM, List.set_cons_succ, List.map_cons] at a b ⊢
   exact ⟨by rw [a], by rw [b]⟩
theorem fI {s : Str} {o : Opr} {m : OpM} (h : idxM s m = none) : keysM (putM s o m) = keysM m ++ [.str s] /\ valsM (putM s o m) = valsM m ++ [encOp o] := by
 unfold putM
 rw [h]
 simp [keysM, valsM]
theorem iG (s' s : Str) (o : Opr) : ∀ m : OpM, assoc s' (putM s o m) = if s' == s then some o else assoc s' m
 | [] => rfl
 | (k, q) :: r => by
  have ih := iG s' s o r
  unfold putM at ih ⊢
  rw [idxM]
  by_cases hk : s = k
  ·subst hk
   simp only [beq_self_eq_true, if_true, List.set_cons_zero, assoc]
   cases s' == s <;> rfl
  ·have hk' : (s == k) = false := by simpa using hk
   simp only [hk', Bool.false_eq_true, if_false]
   cases hi : idxM s r with
   | none =>
    rw [hi] at ih
    simp only [Option.map_none, List.cons_append, assoc] at ih ⊢
    rw [ih]
    by_cases e : s' = k
    ·subst e
     have : (s' == s) = false := by simpa using fun e => hk e.symm
     simp [this]
    ·have : (s' == k) = false := by simpa using e
     simp [this]
   | some i =>
    rw [hi] at ih
    simp only [Option.map_some, List.set_cons_succ, assoc] at ih ⊢
    rw [ih]
    by_cases e : s' = k
    ·subst e
     have : (s' == s) = false := by simpa using fun e => hk e.symm
     simp [this]
    ·have : (s' == k) = false := by simpa using e
     simp [this]
def opOf (p : Int) : Opr := if p == 700 then ⟨p, p - 1, p - 1⟩ else ⟨p, p, p - 1⟩
def putB (p : Int) (s : Str) (m : OpM) : OpM := if p == 700 then putM s ⟨p, p - 1, p - 1⟩ (putM s ⟨p, p, p - 1⟩ m) else putM s ⟨p, p, p - 1⟩ m
theorem vR (s' : Str) (p : Int) (s : Str) (m : OpM) : assoc s' (putB p s m) = if s' == s then some (opOf p) else assoc s' m := by
 unfold putB opOf
 split
 ·rw [iG, iG]; split <;> rfl
 ·rw [iG]
def putL (p : Int) (l : List Str) (m : OpM) : OpM := l.foldl (fun m s => putB p s m) m
theorem iW (s' : Str) (p : Int) : ∀ (l : List Str) (m : OpM), assoc s' (putL p l m) = if l.contains s' then some (opOf p) else assoc s' m
 | [], m => rfl
 | s :: r, m => by
  rw [putL, List.foldl_cons]
  have ih := iW s' p r (putB p s m)
  rw [putL] at ih
  rw [ih, vR, List.contains_cons]
  cases r.contains s' <;> cases s' == s <;> rfl
abbrev Blk := Int × Nat × List Str
def assocR (s : Str) : List Blk -> OpM -> Option Opr
 | [], m => assoc s m
 | b :: r, m => if b.2.2.contains s then some (opOf b.1) else assocR s r m
theorem lI {s : Str} {m m' : OpM} (h : assoc s m' = assoc s m) : ∀ r, assocR s r m' = assocR s r m
 | [] => h
 | b :: r => by rw [assocR, assocR, lI h r]
theorem lS {s : Str} {m : OpM} : ∀ {r : List Blk}, (∀ b ∈ r, b.2.2.contains s = false) -> assocR s r m = assoc s m
 | [], _ => rfl
 | b :: r, h => by rw [assocR, h b (by simp), if_neg (by simp), lS fun c hc => h c (by simp [hc])]
def Disj (r : List Blk) : Prop := r.Pairwise fun a b => ∀ s, a.2.2.contains s = true -> b.2.2.contains s = false
theorem kB (s : Str) (m : OpM) : ∀ (r : List Blk) (j : Nat) (b : Blk), Disj r -> r[j]? = some b -> assocR s (r.eraseIdx j) (putL b.1 b.2.2 m) = assocR s r m
 | [], _, _, _, h => by simp at h
 | a :: r, 0, b, hd, h => by
  simp at h
  subst h
  rw [List.eraseIdx_cons_zero, assocR]
  rcases hb : a.2.2.contains s with _ | _
  ·rw [if_neg (by simp)]
   exact lI (by rw [iW, hb, if_neg (by simp)]) r
  ·rw [if_pos rfl, lS fun c hc => (List.pairwise_cons.1 hd).1 c hc s hb, iW, hb, if_pos rfl]
 | a :: r, j + 1, b, hd, h => by
  rw [List.eraseIdx_cons_succ, assocR, assocR]
  have ih := kB s m r j b (List.pairwise_cons.1 hd).2 (by simpa using h)
  rw [ih]
def MapOp (T : Str -> Option Opr) (k : Nat) (h : List AObj) : Prop := ∃ m : OpM, h[k]? = some (.map (keysM m) (valsM m)) /\ ∀ s, assoc s m = T s
theorem h88n : AC Tryz.prog GL (.fn 88) [] [] fun x h' => x = .val (.mp 0) /\ h' = [.map (keysM prefixT) (valsM prefixT)] := by
 refine k88.call (by simp) ?_
 simp -implicitDefEqProofs only [go_sem, c88, r88]
 exact ⟨_, _, Wk.refl (by simp), rfl, rfl⟩
def blk3 : List Blk := [(700, 2, rel7), (500, 3, add5), (400, 4, mul4)]
theorem disj3 : Disj blk3 := by
 have e : ∀ (l m : List Str), (l.all fun s => !m.contains s) = true -> ∀ s, l.contains s = true -> m.contains s = false := fun l m h s hs => by
  have := List.all_eq_true.1 h s (by simpa using hs)
  simpa using this
 unfold Disj blk3
 refine List.pairwise_cons.2 ⟨?_, List.pairwise_cons.2 ⟨?_, List.pairwise_cons.2 ⟨?_, List.Pairwise.nil⟩⟩⟩
 ·intro b hb
  simp at hb
  rcases hb with rfl | rfl
  ·exact e _ _ (by kernel_rfl)
  ·exact e _ _ (by kernel_rfl)
 ·intro b hb
  simp at hb
  subst hb
  exact e _ _ (by kernel_rfl)
 ·intro b hb
  cases hb
theorem jB (s : Str) (a b : OpM) : assoc s (a ++ b) = match assoc s a with
  | some o => some o
  | none => assoc s b := by
 induction a with
 | nil => rfl
 | cons p r ih => obtain ⟨k, o⟩ := p; rw [List.cons_append, assoc, assoc, ih]; cases s == k <;> rfl
theorem iL (s : Str) (o : Opr) : ∀ l : List Str, assoc s (l.map fun k => (k, o)) = if l.contains s then some o else none
 | [] => rfl
 | k :: r => by
  rw [List.map_cons, assoc, iL s o r, List.contains_cons]
  cases s == k <;> rfl
theorem disj0 : ∀ (b : Blk), b ∈ blk3 -> ∀ s, b.2.2.contains s = true -> assoc s infixT0 = none := fun b hb s hs => by
 have h : ∀ b ∈ blk3, (b.2.2.all fun s => (assoc s infixT0).isNone) = true := by
  intro b hb
  simp [blk3] at hb
  rcases hb with rfl | rfl | rfl <;> kernel_rfl
 have := List.all_eq_true.1 (h b hb) s (by simpa using hs)
 simpa using this
theorem start3 (s : Str) : assocR s blk3 infixT0 = infixO s := by
 unfold infixO infixT
 rw [jB, jB, jB, iL, iL, iL]
 simp only [blk3, assocR, opOf]
 have d0 := disj0 (700, 2, rel7) (by simp [blk3]) s
 have d1 := disj0 (500, 3, add5) (by simp [blk3]) s
 have d2 := disj0 (400, 4, mul4) (by simp [blk3]) s
 simp only at d0 d1 d2
 rcases h7 : rel7.contains s with _ | _
 ·rcases h5 : add5.contains s with _ | _
  ·rcases h4 : mul4.contains s with _ | _
   ·cases assoc s infixT0 <;> rfl
   ·rw [d2 h4]; rfl
  ·rw [d1 h5]; rfl
 ·rw [d0 h7]; rfl
def blkV (b : Blk) : AV := .own b.2.1 1 (b.2.2.map AV.str)
theorem kY {α β : Type} (f : α -> β) : ∀ (l : List α) (j : Nat), (l.map f).eraseIdx j = (l.eraseIdx j).map f
 | [], _ => rfl
 | _ :: _, 0 => rfl
 | a :: r, j + 1 => by simp only [List.map_cons, List.eraseIdx_cons_succ, kY f r j]
theorem pI {α : Type} (f : α -> AV) {l : List α} {j : Nat} {b : α} (h : l[j]? = some b) : (l.map f).getD j .any = f b := by simp [List.getD, h]
def opHeap (m : OpM) (rem : List Blk) (last : List AV) : List AObj := [.map (keysM m) (valsM m), .dead, .spare 9 1, .spare 9 1, .spare 9 1, .miter (rem.map fun b => .i b.1) (rem.map blkV) last]
theorem h71n : AC Tryz.prog GL (.fn 71) [] [] fun x h' => x = .val (.mp 0) /\ MapOp infixO 0 h' := by
 refine k71.call (by simp) ?_
 simp -implicitDefEqProofs only [go_sem, c71, r71]
 refine cK hC (fun _ (p : List Blk × OpM × List AV) => [(1, .mp 0), (17, .ref 5 0)]) (fun j p h' => h' = opHeap p.2.1 p.1 p.2.2 /\ p.1.length + j = 3 /\ p.1.Sublist blk3 /\ ∀ s, assocR s p.1 p.2.1 = infixO s) 3 ⟨(blk3, infixT0, []), _, Wk.pick (by simp) (by simp [go_sem]), rfl, rfl, List.Sublist.refl _, start3⟩ fun j p h1 hj ⟨p1, p2, p3, p4⟩ => ?_
 obtain ⟨rem, m, last⟩ := p
 simp only at p1 p2 p3 p4
 subst p1
 unfold opHeap
 simp -implicitDefEqProofs only [go_sem]
 refine ⟨fun hn => ?_, fun i hi => ?_⟩
 ·have hr : rem = [] := by simpa using hn
  subst hr
  simp -implicitDefEqProofs only [go_sem]
  exact ⟨_, _, Wk.refl (by simp), rfl, m, rfl, p4⟩
 have hi' : i < rem.length := by simpa using hi
 obtain ⟨b, hb⟩ : ∃ b, rem[i]? = some b := ⟨rem[i], by simp [hi']⟩
 have hd := disj3.sublist p3
 have e1 := pI (fun b : Blk => (AV.i b.1)) hb
 have e2 := pI blkV hb
 have hbm : b ∈ blk3 := p3.subset (List.mem_of_getElem? hb)
 have hb1 : b.1 = 700 ∨ b.1 = 500 ∨ b.1 = 400 := by
  simp [blk3] at hbm
  rcases hbm with rfl | rfl | rfl <;> simp
 have w1 : IntKind.i64.wrap (b.1 - 1) = b.1 - 1 := aK _ (by omega)
 obtain ⟨pr, sp, strs⟩ := b
 simp only at e1 e2 hb1 w1
 have hsl : strs.length <= 10 := by
  simp [blk3] at hbm
  rcases hbm with ⟨_, _, rfl⟩ | ⟨_, _, rfl⟩ | ⟨_, _, rfl⟩ <;> decide
 rw [e1, e2, kY, kY]
 unfold blkV
 simp -implicitDefEqProofs only [go_sem, List.length_map]
 refine cK hC (fun k (_ : Unit) => [(25, .i (k : Nat)), (24, .i strs.length), (23, .own sp 1 (strs.map AV.str)), (2, .i pr), (1, .mp 0), (17, .ref 5 0)]) (fun k _ h' => k <= strs.length /\ h' = opHeap (putL pr (strs.take k) m) (rem.eraseIdx i) [.i pr, .own sp 1 (strs.map AV.str)]) strs.length ⟨(), _, Wk.pick (by simp) (by simp [go_sem]), by simp, rfl⟩ fun k _ h2 hk ⟨q1, q2⟩ => ?_
 subst q2
 unfold opHeap
 by_cases hlt : k < strs.length
 rotate_left
 ·have d1 : decide ((k : Int) < (strs.length : Int)) = false := decide_eq_false (by omega)
  simp -implicitDefEqProofs only [go_sem, d1]
  refine ⟨by omega, (rem.eraseIdx i, putL pr strs m, [.i pr, .own sp 1 (strs.map AV.str)]), _, Wk.pick (by simp) (by simp [go_sem]), ?_, ?_, ?_, ?_⟩
  ·rw [List.take_of_length_le (by omega)]; rfl
  ·simp only [List.length_eraseIdx, hi', if_true]; omega
  ·exact (List.eraseIdx_sublist _ _).trans p3
  ·intro s
   have := kB s m rem i (pr, sp, strs) hd hb
   simp only at this
   rw [this, p4]
 have d1 : decide ((k : Int) < (strs.length : Int)) = true := decide_eq_true (by omega)
 have eg : (strs.map AV.str).getD k .any = .str strs[k] := by simp [List.getD, hlt]
 have w2 : IntKind.i64.wrap ((k : Int) + 1) = ((k + 1 : Nat) : Int) := by rw [aK _ (by omega)]; simp
 have et : putL pr (strs.take (k + 1)) m = putB pr strs[k] (putL pr (strs.take k) m) := by
  rw [List.take_succ_eq_append_getElem hlt, putL, List.foldl_append]; rfl
 generalize putL pr (strs.take k) m = M at et ⊢
 simp -implicitDefEqProofs only [go_sem, d1, List.length_map, Int.toNat_natCast, hlt, eg, w1, aY]
 rcases hix : idxM strs[k] M with _ | i1
 ·obtain ⟨k1, k2⟩ := fI (o := ⟨pr, pr, pr - 1⟩) hix
  have k2' : valsM M ++ [.agg [.i pr, .i pr, .i (pr - 1)]] = valsM (putM strs[k] ⟨pr, pr, pr - 1⟩ M) := k2.symm
  simp only [<- k1, k2']
  generalize hM1 : putM strs[k] ⟨pr, pr, pr - 1⟩ M = M1 at *
  rcases h700 : (pr == 700) with _ | _
  ·rw [putB, h700, if_neg (by simp), hM1] at et
   simp -implicitDefEqProofs only [go_sem, w2]
   exact ⟨by omega, _, Wk.pick (by simp) (by simp [go_sem]), by omega, by rw [et]⟩
  ·rw [putB, h700, if_pos rfl, hM1] at et
   simp -implicitDefEqProofs only [go_sem, w1, aY]
   rcases hix2 : idxM strs[k] M1 with _ | i2
   ·obtain ⟨r1, r2⟩ := fI (o := ⟨pr, pr - 1, pr - 1⟩) hix2
    have r2' : valsM M1 ++ [.agg [.i pr, .i (pr - 1), .i (pr - 1)]] = valsM (putM strs[k] ⟨pr, pr - 1, pr - 1⟩ M1) := r2.symm
    simp only [<- r1, r2']
    simp -implicitDefEqProofs only [go_sem, w2]
    exact ⟨by omega, _, Wk.pick (by simp) (by simp [go_sem]), by omega, by rw [et]⟩
   ·obtain ⟨r1, r2⟩ := mP (o := ⟨pr, pr - 1, pr - 1⟩) hix2
    have r2' : (valsM M1).set i2 (.agg [.i pr, .i (pr - 1), .i (pr - 1)]) = valsM (putM strs[k] ⟨pr, pr - 1, pr - 1⟩ M1) := r2.symm
    simp -implicitDefEqProofs only [go_sem, w2, r2']
    exact ⟨by omega, _, Wk.pick (by simp) (by simp [go_sem]), by omega, by rw [et, r1]⟩
 ·obtain ⟨k1, k2⟩ := mP (o := ⟨pr, pr, pr - 1⟩) hix
  have k2' : (valsM M).set i1 (.agg [.i pr, .i pr, .i (pr - 1)]) = valsM (putM strs[k] ⟨pr, pr, pr - 1⟩ M) := k2.symm
  simp only [k2']
  rw [<- k1]
  generalize hM1 : putM strs[k] ⟨pr, pr, pr - 1⟩ M = M1 at *
  rcases h700 : (pr == 700) with _ | _
  ·rw [putB, h700, if_neg (by simp), hM1] at et
   simp -implicitDefEqProofs only [go_sem, w2]
   exact ⟨by omega, _, Wk.pick (by simp) (by simp [go_sem]), by omega, by rw [et]⟩
  ·rw [putB, h700, if_pos rfl, hM1] at et
   simp -implicitDefEqProofs only [go_sem, w1, aY]
   rcases hix2 : idxM strs[k] M1 with _ | i2
   ·obtain ⟨r1, r2⟩ := fI (o := ⟨pr, pr - 1, pr - 1⟩) hix2
    have r2' : valsM M1 ++ [.agg [.i pr, .i (pr - 1), .i (pr - 1)]] = valsM (putM strs[k] ⟨pr, pr - 1, pr - 1⟩ M1) := r2.symm
    simp only [<- r1, r2']
    simp -implicitDefEqProofs only [go_sem, w2]
    exact ⟨by omega, _, Wk.pick (by simp) (by simp [go_sem]), by omega, by rw [et]⟩
   ·obtain ⟨r1, r2⟩ := mP (o := ⟨pr, pr - 1, pr - 1⟩) hix2
    have r2' : (valsM M1).set i2 (.agg [.i pr, .i (pr - 1), .i (pr - 1)]) = valsM (putM strs[k] ⟨pr, pr - 1, pr - 1⟩ M1) := r2.symm
    simp -implicitDefEqProofs only [go_sem, w2, r2']
    exact ⟨by omega, _, Wk.pick (by simp) (by simp [go_sem]), by omega, by rw [et, r1]⟩
theorem rI (c : UInt8) (n : Nat) (h : n <= c.toNat) : IntKind.u8.wrap ((c.toNat : Int) - n) = (c.toNat : Int) - n := by
 have := c.toNat_lt
 simp [IntKind.wrap, IntKind.bits, IntKind.signed]; omega
theorem sF {c : UInt8} (h : isDigit c = true) : 48 <= c.toNat /\ c.toNat <= 57 := by
 simp only [isDigit, Bool.and_eq_true, decide_eq_true_eq] at h; omega
theorem h187 (c : UInt8) : Pure (PC GL) 187 [.u c] (.i (hexV c)) := by
 refine aN (by simp [go_sem]) (by simp [go_sem]) ?_
 refine k187.call (by simp) ?_
 simp -implicitDefEqProofs only [go_sem, c187, r187]
 refine aC hC (h99 _) ?_
 have hlt := c.toNat_lt
 rcases hD : isDigit c with _ | _
 ·by_cases h1 : 97 <= c.toNat
  ·have d1 : decide ((c.toNat : Int) >= 97) = true := decide_eq_true (by omega)
   by_cases h2 : c.toNat <= 102
   ·have d2 : decide ((c.toNat : Int) <= 102) = true := decide_eq_true (by omega)
    have w1 : IntKind.u8.wrap ((c.toNat : Int) - 97) = (c.toNat : Int) - 97 := rI c 97 h1
    have w2 : IntKind.i64.wrap ((c.toNat : Int) - 97) = (c.toNat : Int) - 97 := aK _ (by omega)
    have w3 : IntKind.i64.wrap ((c.toNat : Int) - 97 + 10) = (c.toNat : Int) - 97 + 10 := aK _ (by omega)
    simp -implicitDefEqProofs only [go_sem, d1, d2, w1, w2, w3]
    exact aX (Nat.le_refl _) (by rw [hexV, hD, d1, d2]; rfl)
   ·have d2 : decide ((c.toNat : Int) <= 102) = false := decide_eq_false (by omega)
    simp -implicitDefEqProofs only [go_sem, d1, d2]
    exact aX (Nat.le_refl _) (by rw [hexV, hD, d1, d2]; rfl)
  ·have d1 : decide ((c.toNat : Int) >= 97) = false := decide_eq_false (by omega)
   simp -implicitDefEqProofs only [go_sem, d1]
   exact aX (Nat.le_refl _) (by rw [hexV, hD, d1]; rfl)
 ·have hd := sF hD
  have w1 : IntKind.u8.wrap ((c.toNat : Int) - 48) = (c.toNat : Int) - 48 := rI c 48 hd.1
  have w2 : IntKind.i64.wrap ((c.toNat : Int) - 48) = (c.toNat : Int) - 48 := aK _ (by omega)
  simp -implicitDefEqProofs only [go_sem, w1, w2]
  exact aX (Nat.le_refl _) (by rw [hexV, hD]; rfl)
theorem h100w {l : List UInt8} (a : Nat) (hl : l.length < 2 ^ 40) (ha : a <= l.length) : Pure (PC GL) 100 [.str l, .i a, .v (.int .u8 119)] (.i (a + run isName (l.drop a) : Nat)) := by
 have HP := fun c => h102 (GL := GL) c
 generalize isName = P at HP ⊢
 refine aN (by simp [go_sem]) (by simp [go_sem]) ?_
 refine k100.call (by simp) ?_
 simp -implicitDefEqProofs only [go_sem, c100, r100]
 refine eE hC (fun j => j <= run P (l.drop a)) (fun j => [(1, .i (a + j : Nat))]) [0, 2] l.length (by omega) ?_ ?_
 ·exact Wk.pick (Nat.le_refl _) (by simp [go_sem, Picks])
 ·intro j hj hi
  have hrl := dD P (l.drop a)
  simp only [List.length_drop] at hrl
  obtain ⟨r1, r2, r3⟩ := fQ hi
  have w1 : IntKind.i64.wrap (((a + j : Nat) : Int) + 1) = ((a + (j + 1) : Nat) : Int) := by rw [aK _ (by omega)]; omega
  have k1 : ((115 : Int) == 119) = false := rfl
  have k2 : ((100 : Int) == 119) = false := rfl
  have k3 : ((100 : Int) == 115) = false := rfl
  have k4 : ((119 : Int) == 115) = false := rfl
  have k5 : ((119 : Int) == 100) = false := rfl
  have k6 : ((115 : Int) == 100) = false := rfl
  have k7 : ((119 : Int) == 119) = true := rfl
  have k8 : ((115 : Int) == 115) = true := rfl
  have k9 : ((100 : Int) == 100) = true := rfl
  by_cases hlt : a + j < l.length
  ·have d1 : decide (((a + j : Nat) : Int) < (l.length : Int)) = true := decide_eq_true (by omega)
   obtain ⟨hj', eg⟩ := gZ hlt
   have eg' : l.getD (a + j) 0 = l[a + j] := by simp [List.getD, hlt]
   simp -implicitDefEqProofs only [go_sem, d1, Int.toNat_natCast, hlt, eg', k7]
   refine aC hC (HP _) ?_
   rcases hpc : P l[a + j] with _ | _
   ·have := r2 hj' (by rw [eg]; exact hpc)
    simp -implicitDefEqProofs only [go_sem, k4, k5]
    exact aX (Nat.le_refl _) (by rw [this])
   ·have := r1 hj' (by rw [eg]; exact hpc)
    simp -implicitDefEqProofs only [go_sem, w1]
    exact ⟨by omega, by omega, Wk.pick (Nat.le_refl _) (by simp [go_sem, Picks])⟩
  ·have d1 : decide (((a + j : Nat) : Int) < (l.length : Int)) = false := decide_eq_false (by omega)
   have := r3 (by simp; omega)
   simp -implicitDefEqProofs only [go_sem, d1]
   exact aX (Nat.le_refl _) (by rw [this])
theorem h100s {l : List UInt8} (a : Nat) (hl : l.length < 2 ^ 40) (ha : a <= l.length) : Pure (PC GL) 100 [.str l, .i a, .v (.int .u8 115)] (.i (a + run isSym (l.drop a) : Nat)) := by
 have HP := fun c => h105 (GL := GL) c
 generalize isSym = P at HP ⊢
 refine aN (by simp [go_sem]) (by simp [go_sem]) ?_
 refine k100.call (by simp) ?_
 simp -implicitDefEqProofs only [go_sem, c100, r100]
 refine eE hC (fun j => j <= run P (l.drop a)) (fun j => [(1, .i (a + j : Nat))]) [0, 2] l.length (by omega) ?_ ?_
 ·exact Wk.pick (Nat.le_refl _) (by simp [go_sem, Picks])
 ·intro j hj hi
  have hrl := dD P (l.drop a)
  simp only [List.length_drop] at hrl
  obtain ⟨r1, r2, r3⟩ := fQ hi
  have w1 : IntKind.i64.wrap (((a + j : Nat) : Int) + 1) = ((a + (j + 1) : Nat) : Int) := by rw [aK _ (by omega)]; omega
  have k1 : ((115 : Int) == 119) = false := rfl
  have k2 : ((100 : Int) == 119) = false := rfl
  have k3 : ((100 : Int) == 115) = false := rfl
  have k4 : ((119 : Int) == 115) = false := rfl
  have k5 : ((119 : Int) == 100) = false := rfl
  have k6 : ((115 : Int) == 100) = false := rfl
  have k7 : ((119 : Int) == 119) = true := rfl
  have k8 : ((115 : Int) == 115) = true := rfl
  have k9 : ((100 : Int) == 100) = true := rfl
  by_cases hlt : a + j < l.length
  ·have d1 : decide (((a + j : Nat) : Int) < (l.length : Int)) = true := decide_eq_true (by omega)
   obtain ⟨hj', eg⟩ := gZ hlt
   have eg' : l.getD (a + j) 0 = l[a + j] := by simp [List.getD, hlt]
   simp -implicitDefEqProofs only [go_sem, d1, Int.toNat_natCast, hlt, eg', k1, k8]
   refine aC hC (HP _) ?_
   rcases hpc : P l[a + j] with _ | _
   ·have := r2 hj' (by rw [eg]; exact hpc)
    simp -implicitDefEqProofs only [go_sem, k6]
    exact aX (Nat.le_refl _) (by rw [this])
   ·have := r1 hj' (by rw [eg]; exact hpc)
    simp -implicitDefEqProofs only [go_sem, w1]
    exact ⟨by omega, by omega, Wk.pick (Nat.le_refl _) (by simp [go_sem, Picks])⟩
  ·have d1 : decide (((a + j : Nat) : Int) < (l.length : Int)) = false := decide_eq_false (by omega)
   have := r3 (by simp; omega)
   simp -implicitDefEqProofs only [go_sem, d1]
   exact aX (Nat.le_refl _) (by rw [this])
theorem h100d {l : List UInt8} (a : Nat) (hl : l.length < 2 ^ 40) (ha : a <= l.length) : Pure (PC GL) 100 [.str l, .i a, .v (.int .u8 100)] (.i (a + run isDigit (l.drop a) : Nat)) := by
 have HP := fun c => h99 (GL := GL) c
 generalize isDigit = P at HP ⊢
 refine aN (by simp [go_sem]) (by simp [go_sem]) ?_
 refine k100.call (by simp) ?_
 simp -implicitDefEqProofs only [go_sem, c100, r100]
 refine eE hC (fun j => j <= run P (l.drop a)) (fun j => [(1, .i (a + j : Nat))]) [0, 2] l.length (by omega) ?_ ?_
 ·exact Wk.pick (Nat.le_refl _) (by simp [go_sem, Picks])
 ·intro j hj hi
  have hrl := dD P (l.drop a)
  simp only [List.length_drop] at hrl
  obtain ⟨r1, r2, r3⟩ := fQ hi
  have w1 : IntKind.i64.wrap (((a + j : Nat) : Int) + 1) = ((a + (j + 1) : Nat) : Int) := by rw [aK _ (by omega)]; omega
  have k1 : ((115 : Int) == 119) = false := rfl
  have k2 : ((100 : Int) == 119) = false := rfl
  have k3 : ((100 : Int) == 115) = false := rfl
  have k4 : ((119 : Int) == 115) = false := rfl
  have k5 : ((119 : Int) == 100) = false := rfl
  have k6 : ((115 : Int) == 100) = false := rfl
  have k7 : ((119 : Int) == 119) = true := rfl
  have k8 : ((115 : Int) == 115) = true := rfl
  have k9 : ((100 : Int) == 100) = true := rfl
  by_cases hlt : a + j < l.length
  ·have d1 : decide (((a + j : Nat) : Int) < (l.length : Int)) = true := decide_eq_true (by omega)
   obtain ⟨hj', eg⟩ := gZ hlt
   have eg' : l.getD (a + j) 0 = l[a + j] := by simp [List.getD, hlt]
   simp -implicitDefEqProofs only [go_sem, d1, Int.toNat_natCast, hlt, eg', k2, k3, k9]
   refine aC hC (HP _) ?_
   rcases hpc : P l[a + j] with _ | _
   ·have := r2 hj' (by rw [eg]; exact hpc)
    simp -implicitDefEqProofs only [go_sem]
    exact aX (Nat.le_refl _) (by rw [this])
   ·have := r1 hj' (by rw [eg]; exact hpc)
    simp -implicitDefEqProofs only [go_sem, w1]
    exact ⟨by omega, by omega, Wk.pick (Nat.le_refl _) (by simp [go_sem, Picks])⟩
  ·have d1 : decide (((a + j : Nat) : Int) < (l.length : Int)) = false := decide_eq_false (by omega)
   have := r3 (by simp; omega)
   simp -implicitDefEqProofs only [go_sem, d1]
   exact aX (Nat.le_refl _) (by rw [this])
theorem tM (l : List UInt8) (c : UInt8) : decVal (l ++ [c]) = 10 * decVal l + (c.toNat - 48) := by simp [decVal]
theorem fT {l : List UInt8} {j : Nat} (h : j < l.length) : decVal (l.take (j + 1)) = 10 * decVal (l.take j) + (l[j].toNat - 48) := by
 rw [List.take_succ_eq_append_getElem h, tM]
theorem decVal_le {l : List UInt8} : ∀ {j : Nat}, j <= l.length -> ∀ m, decVal (l.take j) > m -> decVal l > m := by
 suffices h : ∀ d j, l.length - j = d -> j <= l.length -> ∀ m, decVal (l.take j) > m -> decVal l > m from fun {j} hj m hm => h _ j rfl hj m hm
 intro d
 induction d with
 | zero => intro j hd hj m hm; rw [List.take_of_length_le (by omega)] at hm; exact hm
 | succ d ih =>
  intro j hd hj m hm
  exact ih (j + 1) (by omega) (by omega) m (by rw [fT (by omega)]; omega)
theorem h101 {s : List UInt8} (hs : s.all isDigit = true) (hl : s.length < 2 ^ 40) : Pure (PC GL) 101 [.str s] (if decVal s > 2147483647 then .tup [.i 0, .b false] else .tup [.i (decVal s), .b true]) := by
 refine aN (by simp [go_sem]) (by split <;> simp [go_sem]) ?_
 refine k101.call (by simp) ?_
 simp -implicitDefEqProofs only [go_sem, c101, r101]
 refine eE hC (fun j => j <= s.length /\ decVal (s.take j) <= 2147483647) (fun j => [(5, .i (j : Nat)), (4, .i (decVal (s.take j)))]) [0] s.length (by simp [decVal]) ?_ ?_
 ·exact Wk.pick (Nat.le_refl _) (by simp [go_sem, Picks, decVal])
 ·intro j hj ⟨hi, hm⟩
  have w1 : IntKind.i64.wrap ((j : Int) + 1) = ((j + 1 : Nat) : Int) := by rw [aK _ (by omega)]; omega
  by_cases hlt : j < s.length
  ·have d1 : decide ((j : Int) < (s.length : Int)) = true := decide_eq_true (by omega)
   have eg' : s.getD j 0 = s[j] := by simp [List.getD, hlt]
   have hd := sF (List.all_eq_true.1 hs s[j] (List.getElem_mem hlt))
   have w2 : IntKind.u8.wrap ((s[j].toNat : Int) - 48) = (s[j].toNat : Int) - 48 := rI s[j] 48 hd.1
   have w3 : IntKind.i64.wrap ((s[j].toNat : Int) - 48) = (s[j].toNat : Int) - 48 := aK _ (by omega)
   have w4 : IntKind.i64.wrap ((decVal (s.take j) : Int) * 10) = (decVal (s.take j) : Int) * 10 := aK _ (by omega)
   have w5 : IntKind.i64.wrap ((decVal (s.take j) : Int) * 10 + ((s[j].toNat : Int) - 48)) = (decVal (s.take (j + 1)) : Int) := by rw [aK _ (by omega), fT hlt]; omega
   by_cases hb : decVal (s.take (j + 1)) > 2147483647
   ·have d2 : decide ((decVal (s.take (j + 1)) : Int) > 2147483647) = true := decide_eq_true (by omega)
    have hB := decVal_le (l := s) (j := j + 1) (by omega) _ hb
    simp -implicitDefEqProofs only [go_sem, d1, Int.toNat_natCast, hlt, eg', w2, w3, w4, w5, d2]
    exact aX (Nat.le_refl _) (by rw [if_pos hB])
   ·have d2 : decide ((decVal (s.take (j + 1)) : Int) > 2147483647) = false := decide_eq_false (by omega)
    simp -implicitDefEqProofs only [go_sem, d1, Int.toNat_natCast, hlt, eg', w1, w2, w3, w4, w5, d2]
    exact ⟨⟨by omega, by omega⟩, Wk.pick (Nat.le_refl _) (by simp [go_sem, Picks])⟩
  ·have d1 : decide ((j : Int) < (s.length : Int)) = false := decide_eq_false (by omega)
   have et : s.take j = s := List.take_of_length_le (by omega)
   rw [et] at hm ⊢
   simp -implicitDefEqProofs only [go_sem, d1]
   exact aX (Nat.le_refl _) (by rw [if_neg (by omega)])
theorem h146 {l : List UInt8} (p : Nat) (hl : l.length < 2 ^ 40) (hp : p <= l.length) : Pure (PC GL) 146 [.str l, .i p] (match esc (l.drop p) with
  | some (b, m) => .tup [.u b, .i (p + m : Nat)]
  | none => .tup [.u 0, .i 0]) := by
 refine aN (by simp [go_sem]) (by cases esc (l.drop p) <;> simp [go_sem]) ?_
 refine k146.call (by simp) ?_
 have b34 : ∀ c : UInt8, ((c.toNat : Int) == 34) = (c == 34) := fun c => bJ c 34
 have b92 : ∀ c : UInt8, ((c.toNat : Int) == 92) = (c == 92) := fun c => bJ c 92
 have b110 : ∀ c : UInt8, ((c.toNat : Int) == 110) = (c == 110) := fun c => bJ c 110
 have b120 : ∀ c : UInt8, ((c.toNat : Int) == 120) = (c == 120) := fun c => bJ c 120
 have w1 : IntKind.i64.wrap ((p : Int) + 1) = ((p + 1 : Nat) : Int) := by rw [aK _ (by omega)]; simp
 have w2 : IntKind.i64.wrap ((p : Int) + 2) = ((p + 2 : Nat) : Int) := by rw [aK _ (by omega)]; simp
 have w3 : IntKind.i64.wrap ((p : Int) + 3) = ((p + 3 : Nat) : Int) := by rw [aK _ (by omega)]; simp
 by_cases hq : p < l.length
 ·have d1 : decide ((p : Int) >= (l.length : Int)) = false := decide_eq_false (by omega)
  have he := congrArg esc (bE hq)
  rw [esc.eq_2] at he
  rw [he]
  simp -implicitDefEqProofs only [go_sem, c146, r146, d1, Int.toNat_natCast, hq]
  rcases h34 : (l.getD p 0 == 34) with _ | _
  ·rcases h92 : (l.getD p 0 == 92) with _ | _
   ·rcases h4 : (l.getD p 0 == 110) with _ | _
    ·rcases h5 : (l.getD p 0 == 120) with _ | _
     ·simp -implicitDefEqProofs only [go_sem, Int.toNat_natCast, hq, b34, b92, b110, b120, h34, h92, h4, h5]
      exact aX (Nat.le_refl _) (by simp)
     ·by_cases hq2 : p + 2 < l.length
      ·have d2 : decide (((p + 2 : Nat) : Int) < (l.length : Int)) = true := decide_eq_true (by omega)
       have hq1 : p + 1 < l.length := by omega
       rw [bE hq1, bE hq2, escHex]
       simp -implicitDefEqProofs only [go_sem, Int.toNat_natCast, hq, b34, b92, b110, b120, h34, h92, h4, h5, w1, w2, d2, Int.toNat_natCast, hq1]
       have hx := mJ (l.getD (p + 1) 0)
       have hy := mJ (l.getD (p + 2) 0)
       have qx := h187 (GL := GL) (l.getD (p + 1) 0)
       have qy := h187 (GL := GL) (l.getD (p + 2) 0)
       refine aC hC qx ?_
       generalize hexV (l.getD (p + 1) 0) = X at hx qx ⊢
       by_cases h6 : 0 <= X
       ·have e6 : decide (X >= 0) = true := decide_eq_true h6
        simp -implicitDefEqProofs only [go_sem, e6, Int.toNat_natCast, hq2, w2]
        refine aC hC qy ?_
        generalize hexV (l.getD (p + 2) 0) = Y at hy qy ⊢
        by_cases h7 : 0 <= Y
        ·have e7 : decide (Y >= 0) = true := decide_eq_true h7
         have v1 : IntKind.i64.wrap (16 * X) = 16 * X := aK _ (by omega)
         have v2 : IntKind.i64.wrap (16 * X + Y) = 16 * X + Y := aK _ (by omega)
         have v3 : IntKind.u8.wrap (16 * X + Y) = ((UInt8.ofNat (16 * X + Y).toNat).toNat : Int) := by
          simp [IntKind.wrap, IntKind.bits, IntKind.signed]; omega
         simp -implicitDefEqProofs only [go_sem, e7, Int.toNat_natCast, hq1, hq2, w1, w2, w3]
         refine aC hC qx ?_
         simp -implicitDefEqProofs only [go_sem, v1]
         refine aC hC qy ?_
         simp -implicitDefEqProofs only [go_sem, v2, v3]
         exact aX (Nat.le_refl _) (by rw [if_pos (⟨h6, h7⟩ : 0 <= X /\ 0 <= Y)]; simp)
        ·have e7 : decide (Y >= 0) = false := decide_eq_false h7
         simp -implicitDefEqProofs only [go_sem, e7]
         exact aX (Nat.le_refl _) (by rw [if_neg (fun e => h7 e.2 : ¬ (0 <= X /\ 0 <= Y))]; simp)
       ·have e6 : decide (X >= 0) = false := decide_eq_false h6
        simp -implicitDefEqProofs only [go_sem, e6]
        exact aX (Nat.le_refl _) (by rw [if_neg (fun e => h6 e.1 : ¬ (0 <= X /\ 0 <= hexV (l.getD (p + 2) 0)))]; simp)
      ·have d2 : decide (((p + 2 : Nat) : Int) < (l.length : Int)) = false := decide_eq_false (by omega)
       have hn : escHex (l.drop (p + 1)) = none := by
        have : (l.drop (p + 1)).length < 2 := by simp; omega
        match l.drop (p + 1), this with
        | [], _ => rfl
        | [_], _ => rfl
       rw [hn]
       simp -implicitDefEqProofs only [go_sem, Int.toNat_natCast, hq, b34, b92, b110, b120, h34, h92, h4, h5, w2, d2]
       exact aX (Nat.le_refl _) (by simp)
    ·simp -implicitDefEqProofs only [go_sem, Int.toNat_natCast, hq, b34, b92, b110, h34, h92, h4, w1]
     exact aX (Nat.le_refl _) (by simp)
   ·simp -implicitDefEqProofs only [go_sem, Int.toNat_natCast, hq, b34, b92, h34, h92, w1]
    exact aX (Nat.le_refl _) (by simp)
  ·simp -implicitDefEqProofs only [go_sem, Int.toNat_natCast, hq, b34, h34, w1]
   exact aX (Nat.le_refl _) (by simp)
 ·have d1 : decide ((p : Int) >= (l.length : Int)) = true := decide_eq_true (by omega)
  rw [List.drop_of_length_le (show l.length <= p by omega), esc]
  simp -implicitDefEqProofs only [go_sem, c146, r146, d1]
  exact aX (Nat.le_refl _) rfl
theorem jL : ∀ bs : List UInt8, bytesA (bs.map byteA) = some bs
 | [] => rfl
 | c :: r => by simp only [List.map_cons, byteA, bytesA]; rw [show (r.map byteA) = r.map byteA from rfl, jL r]; simp
theorem nE {c : UInt8} : isPlain c = (decide ((c.toNat : Int) >= 32) && decide ((c.toNat : Int) <= 126)) := rfl
def refStr (l : List UInt8) (a : Nat) : AV := match qStr (l.drop (a + 1)) with
 | some (t, k) => if t.length > 255 then .tup [.str [], .i 0] else .tup [.str t, .i (a + 1 + k : Nat)]
 | none => .tup [.str [], .i 0]
def refName (l : List UInt8) (a : Nat) : AV := match qName (l.drop (a + 1)) with
 | some (t, k) => if t.length < 1 ∨ t.length > 32 then .tup [.str [], .i 0] else .tup [.str t, .i (a + 1 + k : Nat)]
 | none => .tup [.str [], .i 0]
theorem dK (l : List UInt8) (a : Nat) : bd 0 (refStr l a) := by
 unfold refStr; split
 ·split <;> simp [go_sem]
 ·simp [go_sem]
theorem cC (l : List UInt8) (a : Nat) : bd 0 (refName l a) := by
 unfold refName; split
 ·split <;> simp [go_sem]
 ·simp [go_sem]
theorem aR {x v : AV} {h : List AObj} (hb : bd 0 v) (e : x = v) : ∃ y h', Wk GL 0 [(0, x)] h [(0, y)] h' /\ h' = [] /\ ARes.val y = ARes.val v := by subst e; exact aO (jV _) hb
theorem h97s {l : List UInt8} {a : Nat} (hl : l.length < 2 ^ 30) (ha : a < l.length) (hq : l.getD a 0 = 34) : Pure (PC GL) 97 [.str l, .i a] (refStr l a) := by
 refine aN (by simp [go_sem]) (dK l a) ?_
 refine k97.call (by simp) ?_
 have w1 : IntKind.i64.wrap ((a : Int) + 1) = ((a + 1 : Nat) : Int) := by rw [aK _ (by omega)]; simp
 have e34 : ((34 : UInt8).toNat : Int) = 34 := rfl
 have bQ : ∀ c : UInt8, ((c.toNat : Int) == 34) = (c == 34) := fun c => bJ c 34
 have b92 : ∀ c : UInt8, ((c.toNat : Int) == 92) = (c == 92) := fun c => bJ c 92
 have b39 : ∀ c : UInt8, ((c.toNat : Int) == 39) = (c == 39) := fun c => bJ c 39
 have n1 : ((39 : Int) == 34) = false := rfl
 have n2 : ((34 : Int) == 39) = false := rfl
 have n3 : ((39 : Int) == 39) = true := rfl
 have n4 : ((34 : Int) == 34) = true := rfl
 simp -implicitDefEqProofs only [go_sem, c97, r97, Int.toNat_natCast, ha, hq, e34, w1]
 refine cK hC (fun _ (p : Nat × List UInt8 × Nat) => [(0, .str l), (6, .v (.int .u8 34)), (7, .own p.2.2 1 (p.2.1.map byteA)), (8, .i (p.1 : Nat))]) (fun j p h' => a + 1 + j <= p.1 /\ p.1 <= l.length /\ p.2.1.length <= p.1 /\ QAt qStr l (a + 1) p.1 p.2.1 /\ h'[p.2.2]? = some (.spare 5 1)) l.length ⟨(a + 1, [], 0), _, Wk.pick (by simp) (by simp [go_sem]), by simp, by simp; omega, by simp, QAt.start _ _, rfl⟩ fun j p h1 hj ⟨p1, p2, p3, p4, p5⟩ => ?_
 obtain ⟨p, bs, b⟩ := p
 simp only at p1 p2 p3 p4 p5
 have hlb := aL p5
 by_cases hp : p < l.length
 rotate_left
 ·have d1 : decide ((p : Int) < (l.length : Int)) = false := decide_eq_false (by omega)
  have hst : refStr l a = .tup [.str [], .i 0] := by rw [refStr, p4, List.drop_of_length_le (show l.length <= p by omega)]; rfl
  simp -implicitDefEqProofs only [go_sem, d1]
  exact aR (dK l a) hst.symm
 have d1 : decide ((p : Int) < (l.length : Int)) = true := decide_eq_true (by omega)
 have hd := bE hp
 have hstep := pR (l.getD p 0) (l.drop (p + 1))
 rw [<- hd] at hstep
 have w2 : IntKind.i64.wrap ((p : Int) + 1) = ((p + 1 : Nat) : Int) := by rw [aK _ (by omega)]; simp
 have w3 : IntKind.i64.wrap (((p + 1 : Nat) : Int) + 1) = ((p + 2 : Nat) : Int) := by rw [aK _ (by omega)]; simp; omega
 have hbad : (l.getD p 0 == 34) = false -> elt (l.drop p) = none -> .tup [.str [], .i 0] = refStr l a := fun e1 e2 => by
  rw [e1, e2] at hstep
  rw [refStr, p4, hstep]; rfl
 have hne : ∀ c r, elt (c :: r) = _ := fun c r => elt.eq_2 c r
 rcases hc : (l.getD p 0 == 34) with _ | _
 rotate_left
 ·rw [hc, if_pos rfl] at hstep
  by_cases hb : bs.length > 255
  ·have d2 : decide ((bs.length : Int) <= 255) = false := decide_eq_false (by omega)
   have hst : refStr l a = .tup [.str [], .i 0] := by rw [refStr, p4, hstep]; simp [hb]
   simp -implicitDefEqProofs only [go_sem, d1, Int.toNat_natCast, hp, bQ, hc, n2, n4, List.length_map, d2]
   exact aR (dK l a) hst.symm
  ·have d2 : decide ((bs.length : Int) <= 255) = true := decide_eq_true (by omega)
   have hst : refStr l a = .tup [.str bs, .i (p + 1 : Nat)] := by rw [refStr, p4, hstep]; simp [hb]; omega
   simp -implicitDefEqProofs only [go_sem, d1, Int.toNat_natCast, hp, bQ, hc, n4, List.length_map, d2, jL, w2]
   exact aR (dK l a) hst.symm
 rw [hc, if_neg (by simp)] at hstep
 replace hbad := hbad hc
 have hpl : isPlain (l.getD p 0) = (!(decide (((l.getD p 0).toNat : Int) < 32) || decide (((l.getD p 0).toNat : Int) > 126))) := by
  rw [nE, Bool.not_or, <- decide_not, <- decide_not]; congr 1 <;> (apply decide_eq_decide.2; omega)
 rcases hP : isPlain (l.getD p 0) with _ | _
 ·rw [hP] at hpl
  have hbb := hbad (by rw [hd, hne, hP]; rfl)
  by_cases g1 : ((l.getD p 0).toNat : Int) < 32
  ·have g1' : decide (((l.getD p 0).toNat : Int) < 32) = true := decide_eq_true g1
   simp -implicitDefEqProofs only [go_sem, d1, Int.toNat_natCast, hp, bQ, hc, g1']
   exact aR (dK l a) hbb
  ·have g1' : decide (((l.getD p 0).toNat : Int) < 32) = false := decide_eq_false g1
   have g2' : decide (((l.getD p 0).toNat : Int) > 126) = true := by rw [g1', Bool.false_or] at hpl; rcases h : decide (((l.getD p 0).toNat : Int) > 126) with _ | _; rw [h] at hpl; cases hpl; rfl
   simp -implicitDefEqProofs only [go_sem, d1, Int.toNat_natCast, hp, bQ, hc, g1', g2']
   exact aR (dK l a) hbb
 rw [hP] at hpl
 have g1 : decide (((l.getD p 0).toNat : Int) < 32) = false := by rcases h : decide (((l.getD p 0).toNat : Int) < 32) with _ | _; rfl; rw [h] at hpl; simp at hpl
 have g2 : decide (((l.getD p 0).toNat : Int) > 126) = false := by rcases h : decide (((l.getD p 0).toNat : Int) > 126) with _ | _; rfl; rw [h] at hpl; simp at hpl
 rcases hc2 : (l.getD p 0 == 92) with _ | _
 ·have he : elt (l.drop p) = some (l.getD p 0, 1) := by rw [hd, hne, hc2, hP]; rfl
  rw [he] at hstep
  simp only [List.drop_drop] at hstep
  have p5_g := fun l => aF (l := l) p5
  have p5_s := fun o l => aG (l := l) p5 o
  have p5_e := fun o l => aD (o := o) (l := l) p5
  have p5_h := fun o => aH (o := o) p5
  simp -implicitDefEqProofs only [go_sem, d1, Int.toNat_natCast, hp, bQ, hc, g1, g2, w2, b92, hc2, List.append_assoc, p5_g, p5_s, List.length_map, List.length_singleton, dY]
  refine ⟨by omega, ?_⟩
  exact ⟨by omega, (p + 1, bs ++ [l.getD p 0], h1.length + 1), _, Wk.pick (by simp) (by simp [go_sem, byteA]), by simp; omega, by simp; omega, by simp; omega, p4.next (by omega) hstep, by simp⟩
 have h2 := h146 (GL := GL) (p + 1) (l := l) (by omega) (by omega)
 simp -implicitDefEqProofs only [go_sem, d1, Int.toNat_natCast, hp, bQ, hc, g1, g2, w2, b92, hc2, n4]
 refine aC hC h2 ?_
 rcases hE : esc (l.drop (p + 1)) with _ | ⟨c, m⟩
 ·have hbb := hbad (by rw [hd, hne, hP, hc2, hE]; rfl)
  have z0 : ((0 : Int) == 0) = true := rfl
  simp -implicitDefEqProofs only [go_sem, z0]
  exact aR (dK l a) hbb
 ·have hm := uT hE
  simp only [List.length_drop] at hm
  have he : elt (l.drop p) = some (c, m + 1) := by rw [hd, hne, hP, hc2, hE]; rfl
  rw [he] at hstep
  simp only [List.drop_drop] at hstep
  have z0 : (((p + 1 + m : Nat) : Int) == 0) = false := by simp; omega
  have p5_g := fun l => aF (l := l) p5
  have p5_s := fun o l => aG (l := l) p5 o
  have p5_e := fun o l => aD (o := o) (l := l) p5
  have p5_h := fun o => aH (o := o) p5
  simp -implicitDefEqProofs only [go_sem, z0, List.append_assoc, p5_g, p5_s, List.length_map, List.length_singleton, dY]
  refine ⟨by omega, ?_⟩
  exact ⟨by omega, (p + (m + 1), bs ++ [c], h1.length + 1), _, Wk.pick (by simp) (by simp [go_sem, byteA]; omega), by simp; omega, by simp; omega, by simp; omega, p4.next (by omega) hstep, by simp⟩
theorem h97n {l : List UInt8} {a : Nat} (hl : l.length < 2 ^ 30) (ha : a < l.length) (hq : l.getD a 0 = 39) : Pure (PC GL) 97 [.str l, .i a] (refName l a) := by
 refine aN (by simp [go_sem]) (cC l a) ?_
 refine k97.call (by simp) ?_
 have w1 : IntKind.i64.wrap ((a : Int) + 1) = ((a + 1 : Nat) : Int) := by rw [aK _ (by omega)]; simp
 have e34 : ((39 : UInt8).toNat : Int) = 39 := rfl
 have bQ : ∀ c : UInt8, ((c.toNat : Int) == 39) = (c == 39) := fun c => bJ c 39
 have b92 : ∀ c : UInt8, ((c.toNat : Int) == 92) = (c == 92) := fun c => bJ c 92
 have b39 : ∀ c : UInt8, ((c.toNat : Int) == 39) = (c == 39) := fun c => bJ c 39
 have n1 : ((39 : Int) == 34) = false := rfl
 have n2 : ((34 : Int) == 39) = false := rfl
 have n3 : ((39 : Int) == 39) = true := rfl
 have n4 : ((34 : Int) == 34) = true := rfl
 simp -implicitDefEqProofs only [go_sem, c97, r97, Int.toNat_natCast, ha, hq, e34, w1]
 refine cK hC (fun _ (p : Nat × List UInt8 × Nat) => [(0, .str l), (6, .v (.int .u8 39)), (7, .own p.2.2 1 (p.2.1.map byteA)), (8, .i (p.1 : Nat))]) (fun j p h' => a + 1 + j <= p.1 /\ p.1 <= l.length /\ p.2.1.length <= p.1 /\ QAt qName l (a + 1) p.1 p.2.1 /\ h'[p.2.2]? = some (.spare 5 1)) l.length ⟨(a + 1, [], 0), _, Wk.pick (by simp) (by simp [go_sem]), by simp, by simp; omega, by simp, QAt.start _ _, rfl⟩ fun j p h1 hj ⟨p1, p2, p3, p4, p5⟩ => ?_
 obtain ⟨p, bs, b⟩ := p
 simp only at p1 p2 p3 p4 p5
 have hlb := aL p5
 by_cases hp : p < l.length
 rotate_left
 ·have d1 : decide ((p : Int) < (l.length : Int)) = false := decide_eq_false (by omega)
  have hst : refName l a = .tup [.str [], .i 0] := by rw [refName, p4, List.drop_of_length_le (show l.length <= p by omega)]; rfl
  simp -implicitDefEqProofs only [go_sem, d1]
  exact aR (cC l a) hst.symm
 have d1 : decide ((p : Int) < (l.length : Int)) = true := decide_eq_true (by omega)
 have hd := bE hp
 have hstep := oE (l.getD p 0) (l.drop (p + 1))
 rw [<- hd] at hstep
 have w2 : IntKind.i64.wrap ((p : Int) + 1) = ((p + 1 : Nat) : Int) := by rw [aK _ (by omega)]; simp
 have w3 : IntKind.i64.wrap (((p + 1 : Nat) : Int) + 1) = ((p + 2 : Nat) : Int) := by rw [aK _ (by omega)]; simp; omega
 have hbad : (l.getD p 0 == 39) = false -> nelt (l.drop p) = none -> .tup [.str [], .i 0] = refName l a := fun e1 e2 => by
  rw [e1, e2] at hstep
  rw [refName, p4, hstep]; rfl
 have hne : ∀ c r, nelt (c :: r) = _ := fun c r => nelt.eq_2 c r
 rcases hc : (l.getD p 0 == 39) with _ | _
 rotate_left
 ·rw [hc, if_pos rfl] at hstep
  by_cases hb1 : bs.length < 1
  ·have d3 : decide ((bs.length : Int) >= 1) = false := decide_eq_false (by omega)
   have hst : refName l a = .tup [.str [], .i 0] := by rw [refName, p4, hstep]; simp only [Option.map_some, List.append_nil]; rw [if_pos (by omega)]
   simp -implicitDefEqProofs only [go_sem, d1, Int.toNat_natCast, hp, bQ, hc, n1, n3, List.length_map, d3]
   exact aR (cC l a) hst.symm
  have d3 : decide ((bs.length : Int) >= 1) = true := decide_eq_true (by omega)
  by_cases hb : bs.length > 32
  ·have d2 : decide ((bs.length : Int) <= 32) = false := decide_eq_false (by omega)
   have hst : refName l a = .tup [.str [], .i 0] := by rw [refName, p4, hstep]; simp only [Option.map_some, List.append_nil]; rw [if_pos (by omega)]
   simp -implicitDefEqProofs only [go_sem, d1, Int.toNat_natCast, hp, bQ, hc, n1, n3, List.length_map, d2, d3]
   exact aR (cC l a) hst.symm
  ·have d2 : decide ((bs.length : Int) <= 32) = true := decide_eq_true (by omega)
   have hst : refName l a = .tup [.str bs, .i (p + 1 : Nat)] := by rw [refName, p4, hstep]; simp only [Option.map_some, List.append_nil]; rw [if_neg (by omega)]; simp; omega
   simp -implicitDefEqProofs only [go_sem, d1, Int.toNat_natCast, hp, bQ, hc, n1, n3, List.length_map, d2, d3, jL, w2]
   exact aR (cC l a) hst.symm
 rw [hc, if_neg (by simp)] at hstep
 replace hbad := hbad hc
 have hpl : isPlain (l.getD p 0) = (!(decide (((l.getD p 0).toNat : Int) < 32) || decide (((l.getD p 0).toNat : Int) > 126))) := by
  rw [nE, Bool.not_or, <- decide_not, <- decide_not]; congr 1 <;> (apply decide_eq_decide.2; omega)
 rcases hP : isPlain (l.getD p 0) with _ | _
 ·rw [hP] at hpl
  have hbb := hbad (by rw [hd, hne, hP]; rcases h9 : (l.getD p 0 == 92) with _ | _; rfl; rw [eq_of_beq h9] at hP; cases hP)
  by_cases g1 : ((l.getD p 0).toNat : Int) < 32
  ·have g1' : decide (((l.getD p 0).toNat : Int) < 32) = true := decide_eq_true g1
   simp -implicitDefEqProofs only [go_sem, d1, Int.toNat_natCast, hp, bQ, hc, g1']
   exact aR (cC l a) hbb
  ·have g1' : decide (((l.getD p 0).toNat : Int) < 32) = false := decide_eq_false g1
   have g2' : decide (((l.getD p 0).toNat : Int) > 126) = true := by rw [g1', Bool.false_or] at hpl; rcases h : decide (((l.getD p 0).toNat : Int) > 126) with _ | _; rw [h] at hpl; cases hpl; rfl
   simp -implicitDefEqProofs only [go_sem, d1, Int.toNat_natCast, hp, bQ, hc, g1', g2']
   exact aR (cC l a) hbb
 rw [hP] at hpl
 have g1 : decide (((l.getD p 0).toNat : Int) < 32) = false := by rcases h : decide (((l.getD p 0).toNat : Int) < 32) with _ | _; rfl; rw [h] at hpl; simp at hpl
 have g2 : decide (((l.getD p 0).toNat : Int) > 126) = false := by rcases h : decide (((l.getD p 0).toNat : Int) > 126) with _ | _; rfl; rw [h] at hpl; simp at hpl
 rcases hc2 : (l.getD p 0 == 92) with _ | _
 ·have he : nelt (l.drop p) = some (l.getD p 0, 1) := by rw [hd, hne, hc2, hP]; rfl
  rw [he] at hstep
  simp only [List.drop_drop] at hstep
  have p5_g := fun l => aF (l := l) p5
  have p5_s := fun o l => aG (l := l) p5 o
  have p5_e := fun o l => aD (o := o) (l := l) p5
  have p5_h := fun o => aH (o := o) p5
  simp -implicitDefEqProofs only [go_sem, d1, Int.toNat_natCast, hp, bQ, hc, g1, g2, w2, b92, hc2, List.append_assoc, p5_g, p5_s, List.length_map, List.length_singleton, dY]
  refine ⟨by omega, ?_⟩
  exact ⟨by omega, (p + 1, bs ++ [l.getD p 0], h1.length + 1), _, Wk.pick (by simp) (by simp [go_sem, byteA]), by simp; omega, by simp; omega, by simp; omega, p4.next (by omega) hstep, by simp⟩
 have z0 : ((0 : Int) == 0) = true := rfl
 by_cases hq1 : p + 1 < l.length
 rotate_left
 ·have d2 : decide (((p + 1 : Nat) : Int) < (l.length : Int)) = false := decide_eq_false (by omega)
  have hbb := hbad (by rw [hd, hne, hc2, List.drop_of_length_le (show l.length <= p + 1 by omega)]; rfl)
  simp -implicitDefEqProofs only [go_sem, d1, Int.toNat_natCast, hp, bQ, hc, g1, g2, w2, b92, hc2, n1, d2, z0]
  exact aR (cC l a) hbb
 have d2 : decide (((p + 1 : Nat) : Int) < (l.length : Int)) = true := decide_eq_true (by omega)
 rcases h3 : (l.getD (p + 1) 0 == 39 || l.getD (p + 1) 0 == 92) with _ | _
 ·obtain ⟨h31, h32⟩ := Bool.or_eq_false_iff.1 h3
  have hbb := hbad (by rw [hd, hne, hc2, bE hq1, if_pos rfl, nesc, h3]; rfl)
  simp -implicitDefEqProofs only [go_sem, d1, Int.toNat_natCast, hp, bQ, hc, g1, g2, w2, b92, hc2, n1, d2, hq1, h31, h32, z0]
  exact aR (cC l a) hbb
 ·have he : nelt (l.drop p) = some (l.getD (p + 1) 0, 2) := by rw [hd, hne, hc2, bE hq1, if_pos rfl, nesc, h3]; rfl
  rw [he] at hstep
  simp only [List.drop_drop] at hstep
  have z1 : (((p + 2 : Nat) : Int) == 0) = false := by simp; omega
  have p5_g := fun l => aF (l := l) p5
  have p5_s := fun o l => aG (l := l) p5 o
  have p5_e := fun o l => aD (o := o) (l := l) p5
  have p5_h := fun o => aH (o := o) p5
  rcases h31 : (l.getD (p + 1) 0 == 39) with _ | _
  ·rw [h31, Bool.false_or] at h3
   simp -implicitDefEqProofs only [go_sem, d1, Int.toNat_natCast, hp, bQ, hc, g1, g2, w2, w3, b92, hc2, n1, d2, hq1, h31, h3, z1, List.append_assoc, p5_g, p5_s, List.length_map, List.length_singleton, dY]
   refine ⟨by omega, ?_⟩
   exact ⟨by omega, (p + 2, bs ++ [l.getD (p + 1) 0], h1.length + 1), _, Wk.pick (by simp) (by simp [go_sem, byteA]), by simp; omega, by simp; omega, by simp; omega, p4.next (by omega) hstep, by simp⟩
  ·simp -implicitDefEqProofs only [go_sem, d1, Int.toNat_natCast, hp, bQ, hc, g1, g2, w2, w3, b92, hc2, n1, d2, hq1, h31, z1, List.append_assoc, p5_g, p5_s, List.length_map, List.length_singleton, dY]
   refine ⟨by omega, ?_⟩
   exact ⟨by omega, (p + 2, bs ++ [l.getD (p + 1) 0], h1.length + 1), _, Wk.pick (by simp) (by simp [go_sem, byteA]), by simp; omega, by simp; omega, by simp; omega, p4.next (by omega) hstep, by simp⟩
theorem wH (κ : Nat -> Nat) (m : OpM) : rens κ (keysM m) = keysM m := by
 induction m with
 | nil => rfl
 | cons p r ih => simp only [keysM, List.map_cons, rens, ren] at ih ⊢; rw [ih]
theorem uK (κ : Nat -> Nat) (m : OpM) : rens κ (valsM m) = valsM m := by
 induction m with
 | nil => rfl
 | cons p r ih => simp only [valsM, List.map_cons, rens, qC] at ih ⊢; rw [ih]
theorem MapOp.shift {T : Str -> Option Opr} {k : Nat} {h0 : List AObj} (hm : MapOp T k h0) (h : List AObj) : MapOp T (k + h.length) (h ++ h0.map (renO (· + h.length))) := by
 obtain ⟨m, hk, hs⟩ := hm
 refine ⟨m, ?_, hs⟩
 rw [aZ (by omega), Nat.add_sub_cancel, List.getElem?_map, hk]
 simp [renO, wH, uK]
def NewMap (T : Str -> Option Opr) (h : List AObj) (x : ARes) (h' : List AObj) : Prop := Keep All h h' /\ ∃ k, x = .val (.mp k) /\ h.length <= k /\ MapOp T k h'
theorem h71 (h : List AObj) : AC Tryz.prog GL (.fn 71) [] h (NewMap infixO h) := by
 refine aJ hC (kJ (by simp [go_sem]) (h71n (GL := GL)) h) ?_
 rintro x h' ⟨r0, h0, ⟨rfl, hm⟩, rfl, rfl⟩
 exact ⟨Keep.app _ _ _, 0 + h.length, by simp [renR, ren], by omega, hm.shift h⟩
theorem h88 (h : List AObj) : AC Tryz.prog GL (.fn 88) [] h (NewMap prefixO h) := by
 refine aJ hC (kJ (by simp [go_sem]) (h88n (GL := GL)) h) ?_
 rintro x h' ⟨r0, h0, ⟨rfl, rfl⟩, rfl, rfl⟩
 exact ⟨Keep.app _ _ _, 0 + h.length, by simp [renR, ren], by omega, MapOp.shift (T := prefixO) ⟨prefixT, rfl, fun _ => rfl⟩ h⟩
def opV : Option Opr -> AV
 | some o => .tup [encOp o, .b true]
 | none => .tup [encOp ⟨0, 0, 0⟩, .b false]
theorem kQ (o : Option Opr) : bd 0 (opV o) := by cases o <;> simp [opV, go_sem]
theorem cN (s : Str) : ∀ m : OpM, (idxM s m = none /\ assoc s m = none) ∨ ∃ i o, idxM s m = some i /\ assoc s m = some o /\ (valsM m).getD i .any = encOp o
 | [] => .inl ⟨rfl, rfl⟩
 | (k, q) :: r => by
  rw [idxM, assoc]
  rcases hk : (s == k) with _ | _
  ·rcases cN s r with ⟨a, b⟩ | ⟨i, o, a, b, c⟩
   ·exact .inl (by simp [a, b])
   ·exact .inr ⟨i + 1, o, by simp [a], by simp [b], by simpa [valsM] using c⟩
  ·exact .inr ⟨0, q, rfl, rfl, rfl⟩
theorem h29 (s : Str) : Pure (PC GL) 29 [.str s] (opV (infixO s)) := by
 refine aN (by simp [go_sem]) (kQ _) ?_
 refine k29.call (by simp) ?_
 simp -implicitDefEqProofs only [go_sem, c29, r29]
 refine aJ hC (h71 _) fun x h' ⟨hk, k, e, _, m, hm, hT⟩ => ?_
 subst e
 have c0 := hk.got (i := 0) rfl
 rw [<- hT s]
 rcases cN s m with ⟨a, b⟩ | ⟨i, o, a, b, c⟩
 ·rw [b]
  have hm_g := fun l => aF (l := l) hm
  have hm_s := fun o l => aG (l := l) hm o
  have hm_e := fun o l => aD (o := o) (l := l) hm
  have hm_h := fun o => aH (o := o) hm
  have c0_g := fun l => aF (l := l) c0
  have c0_s := fun o l => aG (l := l) c0 o
  have c0_e := fun o l => aD (o := o) (l := l) c0
  have c0_h := fun o => aH (o := o) c0
  simp -implicitDefEqProofs only [go_sem, aY, a, hm, c0_g, c0_s, c0_e]
  exact aR (kQ _) rfl
 ·rw [b]
  have hm_g := fun l => aF (l := l) hm
  have hm_s := fun o l => aG (l := l) hm o
  have hm_e := fun o l => aD (o := o) (l := l) hm
  have hm_h := fun o => aH (o := o) hm
  have c0_g := fun l => aF (l := l) c0
  have c0_s := fun o l => aG (l := l) c0 o
  have c0_e := fun o l => aD (o := o) (l := l) c0
  have c0_h := fun o => aH (o := o) c0
  simp -implicitDefEqProofs only [go_sem, aY, a, c, encOp, hm, c0_g, c0_s, c0_e]
  exact aR (kQ _) rfl
theorem h46 (s : Str) : Pure (PC GL) 46 [.str s] (opV (prefixO s)) := by
 refine aN (by simp [go_sem]) (kQ _) ?_
 refine k46.call (by simp) ?_
 simp -implicitDefEqProofs only [go_sem, c46, r46]
 refine aJ hC (h88 _) fun x h' ⟨hk, k, e, _, m, hm, hT⟩ => ?_
 subst e
 have c0 := hk.got (i := 0) rfl
 rw [<- hT s]
 rcases cN s m with ⟨a, b⟩ | ⟨i, o, a, b, c⟩
 ·rw [b]
  have hm_g := fun l => aF (l := l) hm
  have hm_s := fun o l => aG (l := l) hm o
  have hm_e := fun o l => aD (o := o) (l := l) hm
  have hm_h := fun o => aH (o := o) hm
  have c0_g := fun l => aF (l := l) c0
  have c0_s := fun o l => aG (l := l) c0 o
  have c0_e := fun o l => aD (o := o) (l := l) c0
  have c0_h := fun o => aH (o := o) c0
  simp -implicitDefEqProofs only [go_sem, aY, a, hm, c0_g, c0_s, c0_e]
  exact aR (kQ _) rfl
 ·rw [b]
  have hm_g := fun l => aF (l := l) hm
  have hm_s := fun o l => aG (l := l) hm o
  have hm_e := fun o l => aD (o := o) (l := l) hm
  have hm_h := fun o => aH (o := o) hm
  have c0_g := fun l => aF (l := l) c0
  have c0_s := fun o l => aG (l := l) c0 o
  have c0_e := fun o l => aD (o := o) (l := l) c0
  have c0_h := fun o => aH (o := o) c0
  simp -implicitDefEqProofs only [go_sem, aY, a, c, encOp, hm, c0_g, c0_s, c0_e]
  exact aR (kQ _) rfl
theorem h119 (s : Str) : Pure (PC GL) 119 [.str s] (.b ((infixO s).isSome || (prefixO s).isSome)) := by
 refine aN (by simp [go_sem]) (by simp [go_sem]) ?_
 refine k119.call (by simp) ?_
 simp -implicitDefEqProofs only [go_sem, c119, r119]
 refine aC hC (h29 s) ?_
 rcases infixO s with _ | o
 ·simp only [opV, encOp]
  simp -implicitDefEqProofs only [go_sem]
  refine aC hC (h46 s) ?_
  rcases prefixO s with _ | o
  ·simp only [opV, encOp]
   simp -implicitDefEqProofs only [go_sem]
   exact aR (by simp [go_sem]) rfl
  ·simp only [opV, encOp]
   simp -implicitDefEqProofs only [go_sem]
   exact aR (by simp [go_sem]) rfl
 ·simp only [opV, encOp]
  simp -implicitDefEqProofs only [go_sem]
  refine aC hC (h46 s) ?_
  rcases prefixO s with _ | o
  ·simp only [opV, encOp]
   simp -implicitDefEqProofs only [go_sem]
   exact aR (by simp [go_sem]) rfl
  ·simp only [opV, encOp]
   simp -implicitDefEqProofs only [go_sem]
   exact aR (by simp [go_sem]) rfl
end Go.Rip
namespace Go.Rip
open Go Go.Proofs
set_option maxRecDepth 100000
variable {GL : Glob}
theorem wkOut2 {P : Program} {GL : Glob} {f : FuncId} {args : List AV} {h : List AObj} {R R' : ARes -> List AObj -> Prop} (hc : ACall P GL f args h R)
  (hR : ∀ r h', R r h' -> (∃ x y h'', r = .val x /\ Wk GL h.length [(0, x)] h' [(0, y)] h'' /\ R' (.val y) h'') ∨ R' r h') : ACall P GL f args h R' := by
 intro E A G w vs hW ha
 refine (hc E A G w vs hW ha).mono fun e w' => ?_
 rintro ⟨E1, A1, G1, r, h1, q1, q2, q3, q4, q5⟩
 rcases hR r h1 q5 with ⟨x, y, h2, rfl, hk, hy⟩ | hq
 ·cases e with
  | returned v =>
   obtain ⟨E2, A2, G2, g1, g2, g3, g4, g5⟩ := hk E1 A1 G1 w' (fun i => if i = 0 then v else undef) q1 (fun i => by
    simp only [tget]
    split
    ·rename_i hb; rw [if_pos (Nat.eq_of_beq_eq_true hb)]; exact q4
    ·simp [Rep])
   have hv := g2 0
   refine ⟨E2, A2, G2, .val y, h2, g1, q2.trans g3, ⟨by rw [hW.n]; exact g4, fun k hk => ?_⟩, (by simpa [tget, Nat.beq] using hv : Rep E2 A2 G2 w' y v), hy⟩
   obtain ⟨a1, a2, a3, a4⟩ := q3.2 k hk
   obtain ⟨b1, b2, b3, b4⟩ := g5 k (by rw [<- hW.n]; exact hk)
   exact ⟨b1.trans a1, b2.trans a2, b3.trans a3, b4.trans a4⟩
  | panicked p => exact q4.elim
  | _ => exact q4.elim
 ·exact ⟨E1, A1, G1, r, h1, q1, q2, q3, q4, hq⟩
attribute [local irreducible] Pure
def LexS (l : List UInt8) (x : ARes) : Prop := match lexOut l with
 | .error e => x = .panic (wrongV e.1 e.2)
 | .ok ls => x = .val (.sl 5 (ls.map encLx))
theorem wd_own {k sz : Nat} {l : List AV} : Wd (.own k sz l) (.sl sz l) := Wd.fz (Wds.rfl l)
theorem h58s (hG : GLok GL) (l : List UInt8) (h : List AObj) : AC Tryz.prog GL (.fn 58) [.str l] h fun x h' => LexS l x /\ Keep All h h' := by
 refine wkOut2 (h58 hG l h) ?_
 rintro r h' ⟨hR, hk⟩
 unfold LexR at hR
 unfold LexS
 rcases hz : lexOut l with e | ls
 ·rw [hz] at hR
  exact .inr ⟨hR, hk⟩
 ·rw [hz] at hR
  obtain ⟨o, rfl, ho⟩ := hR
  refine .inl ⟨o, .sl 5 (ls.map encLx), h', rfl, ?_, rfl, hk⟩
  rcases ho with ⟨rfl, rfl⟩ | ⟨b, rfl, hb⟩
  ·exact Wk.pickW hk.1 ⟨Wd.nil, trivial⟩
  ·exact Wk.pickW hk.1 ⟨wd_own, trivial⟩
def RC (ls : List Lx) (p e : Nat) (k : Nat) (h : List AObj) : Prop := ∃ a b c d, h[k]? = some (.cells 85 [.sl 5 (ls.map encLx), .i p, .i e, a, b, c, d])
def muchAt (r : List Lx) (e : Nat) : Nat := match r with
 | [] => e
 | x :: _ => x.a
theorem bW {ls : List Lx} {p : Nat} (hp : p < ls.length) : ls.drop p = ls[p] :: ls.drop (p + 1) := List.drop_eq_getElem_cons hp
theorem h65 {ls : List Lx} {p e k : Nat} {h : List AObj} (hs : RC ls p e k h) : AC Tryz.prog GL (.fn 65) [.ref k 0] h fun r h' => h' = h /\ r = .panic (wrongV 21 (muchAt (ls.drop p) e)) := by
 obtain ⟨a, b, c, d, hk⟩ := hs
 refine k65.call (by simp) ?_
 by_cases hp : p < ls.length
 ·have d1 : decide ((p : Int) < (ls.length : Int)) = true := decide_eq_true (by omega)
  have eg : (ls.map encLx).getD p .any = encLx ls[p] := by simp [List.getD, hp]
  simp -implicitDefEqProofs only [go_sem, c65, r65, hk, List.length_map, d1, Int.toNat_natCast, hp, eg, encLx]
  exact aP (Nat.le_refl _) ⟨rfl, by rw [bW hp]; rfl⟩
 ·have d1 : decide ((p : Int) < (ls.length : Int)) = false := decide_eq_false (by omega)
  simp -implicitDefEqProofs only [go_sem, c65, r65, hk, List.length_map, d1]
  exact aP (Nat.le_refl _) ⟨rfl, by rw [List.drop_of_length_le (by omega)]; rfl⟩
theorem h189 {ls : List Lx} {p e k : Nat} {h : List AObj} (c : UInt8) (_hl : ls.length < 2 ^ 40) (hs : RC ls p e k h) : PureOn (PC GL) 189 [.ref k 0, .str [c]] (.b (isSg c (ls.drop p))) h := by
 obtain ⟨a, b, c', d, hk⟩ := hs
 refine k189.call (by simp) ?_
 by_cases hp : p < ls.length
 ·have d1 : decide ((p : Int) < (ls.length : Int)) = true := decide_eq_true (by omega)
  have eg : (ls.map encLx).getD p .any = encLx ls[p] := by simp [List.getD, hp]
  rw [bW hp, isSg]
  rcases hK : (ls[p].kind == 6) with _ | _
  ·simp -implicitDefEqProofs only [go_sem, c189, r189, hk, List.length_map, d1, Int.toNat_natCast, hp, eg, encLx, hK]
   exact aX (Nat.le_refl _) rfl
  ·simp -implicitDefEqProofs only [go_sem, c189, r189, hk, List.length_map, d1, Int.toNat_natCast, hp, eg, encLx, hK]
   exact aX (Nat.le_refl _) (by simp)
 ·have d1 : decide ((p : Int) < (ls.length : Int)) = false := decide_eq_false (by omega)
  rw [List.drop_of_length_le (by omega)]
  simp -implicitDefEqProofs only [go_sem, c189, r189, hk, List.length_map, d1]
  exact aX (Nat.le_refl _) rfl
end Go.Rip
namespace Go.Rip
open Go Go.Proofs
set_option maxRecDepth 100000
variable {GL : Glob}
attribute [local irreducible] Pure
def NamesV (ns : List Str) (v : AV) (h : List AObj) : Prop := (ns = [] /\ v = .v (.slice none 0 0)) ∨ ∃ b, v = .own b 1 (ns.map AV.str) /\ h[b]? = some (.spare 9 1)
def idxF' (s : Str) : List (Str × Nat) -> Option Nat
 | [] => none
 | (k, i) :: r => if s == k then some i else idxF' s r
def NumAt (ns : List Str) (k : Nat) (h : List AObj) : Prop := ∃ m : List (Str × Nat), h[k]? = some (.map (m.map fun p => .str p.1) (m.map fun p => .i p.2)) /\ ∀ s, s ≠ [95] -> idxF' s m = idxN s ns
def Rdr (ls : List Lx) (p e : Nat) (ns : List Str) (nv : AV) (nm im pm : Nat) (k : Nat) (h : List AObj) : Prop :=
 h[k]? = some (.cells 85 [.sl 5 (ls.map encLx), .i p, .i e, nv, .mp nm, .mp im, .mp pm]) /\ NamesV ns nv h /\ NumAt ns nm h /\ MapOp infixO im h /\ MapOp prefixO pm h /\ nm ≠ im /\ nm ≠ pm
def RdrAt (ls : List Lx) (p e : Nat) (ns : List Str) (k : Nat) (h : List AObj) : Prop := ∃ nv nm im pm, Rdr ls p e ns nv nm im pm k h
def RdK (k : Nat) (i : Nat) (o : AObj) : Prop := i = k ∨ o = .spare 9 1 ∨ ∃ ks vs, o = .map ks vs
theorem RdrAt.rc {ls : List Lx} {p e : Nat} {ns : List Str} {k : Nat} {h : List AObj} (hs : RdrAt ls p e ns k h) : RC ls p e k h := by
 obtain ⟨nv, nm, im, pm, hk, _⟩ := hs
 exact ⟨_, _, _, _, hk⟩
theorem oQ {ns : List Str} {v : AV} {h : List AObj} {k : Nat} {c : List AV} {T : TypeId} (hn : NamesV ns v h) (hk : h[k]? = some (.cells T c)) (o : AObj) : NamesV ns v (h.set k o) :=
 hn.imp id fun ⟨b, e, hb⟩ => ⟨b, e, by rw [aE (aU hk hb (by simp))]; exact hb⟩
theorem numAt_set {ns : List Str} {n k : Nat} {h : List AObj} {c : List AV} {T : TypeId} (hn : NumAt ns n h) (hk : h[k]? = some (.cells T c)) (o : AObj) : NumAt ns n (h.set k o) := by
 obtain ⟨m, hm, hs⟩ := hn
 exact ⟨m, by rw [aE (aU hk hm (by simp))]; exact hm, hs⟩
theorem iI {T' : Str -> Option Opr} {n k : Nat} {h : List AObj} {c : List AV} {T : TypeId} (hn : MapOp T' n h) (hk : h[k]? = some (.cells T c)) (o : AObj) : MapOp T' n (h.set k o) := by
 obtain ⟨m, hm, hs⟩ := hn
 exact ⟨m, by rw [aE (aU hk hm (by simp))]; exact hm, hs⟩
theorem Rdr.to {ls : List Lx} {p q e : Nat} {ns : List Str} {nv : AV} {nm im pm k : Nat} {h : List AObj} (hs : Rdr ls p e ns nv nm im pm k h) : Rdr ls q e ns nv nm im pm k (h.set k (.cells 85 [.sl 5 (ls.map encLx), .i q, .i e, nv, .mp nm, .mp im, .mp pm])) := by
 obtain ⟨hk, h1, h2, h3, h4, h5, h6⟩ := hs
 exact ⟨aH hk, oQ h1 hk _, numAt_set h2 hk _, iI h3 hk _, iI h4 hk _, h5, h6⟩
theorem Rdr.keep {ls : List Lx} {p q e : Nat} {ns : List Str} {nv : AV} {nm im pm k : Nat} {h : List AObj} (hs : Rdr ls p e ns nv nm im pm k h) : Keep (RdK k) h (h.set k (.cells 85 [.sl 5 (ls.map encLx), .i q, .i e, nv, .mp nm, .mp im, .mp pm])) := Keep.set _ hs.1 (.inl rfl)
theorem h188 {ls : List Lx} {p e k : Nat} {ns : List Str} {h : List AObj} (c : UInt8) (hl : ls.length < 2 ^ 40) (hs : RdrAt ls p e ns k h) :
  AC Tryz.prog GL (.fn 188) [.ref k 0, .str [c]] h fun r h' => Keep (RdK k) h h' /\ if isSg c (ls.drop p) then r = .val (.tup []) /\ RdrAt ls (p + 1) e ns k h' else r = .panic (wrongV 21 (muchAt (ls.drop p) e)) := by
 have hrc := hs.rc
 obtain ⟨nv, nm, im, pm, hR⟩ := hs
 have hk := hR.1
 refine k188.call (by simp) ?_
 have hk_g := fun l => aF (l := l) hk
 have hk_s := fun o l => aG (l := l) hk o
 have hk_e := fun o l => aD (o := o) (l := l) hk
 have hk_h := fun o => aH (o := o) hk
 simp -implicitDefEqProofs only [go_sem, c188, r188]
 refine bB hC (h189 c hl hrc) ?_
 rcases hc : isSg c (ls.drop p) with _ | _
 ·simp -implicitDefEqProofs only [go_sem]
  refine aJ hC (h65 hrc) fun x h' ⟨e1, e2⟩ => ?_
  subst e1 e2
  simp -implicitDefEqProofs only [go_sem]
  exact aP (Nat.le_refl _) ⟨Keep.refl _ _, by simp⟩
 ·have hp : p < ls.length := by
   rcases Nat.lt_or_ge p ls.length with h | h
   ·exact h
   ·rw [List.drop_of_length_le h] at hc; cases hc
  have w1 : IntKind.i64.wrap ((p : Int) + 1) = ((p + 1 : Nat) : Int) := by rw [aK _ (by omega)]; simp
  simp -implicitDefEqProofs only [go_sem, w1, hk]
  exact ⟨_, _, Wk.refl (by simp), hR.keep, rfl, nv, nm, im, pm, hR.to⟩
theorem tE {ls : List Lx} {p e k : Nat} {h : List AObj} (hl : ls.length < 2 ^ 40) (hp : p < ls.length) (hs : RC ls p e k h) : PureOn (PC GL) 191 [.ref k 0, .i 6, .str [40]] (.b (nextSg ls[p] (ls.drop (p + 1)))) h := by
 obtain ⟨a, b, c', d, hk⟩ := hs
 refine k191.call (by simp) ?_
 have w1 : IntKind.i64.wrap ((p : Int) + 1) = ((p + 1 : Nat) : Int) := by rw [aK _ (by omega)]; simp
 have eg : (ls.map encLx).getD p .any = encLx ls[p] := by simp [List.getD, hp]
 by_cases hq : p + 1 < ls.length
 ·have d1 : decide (((p + 1 : Nat) : Int) < (ls.length : Int)) = true := decide_eq_true (by omega)
  have eg2 : (ls.map encLx).getD (p + 1) .any = encLx ls[p + 1] := by simp [List.getD, hq]
  have z : (([40] : Str) == []) = false := rfl
  rw [bW hq, nextSg]
  rcases hK : (ls[p + 1].kind == 6) with _ | _
  ·simp -implicitDefEqProofs only [go_sem, c191, r191, hk, w1, List.length_map, d1, Int.toNat_natCast, hq, eg2, encLx, hK]
   exact aX (Nat.le_refl _) rfl
  ·have ee : ((ls[p + 1].a : Int) == (ls[p].e : Int)) = (ls[p + 1].a == ls[p].e) := by rw [Bool.eq_iff_iff]; simp; omega
   rcases hE : (ls[p + 1].a == ls[p].e) with _ | _
   ·rw [hE] at ee
    simp -implicitDefEqProofs only [go_sem, c191, r191, hk, w1, List.length_map, d1, Int.toNat_natCast, hp, hq, eg, eg2, encLx, hK, ee]
    exact aX (Nat.le_refl _) rfl
   ·rw [hE] at ee
    simp -implicitDefEqProofs only [go_sem, c191, r191, hk, w1, List.length_map, d1, Int.toNat_natCast, hp, hq, eg, eg2, encLx, hK, ee, z]
    exact aX (Nat.le_refl _) (by simp)
 ·have d1 : decide (((p + 1 : Nat) : Int) < (ls.length : Int)) = false := decide_eq_false (by omega)
  rw [List.drop_of_length_le (by omega)]
  simp -implicitDefEqProofs only [go_sem, c191, r191, hk, w1, List.length_map, d1]
  exact aX (Nat.le_refl _) rfl
theorem h191i {ls : List Lx} {p e k : Nat} {h : List AObj} (hl : ls.length < 2 ^ 40) (hp : p < ls.length) (hs : RC ls p e k h) : PureOn (PC GL) 191 [.ref k 0, .i 4, .str []] (.b (nextInt ls[p] (ls.drop (p + 1)))) h := by
 obtain ⟨a, b, c', d, hk⟩ := hs
 refine k191.call (by simp) ?_
 have w1 : IntKind.i64.wrap ((p : Int) + 1) = ((p + 1 : Nat) : Int) := by rw [aK _ (by omega)]; simp
 have eg : (ls.map encLx).getD p .any = encLx ls[p] := by simp [List.getD, hp]
 by_cases hq : p + 1 < ls.length
 ·have d1 : decide (((p + 1 : Nat) : Int) < (ls.length : Int)) = true := decide_eq_true (by omega)
  have eg2 : (ls.map encLx).getD (p + 1) .any = encLx ls[p + 1] := by simp [List.getD, hq]
  have z : (([] : Str) == []) = true := rfl
  rw [bW hq, nextInt]
  rcases hK : (ls[p + 1].kind == 4) with _ | _
  ·simp -implicitDefEqProofs only [go_sem, c191, r191, hk, w1, List.length_map, d1, Int.toNat_natCast, hq, eg2, encLx, hK]
   exact aX (Nat.le_refl _) rfl
  ·have ee : ((ls[p + 1].a : Int) == (ls[p].e : Int)) = (ls[p + 1].a == ls[p].e) := by rw [Bool.eq_iff_iff]; simp; omega
   rcases hE : (ls[p + 1].a == ls[p].e) with _ | _
   ·rw [hE] at ee
    simp -implicitDefEqProofs only [go_sem, c191, r191, hk, w1, List.length_map, d1, Int.toNat_natCast, hp, hq, eg, eg2, encLx, hK, ee]
    exact aX (Nat.le_refl _) rfl
   ·rw [hE] at ee
    simp -implicitDefEqProofs only [go_sem, c191, r191, hk, w1, List.length_map, d1, Int.toNat_natCast, hp, hq, eg, eg2, encLx, hK, ee, z]
    exact aX (Nat.le_refl _) rfl
 ·have d1 : decide (((p + 1 : Nat) : Int) < (ls.length : Int)) = false := decide_eq_false (by omega)
  rw [List.drop_of_length_le (by omega)]
  simp -implicitDefEqProofs only [go_sem, c191, r191, hk, w1, List.length_map, d1]
  exact aX (Nat.le_refl _) rfl
abbrev NumM := List (Str × Nat)
def keysN (m : NumM) : List AV := m.map fun p => .str p.1
def valsN (m : NumM) : List AV := m.map fun p => .i p.2
def idxG (s : Str) : NumM -> Option Nat
 | [] => none
 | (k, _) :: r => if s == k then some 0 else (idxG s r).map (· + 1)
theorem cW (s : Str) : ∀ m : NumM, findA (.one .str) (.str s) (keysN m) = some (idxG s m)
 | [] => by simp [keysN, findA, eqKQ, eqAV, idxG]
 | (k, o) :: r => by
  have ih := cW s r
  simp only [keysN] at ih
  simp only [keysN, List.map_cons, findA, ih, eqKQ, eqAV, idxG]
  cases s == k <;> rfl
theorem vT (s : Str) : ∀ m : NumM, (idxG s m = none /\ idxF' s m = none) ∨ ∃ i n, idxG s m = some i /\ idxF' s m = some n /\ (valsN m).getD i .any = .i n
 | [] => .inl ⟨rfl, rfl⟩
 | (k, q) :: r => by
  rw [idxG, idxF']
  rcases hk : (s == k) with _ | _
  ·rcases vT s r with ⟨a, b⟩ | ⟨i, o, a, b, c⟩
   ·exact .inl (by simp [a, b])
   ·exact .inr ⟨i + 1, o, by simp [a], by simp [b], by simpa [valsN] using c⟩
  ·exact .inr ⟨0, q, rfl, rfl, rfl⟩
def putN (s : Str) (o : Nat) (m : NumM) : NumM := match idxG s m with
 | some i => m.set i (s, o)
 | none => m ++ [(s, o)]
theorem putN_keys {s : Str} {o : Nat} {m : NumM} {i : Nat} (h : idxG s m = some i) : keysN (putN s o m) = keysN m /\ valsN (putN s o m) = (valsN m).set i (.i o) := by
 unfold putN
 rw [h]
 simp only
 induction m generalizing i with
 | nil => cases h
 | cons p r ih =>
  obtain ⟨k, q⟩ := p
  rw [idxG] at h
  split at h
  ·rename_i hk
   cases h
   have : s = k := by simpa using hk
   subst this
   exact ⟨rfl, rfl⟩
  ·obtain ⟨j, hj, rfl⟩ := Option.map_eq_some_iff.1 h
   obtain ⟨a, b⟩ := ih hj
   simp only [keysN, valsN, List.set_cons_succ, List.map_cons] at a b ⊢
   exact ⟨by rw [a], by rw [b]⟩
theorem qF {s : Str} {o : Nat} {m : NumM} (h : idxG s m = none) : keysN (putN s o m) = keysN m ++ [.str s] /\ valsN (putN s o m) = valsN m ++ [.i o] := by
 unfold putN
 rw [h]
 simp [keysN, valsN]
theorem rR (s' s : Str) (o : Nat) : ∀ m : NumM, idxF' s' (putN s o m) = if s' == s then some o else idxF' s' m
 | [] => rfl
 | (k, q) :: r => by
  have ih := rR s' s o r
  unfold putN at ih ⊢
  rw [idxG]
  by_cases hk : s = k
  ·subst hk
   simp only [beq_self_eq_true, if_true, List.set_cons_zero, idxF']
   cases s' == s <;> rfl
  ·have hk' : (s == k) = false := by simpa using hk
   simp only [hk', Bool.false_eq_true, if_false]
   cases hi : idxG s r with
   | none =>
    rw [hi] at ih
    simp only [Option.map_none, List.cons_append, idxF'] at ih ⊢
    rw [ih]
    by_cases e : s' = k
    ·subst e
     have : (s' == s) = false := by simpa using fun e => hk e.symm
     simp [this]
    ·have : (s' == k) = false := by simpa using e
     simp [this]
   | some i =>
    rw [hi] at ih
    simp only [Option.map_some, List.set_cons_succ, idxF'] at ih ⊢
    rw [ih]
    by_cases e : s' = k
    ·subst e
     have : (s' == s) = false := by simpa using fun e => hk e.symm
     simp [this]
    ·have : (s' == k) = false := by simpa using e
     simp [this]
theorem rT (s n : Str) : ∀ ns : List Str, idxN s (ns ++ [n]) = match idxN s ns with
  | some i => some i
  | none => if n == s then some ns.length else none
 | [] => by simp [idxN]
 | a :: r => by
  have ih := rT s n r
  rw [List.cons_append, idxN, idxN, ih]
  cases h : a == s
  ·cases idxN s r with
   | some i => rfl
   | none => cases n == s <;> simp
  ·rfl
theorem num_put {ns : List Str} {m : NumM} {s : Str} (hm : ∀ t, t ≠ [95] -> idxF' t m = idxN t ns) (hs : s = [95] ∨ idxN s ns = none) : ∀ t, t ≠ [95] -> idxF' t (putN s ns.length m) = idxN t (ns ++ [s]) := by
 intro t ht
 rw [rR, rT, hm t ht]
 by_cases e : t = s
 ·subst e
  rw [hs.resolve_left ht]
 ·have e1 : (t == s) = false := by simpa using e
  have e2 : (s == t) = false := by simpa using fun x => e x.symm
  rw [e1, e2]
  cases idxN t ns <;> rfl
theorem RdrAt.app {ls : List Lx} {p e : Nat} {ns : List Str} {k : Nat} {h : List AObj} (hs : RdrAt ls p e ns k h) (l : List AObj) : RdrAt ls p e ns k (h ++ l) := by
 obtain ⟨nv, nm, im, pm, hk, h1, ⟨m, hm, hm2⟩, ⟨m3, h3, h3'⟩, ⟨m4, h4, h4'⟩, h5, h6⟩ := hs
 exact ⟨nv, nm, im, pm, aM hk, h1.imp id fun ⟨b, e, hb⟩ => ⟨b, e, aM hb⟩, ⟨m, aM hm, hm2⟩, ⟨m3, aM h3, h3'⟩, ⟨m4, aM h4, h4'⟩, h5, h6⟩
def varT (i : Nat) : Tm := .mk 1 i [] []
theorem fU (n : Nat) : wkr (.agg [.i 1, .i n, .str [], .v (.slice none 0 0)]) (enc (varT n)) := by simp [varT, enc, encs, wkr, wkrs]
theorem h147 {ls : List Lx} {p e k : Nat} {ns : List Str} {h : List AObj} (s : Str) (hn : ns.length < 2 ^ 30) (hs : RdrAt ls p e ns k h) :
  Gives (PC GL) 147 [.ref k 0, .str s] h fun x h' => ∃ i ns', x = enc (varT i) /\ Keep (RdK k) h h' /\ RdrAt ls p e ns' k h' /\ ∀ r, varP s r ns = .ok (varT i, 0) r ns' := by
 have hs0 := hs
 obtain ⟨nv, nm, im, pm, hk, h1, ⟨m, hm, hm2⟩, ⟨m3, h3, h3b⟩, ⟨m4, h4, h4b⟩, h5, h6⟩ := hs
 have hmq : h[nm]? = some (.map (keysN m) (valsN m)) := hm
 refine k147.gives (by simp) ?_
 have hk_g := fun l => aF (l := l) hk
 have hk_s := fun o l => aG (l := l) hk o
 have hk_e := fun o l => aD (o := o) (l := l) hk
 have hk_h := fun o => aH (o := o) hk
 have hmq_g := fun l => aF (l := l) hmq
 have hmq_s := fun o l => aG (l := l) hmq o
 have hmq_e := fun o l => aD (o := o) (l := l) hmq
 have hmq_h := fun o => aH (o := o) hmq
 have hkl := aL hk
 have hml := aL hmq
 have hkm : k ≠ nm := aU hk hmq (by simp)
 have n95 : ∀ x : Bool, (s == [95]) = x -> (if s == [95] then none else idxN s ns) = if x then none else idxN s ns := fun x e => by rw [e]
 have done : ∀ h' : List AObj, ∀ nv' : AV, h'[k]? = some (.cells 85 [.sl 5 (ls.map encLx), .i p, .i e, nv', .mp nm, .mp im, .mp pm]) -> NamesV (ns ++ [s]) nv' h' -> h'[nm]? = some (.map (keysN (putN s ns.length m)) (valsN (putN s ns.length m))) -> h'[im]? = h[im]? -> h'[pm]? = h[pm]? -> (s = [95] ∨ idxN s ns = none) -> RdrAt ls p e (ns ++ [s]) k h' /\ ∀ r, varP s r ns = .ok (varT ns.length, 0) r (ns ++ [s]) := by
  intro h' nv' q1 q2 q3 q4 q5 q6
  refine ⟨⟨nv', nm, im, pm, q1, q2, ⟨_, q3, num_put hm2 q6⟩, ⟨m3, by rw [q4]; exact h3, h3b⟩, ⟨m4, by rw [q5]; exact h4, h4b⟩, h5, h6⟩, fun r => ?_⟩
  unfold varP
  rcases q6 with q | q
  ·subst q; rfl
  ·rw [q]; simp [varT]
 have l3 := aL h3
 have l4 := aL h4
 have k3 : k ≠ im := aU hk h3 (by simp)
 have k4 : k ≠ pm := aU hk h4 (by simp)
 simp -implicitDefEqProofs only [go_sem, c147, r147, List.append_assoc, hk_g, hk_s, hk_e, aM hmq, cW]
 rcases hU : (s == [95]) with _ | _
 ·have hs95 : s ≠ [95] := by intro x; subst x; cases hU
  rcases vT s m with ⟨a, b⟩ | ⟨i, n, a, b, c⟩
  rotate_left
  ·have hN : idxN s ns = some n := by rw [<- hm2 s hs95]; exact b
   rw [a]
   simp -implicitDefEqProofs only [go_sem, c]
   exact cS (by simp) (fU n) ⟨n, ns, rfl, Keep.app _ _ _, hs0.app _, fun r => by unfold varP; rw [n95 _ hU, if_neg (by simp), hN]; rfl⟩
  ·have hN : idxN s ns = none := by rw [<- hm2 s hs95]; exact b
   obtain ⟨u1, u2⟩ := qF (o := ns.length) a
   have q6 : s = [95] ∨ idxN s ns = none := .inr hN
   rw [a]
   rcases h1 with ⟨rfl, rfl⟩ | ⟨b1, rfl, hb1⟩
   ·have g1 : ∀ X l, (h.set k X ++ l)[nm]? = some (.map (keysN m) (valsN m)) := fun X l => aM (by rw [aE hkm]; exact hmq)
    have s1 : ∀ X Y l, (h.set k X ++ l).set nm Y = (h.set k X).set nm Y ++ l := fun X Y l => cH (by simpa using hml)
    have s2 : ∀ X Y l, ((h.set k X).set nm Y ++ l)[h.length]? = l[0]? := fun X Y l => by rw [List.getElem?_append_right (by simp)]; simp
    have s3 : ∀ X Y Z l, ((h.set k X).set nm Y ++ l).set h.length Z = (h.set k X).set nm Y ++ l.set 0 Z := fun X Y Z l => by rw [List.set_append_right _ _ (by simp)]; simp
    simp -implicitDefEqProofs only [go_sem, g1, cW, a, List.length_singleton, dY, s1, s2, s3]
    refine ⟨by simp, ?_⟩
    exact cS (by simp) (fU 0) ⟨0, [s], rfl, ((Keep.set _ hk (.inl rfl)).trans (Keep.set _ (by rw [aE hkm]; exact hmq) (.inr (.inr ⟨_, _, rfl⟩)))).trans (Keep.app _ _ _),
     done _ (.own (h.length + 2) 1 [.str s]) (aM (by rw [aE hkm.symm, aH hk])) (.inr ⟨_, rfl, by rw [aZ (by simp)]; simp⟩) (aM (by rw [u1, u2]; exact List.getElem?_set_self (by simpa using hml))) (by rw [bY (by simpa using l3), aE h5, aE k3]) (by rw [bY (by simpa using l4), aE h6, aE k4]) q6⟩
   ·have hbk : b1 ≠ k := aU hb1 hk (by simp)
    have hbm : b1 ≠ nm := aU hb1 hmq (by simp)
    have hb3 : b1 ≠ im := aU hb1 h3 (by simp)
    have hb4 : b1 ≠ pm := aU hb1 h4 (by simp)
    have g0 : ∀ D l, (h.set b1 D ++ l)[k]? = some (.cells 85 [.sl 5 (ls.map encLx), .i p, .i e, .own b1 1 (ns.map AV.str), .mp nm, .mp im, .mp pm]) := fun D l => aM (by rw [aE hbk]; exact hk)
    have s0 : ∀ D X l, (h.set b1 D ++ l).set k X = (h.set b1 D).set k X ++ l := fun D X l => cH (by simpa using hkl)
    have g9 : ∀ D X l, ((h.set b1 D).set k X ++ l)[k]? = some X := fun D X l => aM (List.getElem?_set_self (by simpa using hkl))
    have g1 : ∀ D X l, ((h.set b1 D).set k X ++ l)[nm]? = some (.map (keysN m) (valsN m)) := fun D X l => aM (by rw [aE hkm, aE hbm]; exact hmq)
    have s1 : ∀ D X Y l, ((h.set b1 D).set k X ++ l).set nm Y = ((h.set b1 D).set k X).set nm Y ++ l := fun D X Y l => cH (by simpa using hml)
    have s2 : ∀ D X Y l, (((h.set b1 D).set k X).set nm Y ++ l)[h.length]? = l[0]? := fun D X Y l => by rw [List.getElem?_append_right (by simp)]; simp
    have s3 : ∀ D X Y Z l, (((h.set b1 D).set k X).set nm Y ++ l).set h.length Z = ((h.set b1 D).set k X).set nm Y ++ l.set 0 Z := fun D X Y Z l => by rw [List.set_append_right _ _ (by simp)]; simp
    have hb1_g := fun l => aF (l := l) hb1
    have hb1_s := fun o l => aG (l := l) hb1 o
    have hb1_e := fun o l => aD (o := o) (l := l) hb1
    have hb1_h := fun o => aH (o := o) hb1
    simp -implicitDefEqProofs only [go_sem, List.append_assoc, hb1_g, hb1_s, g0, s0, g9, g1, cW, a, List.length_map, List.length_singleton, dY, s1, s2, s3]
    refine ⟨by omega, ?_⟩
    exact cS (by simp) (fU ns.length) ⟨ns.length, ns ++ [s], rfl, (((Keep.set _ hb1 (.inr (.inl rfl))).trans (Keep.set _ (by rw [aE hbk]; exact hk) (.inl rfl))).trans (Keep.set _ (by rw [aE hkm, aE hbm]; exact hmq) (.inr (.inr ⟨_, _, rfl⟩)))).trans (Keep.app _ _ _),
     done _ (.own (h.length + 2) 1 (ns.map AV.str ++ [.str s])) (aM (by rw [aE hkm.symm]; exact List.getElem?_set_self (by simpa using hkl))) (.inr ⟨h.length + 2, by rw [List.map_append]; rfl, by rw [aZ (by simp)]; simp⟩) (aM (by rw [u1, u2]; exact List.getElem?_set_self (by simpa using hml))) (by rw [bY (by simpa using l3), aE h5, aE k3, aE hb3]) (by rw [bY (by simpa using l4), aE h6, aE k4, aE hb4]) q6⟩
 ·have q6 : s = [95] ∨ idxN s ns = none := .inl (by simpa using hU)
  rcases vT s m with ⟨a, b⟩ | ⟨i, n, a, b, c⟩
  ·obtain ⟨u1, u2⟩ := qF (o := ns.length) a
   rw [a]
   rcases h1 with ⟨rfl, rfl⟩ | ⟨b1, rfl, hb1⟩
   ·have g1 : ∀ X l, (h.set k X ++ l)[nm]? = some (.map (keysN m) (valsN m)) := fun X l => aM (by rw [aE hkm]; exact hmq)
    have s1 : ∀ X Y l, (h.set k X ++ l).set nm Y = (h.set k X).set nm Y ++ l := fun X Y l => cH (by simpa using hml)
    have s2 : ∀ X Y l, ((h.set k X).set nm Y ++ l)[h.length]? = l[0]? := fun X Y l => by rw [List.getElem?_append_right (by simp)]; simp
    have s3 : ∀ X Y Z l, ((h.set k X).set nm Y ++ l).set h.length Z = (h.set k X).set nm Y ++ l.set 0 Z := fun X Y Z l => by rw [List.set_append_right _ _ (by simp)]; simp
    simp -implicitDefEqProofs only [go_sem, g1, cW, a, List.length_singleton, dY, s1, s2, s3]
    refine ⟨by simp, ?_⟩
    exact cS (by simp) (fU 0) ⟨0, [s], rfl, ((Keep.set _ hk (.inl rfl)).trans (Keep.set _ (by rw [aE hkm]; exact hmq) (.inr (.inr ⟨_, _, rfl⟩)))).trans (Keep.app _ _ _),
     done _ (.own (h.length + 2) 1 [.str s]) (aM (by rw [aE hkm.symm, aH hk])) (.inr ⟨_, rfl, by rw [aZ (by simp)]; simp⟩) (aM (by rw [u1, u2]; exact List.getElem?_set_self (by simpa using hml))) (by rw [bY (by simpa using l3), aE h5, aE k3]) (by rw [bY (by simpa using l4), aE h6, aE k4]) q6⟩
   ·have hbk : b1 ≠ k := aU hb1 hk (by simp)
    have hbm : b1 ≠ nm := aU hb1 hmq (by simp)
    have hb3 : b1 ≠ im := aU hb1 h3 (by simp)
    have hb4 : b1 ≠ pm := aU hb1 h4 (by simp)
    have g0 : ∀ D l, (h.set b1 D ++ l)[k]? = some (.cells 85 [.sl 5 (ls.map encLx), .i p, .i e, .own b1 1 (ns.map AV.str), .mp nm, .mp im, .mp pm]) := fun D l => aM (by rw [aE hbk]; exact hk)
    have s0 : ∀ D X l, (h.set b1 D ++ l).set k X = (h.set b1 D).set k X ++ l := fun D X l => cH (by simpa using hkl)
    have g9 : ∀ D X l, ((h.set b1 D).set k X ++ l)[k]? = some X := fun D X l => aM (List.getElem?_set_self (by simpa using hkl))
    have g1 : ∀ D X l, ((h.set b1 D).set k X ++ l)[nm]? = some (.map (keysN m) (valsN m)) := fun D X l => aM (by rw [aE hkm, aE hbm]; exact hmq)
    have s1 : ∀ D X Y l, ((h.set b1 D).set k X ++ l).set nm Y = ((h.set b1 D).set k X).set nm Y ++ l := fun D X Y l => cH (by simpa using hml)
    have s2 : ∀ D X Y l, (((h.set b1 D).set k X).set nm Y ++ l)[h.length]? = l[0]? := fun D X Y l => by rw [List.getElem?_append_right (by simp)]; simp
    have s3 : ∀ D X Y Z l, (((h.set b1 D).set k X).set nm Y ++ l).set h.length Z = ((h.set b1 D).set k X).set nm Y ++ l.set 0 Z := fun D X Y Z l => by rw [List.set_append_right _ _ (by simp)]; simp
    have hb1_g := fun l => aF (l := l) hb1
    have hb1_s := fun o l => aG (l := l) hb1 o
    have hb1_e := fun o l => aD (o := o) (l := l) hb1
    have hb1_h := fun o => aH (o := o) hb1
    simp -implicitDefEqProofs only [go_sem, List.append_assoc, hb1_g, hb1_s, g0, s0, g9, g1, cW, a, List.length_map, List.length_singleton, dY, s1, s2, s3]
    refine ⟨by omega, ?_⟩
    exact cS (by simp) (fU ns.length) ⟨ns.length, ns ++ [s], rfl, (((Keep.set _ hb1 (.inr (.inl rfl))).trans (Keep.set _ (by rw [aE hbk]; exact hk) (.inl rfl))).trans (Keep.set _ (by rw [aE hkm, aE hbm]; exact hmq) (.inr (.inr ⟨_, _, rfl⟩)))).trans (Keep.app _ _ _),
     done _ (.own (h.length + 2) 1 (ns.map AV.str ++ [.str s])) (aM (by rw [aE hkm.symm]; exact List.getElem?_set_self (by simpa using hkl))) (.inr ⟨h.length + 2, by rw [List.map_append]; rfl, by rw [aZ (by simp)]; simp⟩) (aM (by rw [u1, u2]; exact List.getElem?_set_self (by simpa using hml))) (by rw [bY (by simpa using l3), aE h5, aE k3, aE hb3]) (by rw [bY (by simpa using l4), aE h6, aE k4, aE hb4]) q6⟩
  ·obtain ⟨u1, u2⟩ := putN_keys (o := ns.length) a
   rw [a]
   simp only [c]
   rcases h1 with ⟨rfl, rfl⟩ | ⟨b1, rfl, hb1⟩
   ·have g1 : ∀ X l, (h.set k X ++ l)[nm]? = some (.map (keysN m) (valsN m)) := fun X l => aM (by rw [aE hkm]; exact hmq)
    have s1 : ∀ X Y l, (h.set k X ++ l).set nm Y = (h.set k X).set nm Y ++ l := fun X Y l => cH (by simpa using hml)
    have s2 : ∀ X Y l, ((h.set k X).set nm Y ++ l)[h.length]? = l[0]? := fun X Y l => by rw [List.getElem?_append_right (by simp)]; simp
    have s3 : ∀ X Y Z l, ((h.set k X).set nm Y ++ l).set h.length Z = (h.set k X).set nm Y ++ l.set 0 Z := fun X Y Z l => by rw [List.set_append_right _ _ (by simp)]; simp
    simp -implicitDefEqProofs only [go_sem, List.append_assoc, hk_g, hk_s, hk_e, g1, cW, a, List.length_singleton, dY, s1, s2, s3]
    refine ⟨by simp, ?_⟩
    exact cS (by simp) (fU 0) ⟨0, [s], rfl, ((Keep.set _ hk (.inl rfl)).trans (Keep.set _ (by rw [aE hkm]; exact hmq) (.inr (.inr ⟨_, _, rfl⟩)))).trans (Keep.app _ _ _),
     done _ (.own (h.length + 2) 1 [.str s]) (aM (by rw [aE hkm.symm, aH hk])) (.inr ⟨_, rfl, by rw [aZ (by simp)]; simp⟩) (aM (by rw [u1, u2]; exact List.getElem?_set_self (by simpa using hml))) (by rw [bY (by simpa using l3), aE h5, aE k3]) (by rw [bY (by simpa using l4), aE h6, aE k4]) q6⟩
   ·have hbk : b1 ≠ k := aU hb1 hk (by simp)
    have hbm : b1 ≠ nm := aU hb1 hmq (by simp)
    have hb3 : b1 ≠ im := aU hb1 h3 (by simp)
    have hb4 : b1 ≠ pm := aU hb1 h4 (by simp)
    have g0 : ∀ D l, (h.set b1 D ++ l)[k]? = some (.cells 85 [.sl 5 (ls.map encLx), .i p, .i e, .own b1 1 (ns.map AV.str), .mp nm, .mp im, .mp pm]) := fun D l => aM (by rw [aE hbk]; exact hk)
    have s0 : ∀ D X l, (h.set b1 D ++ l).set k X = (h.set b1 D).set k X ++ l := fun D X l => cH (by simpa using hkl)
    have g9 : ∀ D X l, ((h.set b1 D).set k X ++ l)[k]? = some X := fun D X l => aM (List.getElem?_set_self (by simpa using hkl))
    have g1 : ∀ D X l, ((h.set b1 D).set k X ++ l)[nm]? = some (.map (keysN m) (valsN m)) := fun D X l => aM (by rw [aE hkm, aE hbm]; exact hmq)
    have s1 : ∀ D X Y l, ((h.set b1 D).set k X ++ l).set nm Y = ((h.set b1 D).set k X).set nm Y ++ l := fun D X Y l => cH (by simpa using hml)
    have s2 : ∀ D X Y l, (((h.set b1 D).set k X).set nm Y ++ l)[h.length]? = l[0]? := fun D X Y l => by rw [List.getElem?_append_right (by simp)]; simp
    have s3 : ∀ D X Y Z l, (((h.set b1 D).set k X).set nm Y ++ l).set h.length Z = ((h.set b1 D).set k X).set nm Y ++ l.set 0 Z := fun D X Y Z l => by rw [List.set_append_right _ _ (by simp)]; simp
    have hb1_g := fun l => aF (l := l) hb1
    have hb1_s := fun o l => aG (l := l) hb1 o
    have hb1_e := fun o l => aD (o := o) (l := l) hb1
    have hb1_h := fun o => aH (o := o) hb1
    simp -implicitDefEqProofs only [go_sem, List.append_assoc, hk_g, hb1_g, hb1_s, g0, s0, g9, g1, cW, a, List.length_map, List.length_singleton, dY, s1, s2, s3]
    refine ⟨by omega, ?_⟩
    exact cS (by simp) (fU ns.length) ⟨ns.length, ns ++ [s], rfl, (((Keep.set _ hb1 (.inr (.inl rfl))).trans (Keep.set _ (by rw [aE hbk]; exact hk) (.inl rfl))).trans (Keep.set _ (by rw [aE hkm, aE hbm]; exact hmq) (.inr (.inr ⟨_, _, rfl⟩)))).trans (Keep.app _ _ _),
     done _ (.own (h.length + 2) 1 (ns.map AV.str ++ [.str s])) (aM (by rw [aE hkm.symm]; exact List.getElem?_set_self (by simpa using hkl))) (.inr ⟨h.length + 2, by rw [List.map_append]; rfl, by rw [aZ (by simp)]; simp⟩) (aM (by rw [u1, u2]; exact List.getElem?_set_self (by simpa using hml))) (by rw [bY (by simpa using l3), aE h5, aE k3, aE hb3]) (by rw [bY (by simpa using l4), aE h6, aE k4, aE hb4]) q6⟩
def Pre (ls : List Lx) (p e : Nat) (k : Nat) (h : List AObj) : Prop := ∃ nv mv im pm, h[k]? = some (.cells 85 [.sl 5 (ls.map encLx), .i p, .i e, nv, mv, .mp im, .mp pm]) /\
 (nv = .v (.slice none 0 0) ∨ ∃ b l, nv = .own b 1 l) /\ (mv = .v (.map none) ∨ ∃ n, mv = .mp n) /\ MapOp infixO im h /\ MapOp prefixO pm h
theorem MapOp.keep {T : Str -> Option Opr} {n : Nat} {h h' : List AObj} (hm : MapOp T n h) (hk : Keep All h h') : MapOp T n h' := by
 obtain ⟨m, a, b⟩ := hm
 exact ⟨m, hk.got a, b⟩
theorem MapOp.lt {T : Str -> Option Opr} {n : Nat} {h : List AObj} (hm : MapOp T n h) : n < h.length := by
 obtain ⟨m, a, b⟩ := hm
 exact aL a
theorem RdrAt.pre {ls : List Lx} {p e k : Nat} {ns : List Str} {h : List AObj} (hs : RdrAt ls p e ns k h) : Pre ls p e k h := by
 obtain ⟨nv, nm, im, pm, hk, h1, h2, h3, h4, h5, h6⟩ := hs
 exact ⟨nv, .mp nm, im, pm, hk, h1.imp And.right fun ⟨b, e, _⟩ => ⟨b, _, e⟩, .inr ⟨nm, rfl⟩, h3, h4⟩
theorem h63 {ls : List Lx} {p e k : Nat} {h : List AObj} (hs : Pre ls p e k h) : Gives (PC GL) 63 [.ref k 0] h fun _ h' => Keep (fun i _ => i = k) h h' /\ RdrAt ls p e [] k h' := by
 obtain ⟨nv, mv, im, pm, hk, hn, hm, h3, h4⟩ := hs
 have hkl := aL hk
 have l3 := h3.lt
 have l4 := h4.lt
 have fin : ∀ l, RdrAt ls p e [] k (h.set k (.cells 85 [.sl 5 (ls.map encLx), .i p, .i e, .v (.slice none 0 0), .mp h.length, .mp im, .mp pm]) ++ .map [] [] :: l) := fun l =>
  ⟨_, h.length, im, pm, aM (aH hk), .inl ⟨rfl, rfl⟩, ⟨[], by rw [aZ (by simp)]; simp, fun _ _ => rfl⟩, (iI h3 hk _).keep (Keep.app _ _ _), (iI h4 hk _).keep (Keep.app _ _ _), by omega, by omega⟩
 refine k63.gives (by simp) ?_
 have hk_g := fun l => aF (l := l) hk
 have hk_s := fun o l => aG (l := l) hk o
 have hk_e := fun o l => aD (o := o) (l := l) hk
 have hk_h := fun o => aH (o := o) hk
 have s1 : ∀ X Y l, (h.set k X ++ l).set k Y = h.set k Y ++ l := fun X Y l => by rw [cH (by simpa using hkl), List.set_set]
 rcases hn with rfl | ⟨b, l, rfl⟩
 all_goals
  rcases hm with rfl | ⟨n, rfl⟩
  all_goals
   simp -implicitDefEqProofs only [go_sem, c63, r63, hk_g, hk_s, hk_e, s1]
   exact aT (by simp) ⟨(Keep.set _ hk rfl).trans (Keep.app _ _ _), fin _⟩
theorem h62 (hG : GLok GL) (l : List UInt8) (h : List AObj) : AC Tryz.prog GL (.fn 62) [.str l] h fun x h' => Keep All h h' /\ match lexOut l with
  | .error e => x = .panic (wrongV e.1 e.2)
  | .ok ls => ∃ k, x = .val (.ref k 0) /\ h.length <= k /\ Pre ls 0 l.length k h' := by
 refine k62.call (by simp) ?_
 simp -implicitDefEqProofs only [go_sem, c62, r62]
 refine aJ hC (h58s hG l h) fun x h1 ⟨hx, k1⟩ => ?_
 unfold LexS at hx
 rcases hz : lexOut l with e | ls
 ·rw [hz] at hx
  subst hx
  simp -implicitDefEqProofs only [go_sem]
  exact aP k1.1 ⟨k1, rfl⟩
 ·rw [hz] at hx
  subst hx
  simp -implicitDefEqProofs only [go_sem]
  refine aJ hC (h71 h1) fun x h2 ⟨k2, im, ex, _, m2⟩ => ?_
  subst ex
  simp -implicitDefEqProofs only [go_sem]
  refine aJ hC (h88 h2) fun x h3 ⟨k3, pm, ex, _, m3⟩ => ?_
  subst ex
  simp -implicitDefEqProofs only [go_sem]
  have k13 := (k1.trans k2).trans k3
  exact ⟨_, _, Wk.refl (by have := k13.1; simp; omega), k13.trans (Keep.app _ _ _), h3.length, rfl, k13.1, _, _, im, pm, by rw [dG]; rfl, .inl rfl, .inl rfl, (m2.keep k3).keep (Keep.app _ _ _), m3.keep (Keep.app _ _ _)⟩
def RdOut {α : Type} (o : α -> AV) (ls : List Lx) (e k : Nat) (h : List AObj) (r : PR α) (x : ARes) (h' : List AObj) : Prop := Keep (RdK k) h h' /\ match r with
 | .ok t rest ns' => x = .val (o t) /\ ∃ q, ls.drop q = rest /\ q <= ls.length /\ ns'.length <= q /\ RdrAt ls q e ns' k h'
 | .bad rest => x = .panic (wrongV 21 (muchAt rest e))
def LsOk (ls : List Lx) : Prop := ls.length < 2 ^ 28 /\ ∀ x ∈ ls, 0 <= x.n /\ x.n <= 2147483647
def Term64 (GL : Glob) (f : Nat) : Prop := ∀ (lim : Int) (ls : List Lx) (p e : Nat) (ns : List Str) (k : Nat) (h : List AObj) (r : PR (Tm × Int)), LsOk ls -> p <= ls.length -> ns.length <= p -> RdrAt ls p e ns k h -> termF f lim (ls.drop p) ns = some r ->
 AC Tryz.prog GL (.fn 64) [.ref k 0, .i lim] h (RdOut (fun t => enc t.1) ls e k h r)
end Go.Rip
namespace Go.Rip
open Go Go.Proofs
variable {GL : Glob}
theorem dge (n : Nat) : decide ((n : Int) >= 1) = decide (1 <= n) := by simp only [decide_eq_decide]; omega
theorem dle (n : Nat) : decide ((n : Int) <= 32) = decide (n <= 32) := by simp only [decide_eq_decide]; omega
theorem h219 (r : Int) : Pure (PC GL) 219 [.v (.int .i32 r)] (.b (decide (r < 32) || decide (126 < r))) := by
 refine k219.pure (by simp) (by simp [go_sem]) (by simp [go_sem]) ?_
 simp -implicitDefEqProofs only [c219, r219, go_sem]
 repeat' (first | simp -implicitDefEqProofs only [go_sem, *] | with_reducible refine bF (fun _ => ?_) (fun _ => ?_) | with_reducible refine bD (fun _ => ?_) (fun _ => ?_) | with_reducible refine bA (fun _ => ?_) (fun _ => ?_) | with_reducible refine aO ?_ ?_ | ((with_reducible refine And.intro ?bnd ?_); (case bnd => decide)) | fail)
 all_goals simp_all
theorem h234 (s : List UInt8) (_hs : s.length < 2 ^ 30) : Pure (PC GL) 234 [.str s, .fn (.func 219) [] [], .b true] (.i (firstBad s)) := by
 refine k234.pure (by simp) (by simp [go_sem]) (by simp [go_sem]) ?_
 simp -implicitDefEqProofs only [c234, r234, go_sem]
 refine s_for hC (fun j => (s.take j).all byteOk = true) (fun _ => [(10, .ref 0 0), (0, .str s), (1, .fn (.func 219) [] []), (2, .b true)]) (fun j => [.siter ⟨s.toArray⟩ j]) s.length (by simp) ?_ ?_
 ·refine Wk.slots (by simp) ?_ ?_ <;> simp [go_sem]
 ·intro j hj hI
  simp -implicitDefEqProofs only [go_sem]
  refine nxO_and (fun hlt => ?_) (fun hlt => ?_)
  ·simp only [List.size_toArray] at hlt
   have hlt : j < s.length := Nat.le_of_ble_eq_true hlt
   by_cases hb : byteOk s[j] = true
   ·simp -implicitDefEqProofs only [go_sem, decode_ok hlt hb]
    refine aC hC (h219 _) ?_
    have hb' := hb
    simp only [byteOk, Bool.and_eq_true, decide_eq_true_eq] at hb'
    have e : (decide (((s[j]).toNat : Int) < 32) || decide (126 < ((s[j]).toNat : Int))) = false := by simp; omega
    simp -implicitDefEqProofs only [go_sem, e]
    refine ⟨hlt, by rw [all_snoc hlt, hI, hb]; rfl, Wk.slots (by simp) ?_ ?_⟩ <;> simp [go_sem]
   ·have hb : byteOk s[j] = false := by simpa using hb
    have hd := vQ hlt hb
    simp -implicitDefEqProofs only [go_sem]
    refine aC hC (h219 _) ?_
    have e : (decide (((Utf8.decode ⟨s.toArray⟩ j).1 : Int) < 32) || decide (126 < ((Utf8.decode ⟨s.toArray⟩ j).1 : Int))) = true := by simp; omega
    simp -implicitDefEqProofs only [go_sem, e]
    refine aO ?_ ?_ <;> simp [go_sem, oZ hlt hI hb]
  ·simp only [List.size_toArray] at hlt
   have hge : s.length <= j := by
    rcases Nat.lt_or_ge j s.length with h | h
    ·rw [show Nat.blt j s.length = true from Nat.ble_eq_true_of_le h] at hlt; cases hlt
    ·exact h
   rw [eV hge] at hI
   simp -implicitDefEqProofs only [go_sem]
   refine aO ?_ ?_ <;> simp [go_sem, oX hI]
theorem h220 (s : List UInt8) (hs : s.length < 2 ^ 30) : Pure (PC GL) 220 [.str s, .fn (.func 219) [] []] (.i (firstBad s)) := by
 refine k220.pure (by simp) (by simp [go_sem]) (by simp [go_sem]) ?_
 simp -implicitDefEqProofs only [c220, r220, go_sem]
 repeat' (first | simp -implicitDefEqProofs only [go_sem, *] | with_reducible refine bF (fun _ => ?_) (fun _ => ?_) | with_reducible refine bD (fun _ => ?_) (fun _ => ?_) | with_reducible refine bA (fun _ => ?_) (fun _ => ?_) | with_reducible refine aO ?_ ?_ | (refine aC hC (h234 _ hs) ?_) | ((with_reducible refine And.intro ?bnd ?_); (case bnd => decide)) | fail)
 all_goals simp_all [go_sem]
theorem h199 (s : List UInt8) (hs : s.length < 2 ^ 30) : Pure (PC GL) 199 [.str s] (.b (nameOk s)) := by
 refine k199.pure (by simp) (by simp [go_sem]) (by simp [go_sem]) ?_
 simp -implicitDefEqProofs only [c199, r199, go_sem]
 simp -implicitDefEqProofs only [go_sem, dge]
 repeat' (first | simp -implicitDefEqProofs only [go_sem, *, dle, rJ] | with_reducible refine bF (fun _ => ?_) (fun _ => ?_) | with_reducible refine bD (fun _ => ?_) (fun _ => ?_) | with_reducible refine bA (fun _ => ?_) (fun _ => ?_) | with_reducible refine aO ?_ ?_ | (refine aC hC (h220 _ hs) ?_) | ((with_reducible refine And.intro ?bnd ?_); (case bnd => decide)) | fail)
 all_goals simp_all [go_sem, nameOk]
 all_goals (intros; omega)
def Tm.bare (t : Tm) (n s l : Bool) : Bool := (n || t.n == 0) && ((s || t.s == []) && (l || (t.l.length : Int) == 0))
def Tm.nodeOk (t : Tm) : Bool :=
 if t.kind = 1 then t.bare true false false && (decide (0 <= t.n) && decide (t.n < 100000))
 else if t.kind = 2 then t.bare true false false && (decide (-2147483647 <= t.n) && decide (t.n <= 2147483647))
 else if t.kind = 3 then t.bare false true false && nameOk t.s
 else if t.kind = 4 then t.bare false true false && decide ((t.s.length : Int) <= 255)
 else if t.kind = 5 then t.bare false true true && (nameOk t.s && (decide (1 <= (t.l.length : Int)) && decide ((t.l.length : Int) <= 16)))
 else if t.kind = 6 then t.bare false false true && decide ((t.l.length : Int) <= 64)
 else false
mutual
def Tm.nodesOk : Tm -> Bool
 | .mk k n s l => (Tm.mk k n s l).nodeOk && nodesOks l
def nodesOks : List Tm -> Bool
 | [] => true
 | t :: r => t.nodesOk && nodesOks r
end
theorem eY (t : Tm) : t.nodesOk = (t.nodeOk && nodesOks t.l) := by cases t; rfl
theorem jY : ∀ a b, nodesOks (a ++ b) = (nodesOks a && nodesOks b)
 | [], b => by simp [nodesOks]
 | x :: r, b => by simp only [List.cons_append, nodesOks, jY r b, Bool.and_assoc]
theorem iP {l : List Tm} {j : Nat} (h : j < l.length) : nodesOks (l.take (j + 1)) = (nodesOks (l.take j) && l[j].nodesOk) := by
 rw [dJ h, jY]; simp [nodesOks]
theorem kE {l : List Tm} (h : nodesOks l = true) {x : Tm} (hx : x ∈ l) : x.nodesOk = true := by
 induction l with
 | nil => cases hx
 | cons y r ih =>
  simp only [nodesOks, Bool.and_eq_true] at h
  rcases List.mem_cons.1 hx with rfl | hx
  ·exact h.1
  ·exact ih h.2 hx
theorem pH {l : List Tm} {x : Tm} (hx : x ∈ l) : x.deep <= deeps l := by
 induction l with
 | nil => cases hx
 | cons y r ih =>
  simp only [deeps]
  rcases List.mem_cons.1 hx with rfl | hx
  ·omega
  ·have := ih hx; omega
mutual
def Tm.strs : Tm -> Prop
 | .mk _ _ s l => s.length < 2 ^ 30 /\ strss l
def strss : List Tm -> Prop
 | [] => True
 | t :: r => t.strs /\ strss r
end
theorem strs_eq (t : Tm) : t.strs ↔ t.s.length < 2 ^ 30 /\ strss t.l := by cases t; rfl
theorem kW : ∀ {l : List Tm}, strss l -> ∀ x ∈ l, x.strs
 | y :: r, h, x, hx => by
  rcases List.mem_cons.1 hx with rfl | hx
  ·exact h.1
  ·exact kW h.2 x hx
def Tm.ok (t : Tm) : Bool := decide (t.size <= 4000) && (decide (t.deep <= 600) && t.nodesOk)
end Go.Rip
namespace Go.Rip
open Go Go.Proofs
variable {GL : Glob}
set_option maxRecDepth 100000
def NoN : CallF := fun _ _ _ => none
theorem NoN_ok : SoundC Tryz.prog GL NoN := fun _ _ _ _ _ h => by cases h
theorem h195 (t : Tm) (n s l : Bool) : Pure (PC GL) 195 [enc t, .b n, .b s, .b l] (.b (t.bare n s l)) := by
 refine k195.pure (by simp) (by simp [go_sem]) (by simp [go_sem]) ?_
 simp -implicitDefEqProofs only [c195, r195, go_sem]
 repeat' (first | simp -implicitDefEqProofs only [go_sem, *] | with_reducible refine bF (fun _ => ?_) (fun _ => ?_) | with_reducible refine bD (fun _ => ?_) (fun _ => ?_) | with_reducible refine bA (fun _ => ?_) (fun _ => ?_) | with_reducible refine aO ?_ ?_ | ((with_reducible refine And.intro ?bnd ?_); (case bnd => decide)) | fail)
 all_goals simp_all [go_sem, Tm.bare]
def frmH : List AObj := [.cells 183 [.fn (.func 195) [] []]]
def frmV (k : Nat) : AV := .agg [.v .nilFunc, .fn (.func 196) [] [.ref k 0], .fn (.func 197) [] [.ref k 0], .fn (.func 198) [] [.ref k 0], .fn (.func 200) [] [.ref k 0], .fn (.func 201) [] [.ref k 0], .fn (.func 202) [] [.ref k 0]]
theorem fF : ∀ (i : Nat) (x : AObj), frmH[i]? = some x -> bdO frmH.length x := by
 intro i x hx
 cases i with
 | zero => simp [frmH] at hx; subst hx; simp [bdO, bds, bd]
 | succ i => simp [frmH] at hx
theorem cL {GL : Glob} {x v : AV} {h h1 : List AObj} (hw : wkr x v) (hb : bd 0 v) (hh : Wk GL h1.length [] h [] h1) : ∃ y h', Wk GL h1.length [(0, x)] h [(0, y)] h' /\ h' = h1 /\ ARes.val y = ARes.val v := by
 refine ⟨v, h1, fun E A G w f hW hf => ?_, rfl, rfl⟩
 obtain ⟨E', A', G', g1, g2, g3, g4, g5⟩ := hh E A G w (fun _ => undef) hW (fun i => by simp [tget, Rep])
 refine ⟨E', A', G', g1, fun i => ?_, g3, g4, g5⟩
 simp only [tget]
 split
 ·rename_i hi
  have := hf i
  simp only [tget, hi] at this
  have h6 := Rep.wk _ _ _ hw this
  have h7 : Rep E' A G w v (f i) := Rep.ren (κ := fun k => k) (E := E) (E' := E') (fun k hk hk' => g5 k (by rw [<- g1.n]; exact hk)) _ _ (qW (Nat.zero_le _) v hb) (by rw [lD]; exact h6)
  exact h7.mono (Env.le_refl _) g3
 ·simp [Rep]
theorem dP {GL : Glob} {ex : List AObj} : Wk GL frmH.length [] (frmH ++ ex) [] frmH := Wk.slots (Nat.le_refl _) (by simp [SlotsOk]) (by simp [frmH, ObjsOk, renO, rens, ren, wkO, wkrs, wkr, bdO, bds, bd])
theorem h196 (t : Tm) : PureOn (PC GL) 196 [enc t, .ref 0 0] (.b (t.bare true false false && (decide (0 <= t.n) && decide (t.n < 100000)))) frmH := by
 refine k196.call (by simp) ?_
 simp -implicitDefEqProofs only [go_sem, c196, r196, frmH]
 refine aC hC (h195 _ _ _ _) ?_
 repeat' (first | simp -implicitDefEqProofs only [go_sem, *] | with_reducible refine bF (fun _ => ?_) (fun _ => ?_) | with_reducible refine bD (fun _ => ?_) (fun _ => ?_) | with_reducible refine bA (fun _ => ?_) (fun _ => ?_) | with_reducible refine aO ?_ ?_ | ((with_reducible refine And.intro ?bnd ?_); (case bnd => decide)) | fail)
 all_goals (refine cL (h1 := frmH) ?_ ?_ dP <;> simp_all [go_sem])
theorem h197 (t : Tm) : PureOn (PC GL) 197 [enc t, .ref 0 0] (.b (t.bare true false false && (decide (-2147483647 <= t.n) && decide (t.n <= 2147483647)))) frmH := by
 refine k197.call (by simp) ?_
 simp -implicitDefEqProofs only [go_sem, c197, r197, frmH]
 refine aC hC (h195 _ _ _ _) ?_
 repeat' (first | simp -implicitDefEqProofs only [go_sem, *] | with_reducible refine bF (fun _ => ?_) (fun _ => ?_) | with_reducible refine bD (fun _ => ?_) (fun _ => ?_) | with_reducible refine bA (fun _ => ?_) (fun _ => ?_) | with_reducible refine aO ?_ ?_ | ((with_reducible refine And.intro ?bnd ?_); (case bnd => decide)) | fail)
 all_goals (refine cL (h1 := frmH) ?_ ?_ dP <;> simp_all [go_sem])
theorem h198 (t : Tm) (hs : t.s.length < 2 ^ 30) : PureOn (PC GL) 198 [enc t, .ref 0 0] (.b (t.bare false true false && nameOk t.s)) frmH := by
 refine k198.call (by simp) ?_
 simp -implicitDefEqProofs only [go_sem, c198, r198, frmH]
 refine aC hC (h195 _ _ _ _) ?_
 repeat' (first | simp -implicitDefEqProofs only [go_sem, *] | with_reducible refine bF (fun _ => ?_) (fun _ => ?_) | with_reducible refine bD (fun _ => ?_) (fun _ => ?_) | with_reducible refine bA (fun _ => ?_) (fun _ => ?_) | with_reducible refine aO ?_ ?_ | (refine aC hC (h199 _ hs) ?_) | ((with_reducible refine And.intro ?bnd ?_); (case bnd => decide)) | fail)
 all_goals (refine cL (h1 := frmH) ?_ ?_ dP <;> simp_all [go_sem])
theorem h200 (t : Tm) : PureOn (PC GL) 200 [enc t, .ref 0 0] (.b (t.bare false true false && decide ((t.s.length : Int) <= 255))) frmH := by
 refine k200.call (by simp) ?_
 simp -implicitDefEqProofs only [go_sem, c200, r200, frmH]
 refine aC hC (h195 _ _ _ _) ?_
 repeat' (first | simp -implicitDefEqProofs only [go_sem, *] | with_reducible refine bF (fun _ => ?_) (fun _ => ?_) | with_reducible refine bD (fun _ => ?_) (fun _ => ?_) | with_reducible refine bA (fun _ => ?_) (fun _ => ?_) | with_reducible refine aO ?_ ?_ | ((with_reducible refine And.intro ?bnd ?_); (case bnd => decide)) | fail)
 all_goals (refine cL (h1 := frmH) ?_ ?_ dP <;> simp_all [go_sem])
theorem h201 (t : Tm) (hs : t.s.length < 2 ^ 30) : PureOn (PC GL) 201 [enc t, .ref 0 0] (.b (t.bare false true true && (nameOk t.s && (decide (1 <= (t.l.length : Int)) && decide ((t.l.length : Int) <= 16))))) frmH := by
 refine k201.call (by simp) ?_
 simp -implicitDefEqProofs only [go_sem, c201, r201, frmH]
 refine aC hC (h195 _ _ _ _) ?_
 repeat' (first | simp -implicitDefEqProofs only [go_sem, *] | with_reducible refine bF (fun _ => ?_) (fun _ => ?_) | with_reducible refine bD (fun _ => ?_) (fun _ => ?_) | with_reducible refine bA (fun _ => ?_) (fun _ => ?_) | with_reducible refine aO ?_ ?_ | (refine aC hC (h199 _ hs) ?_) | ((with_reducible refine And.intro ?bnd ?_); (case bnd => decide)) | fail)
 all_goals (refine cL (h1 := frmH) ?_ ?_ dP <;> simp_all [go_sem])
theorem h202 (t : Tm) : PureOn (PC GL) 202 [enc t, .ref 0 0] (.b (t.bare false false true && decide ((t.l.length : Int) <= 64))) frmH := by
 refine k202.call (by simp) ?_
 simp -implicitDefEqProofs only [go_sem, c202, r202, frmH]
 refine aC hC (h195 _ _ _ _) ?_
 repeat' (first | simp -implicitDefEqProofs only [go_sem, *] | with_reducible refine bF (fun _ => ?_) (fun _ => ?_) | with_reducible refine bD (fun _ => ?_) (fun _ => ?_) | with_reducible refine bA (fun _ => ?_) (fun _ => ?_) | with_reducible refine aO ?_ ?_ | ((with_reducible refine And.intro ?bnd ?_); (case bnd => decide)) | fail)
 all_goals (refine cL (h1 := frmH) ?_ ?_ dP <;> simp_all [go_sem])
theorem e159 : (match evCall GL (mkT Tryz.prog) (mkKC Tryz.prog) (withD Tryz.prog GL NoN) 30 (.fn 159) [] [] with
 | some (.val x, h) => beqAV x (frmV 0) && (match h with | [.cells T l] => Nat.beq T 183 && beqAVs l [.fn (.func 195) [] []] | _ => false)
 | _ => false) = true := by kernel_rfl
theorem h159 (h : List AObj) {R : ARes -> List AObj -> Prop} (hR : R (.val (frmV h.length)) (h ++ frmH)) : PC GL (.fn 159) [] h R := by
 have h0 : ACall Tryz.prog GL 159 [] [] fun r h' => r = .val (frmV 0) /\ h' = frmH := by
  have he := e159 (GL := GL)
  split at he
  ·rename_i x h1 hx
   simp only [Bool.and_eq_true] at he
   have h2 := jT he.1
   have h3 := he.2
   split at h3
   ·simp only [Bool.and_eq_true] at h3
    exact reckon NoN_ok hx ⟨by rw [h2], by rw [frmH, Nat.eq_of_beq_eq_true h3.1, bZ h3.2]⟩
   ·cases h3
  ·cases he
 have h1 := kJ (h := h) (by simp [bds]) h0
 refine ACall.mono _ _ _ _ _ ?_ h1
 rintro r h' ⟨r0, h0, ⟨rfl, rfl⟩, rfl, rfl⟩
 have e : frmH.map (renO (· + h.length)) = frmH := by simp [frmH, renO, rens, ren]
 rw [e]
 simpa [renR, ren, rens, frmV] using hR
end Go.Rip
