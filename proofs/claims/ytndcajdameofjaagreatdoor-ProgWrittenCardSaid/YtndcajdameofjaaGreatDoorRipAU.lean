/- Lists of numbers. -/
import Derived.Test.YtndcajdameofjaaGreatDoorRipAP
import Derived.Test.YtndcajdameofjaaGreatDoorRipAT
import Derived.Test.YtndcajdameofjaaGreatDoorRipAI
import Derived.Test.YtndcajdameofjaaGreatDoorRipAJ
namespace Go.Rip
open Go Go.Proofs
variable {GL : Glob}
attribute [local irreducible] Pure
theorem h134 (l : List Int) (s : Int) (hl : l.length < 2 ^ 47) : Pure (PC GL) 134 [.sl 1 (l.map encI), .i s] (.i (idxF (fun x => s == x) l)) := by
 refine k134.pure (by simp) (by simp [go_sem]) (by simp [go_sem]) ?_
 simp -implicitDefEqProofs only [go_sem, c134, r134]
 refine eN hC (fun j => (l.take j).any (fun x => s == x) = false) (fun j => [(8, .i j)]) [7, 0, 1] l.length rfl ?_ ?_
 ·refine Wk.slots (by simp) ?_ ?_ <;> simp [go_sem]
 ·rintro j hj hI
  simp -implicitDefEqProofs only [go_sem]
  refine aK (fun hlt => ?_) (fun hlt => ?_)
  ·have hlt := aM hlt
   have g1 := fO hlt (fun x => s == x)
   have w5 : IntKind.i64.wrap ((j : Int) + 1) = (j : Int) + 1 := aP _ (by omega)
   simp -implicitDefEqProofs only [go_sem, hlt, aS, encI]
   refine aK (fun hx => ?_) (fun hx => ?_)
   ·simp -implicitDefEqProofs only [go_sem, hx]
    refine aI ?_ ?_ <;> simp [go_sem, gX hlt hI hx]
   ·simp -implicitDefEqProofs only [go_sem, hx]
    exact ⟨by rw [g1, hI, hx]; rfl, Wk.slots (by simp) (by simp [go_sem, w5]) (by simp [go_sem])⟩
  ·have hge := aL hlt
   rw [aT hge] at hI
   simp -implicitDefEqProofs only [go_sem, hlt]
   refine aI ?_ ?_ <;> simp [go_sem, fI hI]
theorem h43 (l : List Int) (s : Int) (hl : l.length < 2 ^ 47) : Pure (PC GL) 43 [.sl 1 (l.map encI), .i s] (.b (l.any fun x => s == x)) := by
 have h := h134 (GL := GL) l s hl
 refine k43.pure (by simp) (by simp [go_sem]) (by simp [go_sem]) ?_
 simp -implicitDefEqProofs only [go_sem, c43, r43]
 repeat' (first | simp -implicitDefEqProofs only [go_sem, *, kA] | with_reducible refine aV (fun _ => ?_) (fun _ => ?_) | with_reducible refine aX (fun _ => ?_) (fun _ => ?_) | with_reducible refine aK (fun _ => ?_) (fun _ => ?_) | with_reducible refine aI ?_ ?_ | ((with_reducible apply aG hC); (exact h)) | ((with_reducible refine And.intro ?bnd ?_); (case bnd => decide)) | fail)
 all_goals simp_all [go_sem]
theorem kQ {GL : Glob} {x v : AV} {h : List AObj} (e : x = v) : ∃ y h', Wk GL h.length [(0, x)] h [(0, y)] h' /\ h' = h /\ ARes.val y = ARes.val v := ⟨v, h, by rw [e]; exact Wk.refl (Nat.le_refl _), rfl, rfl⟩
theorem h248 (t : Tm) (ht : t.size < 2 ^ 30) : Pure (PC GL) 248 [enc t] (.tup [.i t.size, .i t.deep]) := by
 induction t using cR with
 | _ t ih =>
 rw [bE] at ht
 refine k248.pure (by simp) (by simp [go_sem]) (by simp [go_sem]) ?_
 simp -implicitDefEqProofs only [c248, r248, go_sem]
 refine eN hC (fun _ => True) (fun j => [(13, .i j), (4, .i (1 + sizes (t.l.take j) : Nat)), (5, .i (deeps (t.l.take j) : Nat))]) [11, 12] t.l.length trivial ?_ ?_
 ·refine Wk.slots (by simp) ?_ ?_ <;> simp [go_sem, sizes, deeps]
 ·intro j hj _
  simp -implicitDefEqProofs only [go_sem]
  refine aK (fun hlt => ?_) (fun hlt => ?_)
  ·have hlt := aM hlt
   simp -implicitDefEqProofs only [go_sem, hlt, aS]
   have h1 := bK hlt
   refine aG hC (ih _ (List.getElem_mem hlt) (by omega)) ?_
   simp -implicitDefEqProofs only [go_sem]
   have h2 := cD t.l j
   have h4 := aQ t.l
   have h3 := cW (t.l.take j)
   refine Wk.slots (by simp) ?_ ?_ <;> simp (disch := omega) [go_sem, aP, cN hlt, jU hlt, imax_nat]
   omega
  ·have hge := aL hlt
   have h3 := cW t.l
   simp -implicitDefEqProofs only [go_sem, hlt]
   refine aI ?_ ?_ <;> simp (disch := omega) [go_sem, aP, aT hge, bE, fR]
   omega
theorem h203 (l : List Tm) (hl : sizes l < 2 ^ 30) : Pure (PC GL) 203 [.sl 4 (l.map enc)] (.i (sizes l)) := by
 have h4 := aQ l
 refine k203.pure (by simp) (by simp [go_sem]) (by simp [go_sem]) ?_
 simp -implicitDefEqProofs only [c203, r203, go_sem]
 refine eN hC (fun _ => True) (fun j => [(10, .i j), (3, .i (sizes (l.take j) : Nat))]) [8, 9] l.length trivial ?_ ?_
 ·refine Wk.slots (by simp) ?_ ?_ <;> simp [go_sem, sizes]
 ·intro j hj _
  simp -implicitDefEqProofs only [go_sem]
  refine aK (fun hlt => ?_) (fun hlt => ?_)
  ·have hlt := aM hlt
   simp -implicitDefEqProofs only [go_sem, hlt, aS]
   have h1 := bK hlt
   have h2 := cD l j
   refine aG hC (h248 _ (by omega)) ?_
   simp -implicitDefEqProofs only [go_sem]
   refine Wk.slots (by simp) ?_ ?_ <;> simp (disch := omega) [go_sem, aP, cN hlt]
  ·have hge := aL hlt
   simp -implicitDefEqProofs only [go_sem, hlt]
   refine aI ?_ ?_ <;> simp (disch := omega) [go_sem, aT hge]
theorem h150 (l : List Int) (f : FuncId) (cap : List AV) (p : Int -> Bool) (h : List AObj) (hl : l.length < 2 ^ 47) (hf : ∀ x ∈ l, PureOn (PC GL) f (.i x :: cap) (.b (p x)) h) : PureOn (PC GL) 150 [.sl 1 (l.map encI), .fn (.func f) [] cap] (.i (idxF p l)) h := by
 refine k150.call (by simp) ?_
 simp -implicitDefEqProofs only [go_sem, c150, r150]
 refine eN hC (fun j => (l.take j).any p = false) (fun j => [(8, .i j)]) [7, 0, 1] l.length rfl ?_ ?_
 ·exact Wk.pick (Nat.le_refl _) (by simp [go_sem])
 ·rintro j hj hI
  simp -implicitDefEqProofs only [go_sem]
  refine aK (fun hlt => ?_) (fun hlt => ?_)
  ·have hlt := aM hlt
   have g1 := fO hlt p
   have w5 : IntKind.i64.wrap ((j : Int) + 1) = (j : Int) + 1 := aP _ (by omega)
   simp -implicitDefEqProofs only [go_sem, hlt, aS, encI]
   refine dN hC (hf _ (List.getElem_mem hlt)) ?_
   simp -implicitDefEqProofs only [go_sem]
   refine aK (fun hx => ?_) (fun hx => ?_)
   ·simp -implicitDefEqProofs only [go_sem, hx]
    exact kQ (by rw [gX hlt hI hx])
   ·simp -implicitDefEqProofs only [go_sem, hx]
    exact ⟨by rw [g1, hI, hx]; rfl, Wk.pick (Nat.le_refl _) (by simp [go_sem, w5])⟩
  ·have hge := aL hlt
   rw [aT hge] at hI
   simp -implicitDefEqProofs only [go_sem, hlt]
   exact kQ (by rw [fI hI])
theorem h61 (l : List Int) (f : FuncId) (cap : List AV) (p : Int -> Bool) (h : List AObj) (hl : l.length < 2 ^ 47) (hf : ∀ x ∈ l, PureOn (PC GL) f (.i x :: cap) (.b (p x)) h) : PureOn (PC GL) 61 [.sl 1 (l.map encI), .fn (.func f) [] cap] (.b (l.any p)) h := by
 refine k61.call (by simp) ?_
 simp -implicitDefEqProofs only [go_sem, c61, r61]
 refine dN hC (h150 l f cap p h hl hf) ?_
 simp -implicitDefEqProofs only [go_sem, kA]
 exact kQ rfl
theorem h253 (n : Nat) (hn : n < 2 ^ 40) (h : List AObj) : Gives (PC GL) 253 [.v (.slice none 0 0), .i n] h fun x h' => (n = 0 /\ x = .v (.slice none 0 0) /\ h' = h) ∨ (0 < n /\ ∃ k, x = .own k 4 [] /\ h'[k]? = some (.spare 24 4) /\ Keep All h h') := by
 refine k253.gives (by simp) ?_
 simp -implicitDefEqProofs only [go_sem, c253, r253]
 have e0 : decide ((n : Int) < 0) = false := by simp
 have w0 : IntKind.i64.wrap (0 - ((0 : Nat) : Int)) = 0 := by decide
 have w1 : IntKind.i64.wrap (n : Int) = n := aP _ (by omega)
 simp -implicitDefEqProofs only [go_sem, e0, w0, w1, Int.sub_zero]
 refine aK (fun hlt => ?_) (fun hlt => ?_)
 ·have hn0 : 0 < n := by have := of_decide_eq_true hlt; omega
  simp -implicitDefEqProofs only [go_sem, hlt]
  refine ⟨⟨by omega, by omega⟩, ⟨by simp, by simp, by simp⟩, ?_⟩
  refine aY (by simp) (.inr ⟨hn0, _, rfl, ?_, ?_⟩)
  ·rw [List.append_assoc]; exact aO h _ 1
  ·rw [List.append_assoc]; exact Keep.app _ _ _
 ·have hn0 : n = 0 := by have := of_decide_eq_false hlt; omega
  simp -implicitDefEqProofs only [go_sem, hlt]
  exact aY (Nat.le_refl _) (.inl ⟨hn0, rfl, rfl⟩)
theorem fT (ls : List (List Tm)) (j : Nat) : (ls.take j).flatten.length <= ls.flatten.length := by
 conv => rhs; rw [<- List.take_append_drop j ls, List.flatten_append, List.length_append]
 omega
theorem lF {ls : List (List Tm)} {j : Nat} (h : j < ls.length) : (ls.take (j + 1)).flatten = (ls.take j).flatten ++ ls[j] := by
 rw [bD h, List.flatten_append]; simp
def encT (l : List Tm) : AV := .sl 4 (l.map enc)
theorem free_encT : Free encT := ⟨fun κ a => by simp only [encT, ren, fG], fun n a => by simp only [encT, bd, iE]⟩
theorem h218 (ls : List (List Tm)) (hl : ls.flatten.length < 2 ^ 40) (hl2 : ls.length < 2 ^ 40) : Pure (PC GL) 218 [.sl 1 (ls.map encT)] (encT ls.flatten) := by
 have r1 := fun κ => free_encT.rens κ ls
 have r2 := fun n => free_encT.bds n ls
 refine k218.pure (by simp) (by simp [go_sem, r2]) (by rw [free_encT.2]; trivial) ?_
 simp -implicitDefEqProofs only [go_sem, c218, r218]
 refine eN hC (fun _ => True) (fun j => [(11, .i j), (3, .i ((ls.take j).flatten.length : Nat))]) [0, 9, 10] ls.length trivial ?_ ?_
 ·exact Wk.pick (by simp) (by simp [go_sem])
 ·intro j hj _
  have hf := fT ls j
  simp -implicitDefEqProofs only [go_sem]
  refine aK (fun hlt => ?_) (fun hlt => ?_)
  ·have hlt := aM hlt
   have hf2 := fT ls (j + 1)
   have hs := lF hlt
   rw [hs, List.length_append] at hf2
   have w5 : IntKind.i64.wrap ((j : Int) + 1) = (j : Int) + 1 := aP _ (by omega)
   have w6 : IntKind.i64.wrap (((ls.take j).flatten.length : Int) + (ls[j].length : Int)) = ((ls.take (j + 1)).flatten.length : Int) := by rw [aP _ (by omega), hs, List.length_append]; omega
   have w7 : decide (((ls.take (j + 1)).flatten.length : Int) < 0) = false := by simp
   simp -implicitDefEqProofs only [go_sem, hlt, aS, encT, w6, w7, w5]
   exact Wk.pick (by simp) (by simp [go_sem])
  ·have hge := aL hlt
   simp -implicitDefEqProofs only [go_sem, hlt, aT hge]
   refine aU hC (h253 _ (by omega) _) fun x h' hx => ?_
   simp -implicitDefEqProofs only [go_sem]
   refine bH hC (fun j a => [(27, .i j), (25, .sl 1 (ls.map encT)), (26, .i ls.length), (6, .own a 4 ((ls.take j).flatten.map enc))]) (fun _ a h => h[a]? = some (.spare 24 4)) ls.length ?_ ?_
   ·rcases hx with ⟨hn, rfl, rfl⟩ | ⟨hn, k, rfl, hk, hK⟩
    ·refine ⟨0, [.spare 24 4], (Wk.own_nil (h := []) 24 4 6 (by simp [go_sem]) (Nat.zero_le _)).trans (Wk.pick (Nat.zero_le _) ?_), rfl⟩
     simp [go_sem]
    ·exact ⟨k, h', Wk.pick (Nat.zero_le _) (by simp [go_sem]), hk⟩
   ·intro j a h'' hj ha
    have hf := fT ls j
    simp -implicitDefEqProofs only [go_sem]
    refine aK (fun hlt => ?_) (fun hlt => ?_)
    ·have hlt := aM hlt
     have hf2 := fT ls (j + 1)
     have hs := lF hlt
     rw [hs, List.length_append] at hf2
     have w5 : IntKind.i64.wrap ((j : Int) + 1) = (j : Int) + 1 := aP _ (by omega)
     simp -implicitDefEqProofs only [go_sem, hlt, aS, encT, ha, w5]
     refine ⟨by show _ <= _; omega, ?_⟩
     exact ⟨_, _, Wk.pick (Nat.zero_le _) (by simp [go_sem, hs]; rfl), by simp [go_sem]⟩
    ·have hge := aL hlt
     simp -implicitDefEqProofs only [go_sem, hlt, aT hge]
     refine aI (by simp [go_sem, encT]) (by rw [free_encT.2]; trivial)
def Cl.parts (c : Cl) : List Tm := c.head ++ (c.guard ++ c.body)
theorem h140 (c : Cl) (hl : c.parts.length < 2 ^ 40) : Pure (PC GL) 140 [encCl c] (.sl 4 (c.parts.map enc)) := by
 have h := h218 (GL := GL) [c.head, c.guard, c.body] (by simpa [Cl.parts] using hl) (by simp)
 refine k140.pure (by simp) (by simp [go_sem]) (by simp [go_sem]) ?_
 simp -implicitDefEqProofs only [go_sem, c140, r140, encCl]
 refine dC h ?_ ?_
 ·simp [fzs, fzGs, fzG, encT, cY, <- dL]
 simp -implicitDefEqProofs only [go_sem]
 refine aI ?_ (by simp [go_sem])
 simp [go_sem, encT, Cl.parts]
theorem h260 (r : Int) : Pure (PC GL) 260 [.v (.int .i32 r)] (.b (decide (r < 32) || decide (126 < r))) := by
 refine k260.pure (by simp) (by simp [go_sem]) (by simp [go_sem]) ?_
 simp -implicitDefEqProofs only [c260, r260, go_sem]
 repeat' (first | simp -implicitDefEqProofs only [go_sem, *] | with_reducible refine aV (fun _ => ?_) (fun _ => ?_) | with_reducible refine aX (fun _ => ?_) (fun _ => ?_) | with_reducible refine aK (fun _ => ?_) (fun _ => ?_) | with_reducible refine aI ?_ ?_ | ((with_reducible refine And.intro ?bnd ?_); (case bnd => decide)) | fail)
 all_goals simp_all
theorem h315x (s : List UInt8) (f : FuncId) (_hs : s.length < 2 ^ 30) (hf : ∀ r, Pure (PC GL) f [.v (.int .i32 r)] (.b (decide (r < 32) || decide (126 < r)))) : Pure (PC GL) 315 [.str s, .fn (.func f) [] [], .b true] (.i (firstBad s)) := by
 refine k315.pure (by simp) (by simp [go_sem]) (by simp [go_sem]) ?_
 simp -implicitDefEqProofs only [go_sem, c315, r315]
 refine s_for hC (fun j => (s.take j).all byteOk = true) (fun _ => [(10, .ref 0 0), (0, .str s), (1, .fn (.func f) [] []), (2, .b true)]) (fun j => [.siter ⟨s.toArray⟩ j]) s.length (by simp) ?_ ?_
 ·refine Wk.slots (by simp) ?_ ?_ <;> simp [go_sem]
 ·intro j hj hI
  simp -implicitDefEqProofs only [go_sem]
  refine nxO_and (fun hlt => ?_) (fun hlt => ?_)
  ·rw [nJ] at hlt
   have hlt : j < s.length := Nat.le_of_ble_eq_true hlt
   by_cases hb : byteOk s[j] = true
   ·simp -implicitDefEqProofs only [go_sem, qL hlt hb]
    refine aG hC (hf _) ?_
    have hb' := hb
    simp only [byteOk, Bool.and_eq_true, decide_eq_true_eq] at hb'
    have e : (decide (((s[j]).toNat : Int) < 32) || decide (126 < ((s[j]).toNat : Int))) = false := by simp; omega
    simp -implicitDefEqProofs only [go_sem, e]
    refine ⟨hlt, by rw [kR hlt, hI, hb]; rfl, Wk.slots (by simp) ?_ ?_⟩ <;> simp [go_sem]
   ·have hb : byteOk s[j] = false := by simpa using hb
    have hd := oD hlt hb
    simp -implicitDefEqProofs only [go_sem]
    refine aG hC (hf _) ?_
    have e : (decide (((Utf8.decode ⟨s.toArray⟩ j).1 : Int) < 32) || decide (126 < ((Utf8.decode ⟨s.toArray⟩ j).1 : Int))) = true := by simp; omega
    simp -implicitDefEqProofs only [go_sem, e]
    refine aI ?_ ?_ <;> simp [go_sem, iY hlt hI hb]
  ·rw [nJ] at hlt
   have hge : s.length <= j := by
    rcases Nat.lt_or_ge j s.length with h | h
    ·rw [show Nat.blt j s.length = true from Nat.ble_eq_true_of_le h] at hlt; cases hlt
    ·exact h
   rw [aT hge] at hI
   simp -implicitDefEqProofs only [go_sem]
   refine aI ?_ ?_ <;> simp [go_sem, iU hI]
theorem h301x (s : List UInt8) (f : FuncId) (_hs : s.length < 2 ^ 30) (h : Pure (PC GL) 315 [.str s, .fn (.func f) [] [], .b true] (.i (firstBad s))) : Pure (PC GL) 301 [.str s, .fn (.func f) [] []] (.i (firstBad s)) := by
 refine k301.pure (by simp) (by simp [go_sem]) (by simp [go_sem]) ?_
 simp -implicitDefEqProofs only [c301, r301, go_sem]
 repeat' (first | simp -implicitDefEqProofs only [go_sem, *] | with_reducible refine aV (fun _ => ?_) (fun _ => ?_) | with_reducible refine aX (fun _ => ?_) (fun _ => ?_) | with_reducible refine aK (fun _ => ?_) (fun _ => ?_) | with_reducible refine aI ?_ ?_ | ((with_reducible apply aG hC); (exact h)) | ((with_reducible refine And.intro ?bnd ?_); (case bnd => decide)) | fail)
 all_goals simp_all [go_sem]
theorem h259 (s : List UInt8) (hs : s.length < 2 ^ 30) : Pure (PC GL) 259 [.str s, .fn (.func 260) [] []] (.b (!s.all byteOk)) := by
 have h := h315x (GL := GL) s 260 hs h260
 have h1 := h301x (GL := GL) s 260 hs h
 have e : decide (firstBad s >= 0) = !s.all byteOk := by
  rw [<- jZ, Bool.eq_iff_iff]; simp
 refine k259.pure (by simp) (by simp [go_sem]) (by simp [go_sem]) ?_
 simp -implicitDefEqProofs only [c259, r259, go_sem]
 repeat' (first | simp -implicitDefEqProofs only [go_sem, *] | with_reducible refine aV (fun _ => ?_) (fun _ => ?_) | with_reducible refine aX (fun _ => ?_) (fun _ => ?_) | with_reducible refine aK (fun _ => ?_) (fun _ => ?_) | with_reducible refine aI ?_ ?_ | ((with_reducible apply aG hC); (exact h1)) | ((with_reducible refine And.intro ?bnd ?_); (case bnd => decide)) | fail)
 all_goals simp_all [go_sem]
theorem h229 (s : List UInt8) (hs : s.length < 2 ^ 30) : Pure (PC GL) 229 [.str s] (.b (nameOk s)) := by
 have h := h259 (GL := GL) s hs
 refine k229.pure (by simp) (by simp [go_sem]) (by simp [go_sem]) ?_
 simp -implicitDefEqProofs only [go_sem, c229, r229, dge]
 repeat' (first | simp -implicitDefEqProofs only [go_sem, *, dle] | with_reducible refine aV (fun _ => ?_) (fun _ => ?_) | with_reducible refine aX (fun _ => ?_) (fun _ => ?_) | with_reducible refine aK (fun _ => ?_) (fun _ => ?_) | with_reducible refine aI ?_ ?_ | ((with_reducible apply aG hC); (exact h)) | ((with_reducible refine And.intro ?bnd ?_); (case bnd => decide)) | fail)
 all_goals simp_all [go_sem, nameOk]
 all_goals (intros; omega)
mutual
def Tm.pre : Tm -> List Tm
 | .mk k n s l => .mk k n s l :: pres l
def pres : List Tm -> List Tm
 | [] => []
 | t :: r => t.pre ++ pres r
end
theorem pre_eq (t : Tm) : t.pre = t :: pres t.l := by cases t; rfl
theorem nL : ∀ a b, pres (a ++ b) = pres a ++ pres b
 | [], b => rfl
 | x :: r, b => by simp only [List.cons_append, pres, nL r b, List.append_assoc]
theorem rB {l : List Tm} {j : Nat} (h : j < l.length) : pres (l.take (j + 1)) = pres (l.take j) ++ l[j].pre := by
 rw [bD h, nL]; simp [pres]
mutual
theorem xA : ∀ t : Tm, t.pre.length = t.size
 | .mk _ _ _ l => by simp only [Tm.pre, Tm.size, List.length_cons, dZ l]
theorem dZ : ∀ l, (pres l).length = sizes l
 | [] => rfl
 | t :: r => by simp only [pres, sizes, List.length_append, xA t, dZ r]
end
def addV (l : List Int) (t : Tm) : List Int := if t.kind = 1 /\ (l.any fun x => x == t.n) = false then l ++ [t.n] else l
def varsOf (ts : List Tm) : List Int := (pres ts).foldl addV []
theorem addV_len (l : List Int) (t : Tm) : l.length <= (addV l t).length /\ (addV l t).length <= l.length + 1 := by
 unfold addV; split <;> simp
theorem lP : ∀ (ts : List Tm) (l : List Int), (ts.foldl addV l).length <= l.length + ts.length
 | [], l => by simp
 | t :: r, l => by
  have := lP r (addV l t)
  have := addV_len l t
  simp only [List.foldl_cons, List.length_cons]; omega
theorem h257 {Φ : List Tm -> List AObj -> Prop} {K : Nat -> AObj -> Prop} (happ : ∀ v h l, Φ v h -> Φ v (h ++ l)) (hK : ∀ v h, Φ v h -> ∀ i cs, h.length <= i -> ¬ K i (.cells 24 cs)) (k N : Nat)
  (hY : ∀ v x h, v.length < N -> Φ v h -> PC GL (.yld k) [enc x] h fun r h' => r = .val (.b true) /\ Φ (v ++ [x]) h' /\ Keep K h h') (t : Tm) (ht : t.size < 2 ^ 30) :
  ∀ v h, v.length + t.size <= N -> Φ v h -> Gives (PC GL) 257 [enc t, .yld k] h fun x h' => x = .b true /\ Φ (v ++ t.pre) h' /\ Keep K h h' := by
 induction t using cR with
 | _ t ih =>
 intro v h hN hv
 have hs := bE t
 have h4 := aQ t.l
 refine k257.gives (by simp) ?_
 simp -implicitDefEqProofs only [go_sem, c257, r257]
 refine aR hC (hY v t _ (by omega) (happ _ _ _ hv)) fun r h1 ⟨hr, hv1, hk1⟩ => ?_
 subst hr
 have hb : h1[h.length]? = some (.cells 24 (enc t).cells) := hk1.get (by simp [go_sem]) (hK v h hv _ _ (Nat.le_refl _))
 have hk0 : Keep K h h1 := hk1.left
 simp -implicitDefEqProofs only [go_sem, hb]
 refine bH hC (fun j _ => [(14, .i j), (12, .sl 4 (t.l.map enc)), (13, .i t.l.length), (1, .yld k)]) (fun j (_ : Unit) h' => Φ (v ++ (t :: pres (t.l.take j))) h' /\ Keep K h h') t.l.length ?_ ?_
 ·exact ⟨(), h1, Wk.pick hk0.1 (by simp [go_sem]), by simpa [pres] using hv1, hk0⟩
 ·rintro j - h2 hj ⟨hv2, hk2⟩
  simp -implicitDefEqProofs only [go_sem]
  refine aK (fun hlt => ?_) (fun hlt => ?_)
  ·have hlt := aM hlt
   have g1 := bK hlt
   have g2 := cD t.l (j + 1)
   have g3 := cN hlt
   have w5 : IntKind.i64.wrap ((j : Int) + 1) = (j : Int) + 1 := aP _ (by omega)
   simp -implicitDefEqProofs only [go_sem, hlt, aS]
   refine aU hC (ih _ (List.getElem_mem hlt) (by omega) (v ++ (t :: pres (t.l.take j))) _ (by simp only [List.length_append, List.length_cons, dZ]; omega) (happ _ _ _ hv2)) fun x h3 ⟨hx, hv3, hk3⟩ => ?_
   subst hx
   have hk4 : Keep K h h3 := hk2.trans hk3.left
   simp -implicitDefEqProofs only [go_sem]
   exact ⟨(), h3, Wk.pick hk4.1 (by simp [go_sem, w5]), by rw [rB hlt]; simpa using hv3, hk4⟩
  ·have hge := aL hlt
   rw [aT hge] at hv2
   simp -implicitDefEqProofs only [go_sem, hlt]
   exact aY hk2.1 ⟨rfl, by rw [pre_eq]; exact hv2, hk2⟩
theorem g256 {Φ : List Tm -> List AObj -> Prop} {K : Nat -> AObj -> Prop} (happ : ∀ v h l, Φ v h -> Φ v (h ++ l)) (hK : ∀ v h, Φ v h -> ∀ i cs, h.length <= i -> ¬ K i (.cells 24 cs)) (k N : Nat)
  (hY : ∀ v x h, v.length < N -> Φ v h -> PC GL (.yld k) [enc x] h fun r h' => r = .val (.b true) /\ Φ (v ++ [x]) h' /\ Keep K h h') (t : Tm) (ht : t.size < 2 ^ 30)
  (v : List Tm) (h : List AObj) (b : Nat) (hN : v.length + t.size <= N) (hv : Φ v h) (hb : h[b]? = some (.cells 24 (enc t).cells)) : PC GL (.gen 256) [.yld k, .ref b 0] h fun r h' => (∃ x, r = .val x) /\ Φ (v ++ t.pre) h' /\ Keep K h h' := by
 refine k256.gen (by simp) ?_
 simp -implicitDefEqProofs only [go_sem, c256, r256, hb]
 refine aU hC (h257 happ hK k N hY t ht v _ hN hv) fun x h3 ⟨hx, hv3, hk3⟩ => ?_
 simp -implicitDefEqProofs only [go_sem]
 exact ⟨_, h3, Wk.refl hk3.1, ⟨_, rfl⟩, hv3, hk3⟩
theorem h223 (t : Tm) (h : List AObj) : Gives (PC GL) 223 [enc t] h fun x h' => x = .fn (.func 256) [] [.ref h.length 0] /\ h' = h ++ [.cells 24 (enc t).cells] := by
 refine k223.gives (by simp) ?_
 simp -implicitDefEqProofs only [go_sem, c223, r223]
 exact aY (by simp) ⟨rfl, rfl⟩
def VarsAt (v : List Tm) (h : List AObj) : Prop := ∃ cv, h[0]? = some (.cells 61 [cv]) /\ h[1]? = some (.map ((v.foldl addV []).map encI) ((v.foldl addV []).map fun _ => .b true)) /\ h[2]? = some (.cells 288 [.mp 1]) /\
 ((v.foldl addV [] = [] /\ cv = .v (.slice none 0 0)) ∨ ∃ j, 2 < j /\ cv = .own j 1 ((v.foldl addV []).map encI) /\ h[j]? = some (.spare 3 1))
def VarsK (i : Nat) (o : AObj) : Prop := i < 2 ∨ o = .spare 3 1
def idxI (s : Int) : List Int -> Option Nat
 | [] => none
 | k :: r => if s = k then some 0 else (idxI s r).map (· + 1)
theorem eU (s : Int) : ∀ ks : List Int, findA (.one (.int .i64)) (.v (.int .i64 s)) (ks.map encI) = some (idxI s ks)
 | [] => by simp [findA, eqKQ, eqAV, idxI]
 | k :: r => by
  simp only [List.map_cons, findA, eU s r, idxI, encI, eqKQ, eqAV, and_self, if_true]
  by_cases h : s = k
  ·simp [h]
  ·have : (s == k) = false := by simpa using h
   simp [h, this]
theorem qH {s : Int} : ∀ {ks : List Int}, (ks.any fun x => x == s) = false -> idxI s ks = none
 | [], _ => rfl
 | k :: r, h => by
  simp only [List.any_cons, Bool.or_eq_false_iff, beq_eq_false_iff_ne] at h
  simp [idxI, Ne.symm h.1, qH h.2]
theorem qR {s : Int} : ∀ {ks : List Int}, (ks.any fun x => x == s) = true -> ∃ i, idxI s ks = some i /\ i < ks.length
 | k :: r, h => by
  by_cases he : s = k
  ·exact ⟨0, by simp [idxI, he], by simp⟩
  ·simp only [List.any_cons, Bool.or_eq_true, beq_iff_eq] at h
   obtain ⟨i, h1, h2⟩ := qR (h.resolve_left (Ne.symm he))
   exact ⟨i + 1, by simp [idxI, he, h1], by simpa using h2⟩
theorem VarsAt.app {v : List Tm} {h l : List AObj} (hv : VarsAt v h) : VarsAt v (h ++ l) := by
 obtain ⟨cv, h0, h1, h2, h3⟩ := hv
 refine ⟨cv, aC h0, aC h1, aC h2, ?_⟩
 rcases h3 with h3 | ⟨j, a, b, c⟩
 ·exact .inl h3
 ·exact .inr ⟨j, a, b, aC c⟩
theorem jN (v : List Tm) (x : Tm) : (v ++ [x]).foldl addV [] = addV (v.foldl addV []) x := by simp
theorem y249 {τ : List (Nat × AV)} (h3 : tget τ 3 = .ref 0 0) (h4 : tget τ 4 = .ref 2 0) (k : Nat) (hk : 2 < k) (v : List Tm) (x : Tm) (h : List AObj) (hN : v.length < 2 ^ 32) (hv : VarsAt v h)
  (hl : h[k]? = some (.loop τ 38 [17] (rfAt Tryz.prog Tryz.f249 0).1 (rfAt Tryz.prog Tryz.f249 0).2 .ready none)) :
  PC GL (.yld k) [enc x] h fun r h' => r = .val (.b true) /\ VarsAt (v ++ [x]) h' /\ Keep VarsK h h' := by
 obtain ⟨cv, o0, o1, o2, o3⟩ := hv
 have hn := lP v []
 refine ayieldP hl kra249_0 krb249_0 rfl rfl rfl rfl ?_
 have hl' := fun l => aC (l := l) hl
 simp -implicitDefEqProofs only [go_sem, ra249_0, hl']
 rw [aE hl]
 generalize hB : h.set k (AObj.loop τ 38 [17] (rfAt Tryz.prog Tryz.f249 0).1 (rfAt Tryz.prog Tryz.f249 0).2 LoopState.busy none) = hb
 have q0 : hb[0]? = some (.cells 61 [cv]) := by rw [<- hB, aF (by omega)]; exact o0
 have q1 : hb[1]? = some (.map ((v.foldl addV []).map encI) ((v.foldl addV []).map fun _ => .b true)) := by rw [<- hB, aF (by omega)]; exact o1
 have q2 : hb[2]? = some (.cells 288 [.mp 1]) := by rw [<- hB, aF (by omega)]; exact o2
 have qk : hb[k]? = some (.loop τ 38 [17] (rfAt Tryz.prog Tryz.f249 0).1 (rfAt Tryz.prog Tryz.f249 0).2 .busy none) := by rw [<- hB]; exact aJ hl
 have hlen : h.length = hb.length := by rw [<- hB]; simp
 have q0' := fun l => aC (l := l) q0
 have q1' := fun l => aC (l := l) q1
 have q2' := fun l => aC (l := l) q2
 have qk' := fun l => aC (l := l) qk
 rw [hlen]
 have hv0 : VarsAt v h := ⟨cv, o0, o1, o2, o3⟩
 have l0 := aH q0
 have l1 := aH q1
 have l2 := aH q2
 have lk := aH qk
 -- nothing is added
 have same : ∀ cs, (v ++ [x]).foldl addV [] = v.foldl addV [] -> ∃ h', Wk GL hb.length [] ((hb ++ [AObj.cells 24 cs]).set k (AObj.loop τ 38 [17] (rfAt Tryz.prog Tryz.f249 0).1 (rfAt Tryz.prog Tryz.f249 0).2 LoopState.ready none)) [] h' /\
   VarsAt (v ++ [x]) h' /\ Keep VarsK h h' := fun cs e1 => by
  refine ⟨_, Wk.refl (by simp), ?_⟩
  rw [aE qk, <- hB, set_back hl]
  refine ⟨?_, Keep.app _ _ _⟩
  have := hv0.app (l := [AObj.cells 24 cs])
  unfold VarsAt at this ⊢
  rw [e1]; exact this
 by_cases hx : x.kind = 1
 ·have e : (x.kind == 1) = true := by simpa using hx
  rcases hb2 : (v.foldl addV []).any fun y => y == x.n with _ | _
  ·have hi := qH hb2
   have e1 : (v ++ [x]).foldl addV [] = v.foldl addV [] ++ [x.n] := by rw [jN, addV, if_pos ⟨hx, hb2⟩]
   have ne1 : ¬ (1 = k) := by omega
   have ne0 : ¬ (0 = k) := by omega
   have kh : ∀ (M C o1 o2 : AObj) (l : List AObj) (i : Nat) (o : AObj), h[i]? = some o -> ¬ VarsK i o -> ((((hb.set 1 M).set 0 C).set k (AObj.loop τ 38 [17] (rfAt Tryz.prog Tryz.f249 0).1 (rfAt Tryz.prog Tryz.f249 0).2 LoopState.ready none)) ++ l)[i]? = some o := fun M C o1 o2 l i o hio hn => by
    have hi := aH hio
    rw [hlen] at hi
    rw [List.getElem?_append_left (by simpa using hi)]
    by_cases e : k = i
    ·subst e
     rw [hl] at hio
     cases hio
     rw [List.getElem?_set_self (by simpa using hi)]
    ·rw [List.getElem?_set_ne e, List.getElem?_set_ne (by rintro rfl; exact hn (.inl (by omega))), List.getElem?_set_ne (by rintro rfl; exact hn (.inl (by omega))), <- hB, List.getElem?_set_ne e]
     exact hio
   rcases o3 with ⟨ov, rfl⟩ | ⟨j, hj, rfl, oj⟩
   ·simp -implicitDefEqProofs only [go_sem, rb249_0, e, h3, h4, q0, q1, q2, qk, eU, hi, cK, rR, cX, List.getElem?_set_ne, List.length_set, Nat.sub_self, Nat.le_refl, ne_eq, not_false_eq_true, l0, l1, l2, lk, ne1, ne0, Nat.one_ne_zero, cP, List.append_assoc]
    refine ⟨by decide, _, Wk.refl (by simp), ?_, by simp; omega, kh _ _ .dead .dead _⟩
    unfold VarsAt
    rw [e1, ov]
    have ne2 : ¬ (k = 2) := by omega
    have ne1' : ¬ (k = 1) := by omega
    have ne0' : ¬ (k = 0) := by omega
    refine ⟨.own (hb.length + 2) 1 [.i x.n], ?_, ?_, ?_, .inr ⟨hb.length + 2, by omega, rfl, ?_⟩⟩
    ·simp [List.length_set, ne_eq, not_false_eq_true, l0, ne0']
    ·simp [List.length_set, ne_eq, not_false_eq_true, l1, ne1', encI]
    ·rw [rR (by simpa using l2), aF ne2, aF (by omega), aF (by omega)]; exact q2
    ·simp [List.length_set, Nat.add_sub_cancel_left, Nat.le_add_right]
   ·have jk : ¬ (j = k) := by rintro rfl; rw [hl] at oj; cases oj
    have kj : ¬ (k = j) := fun e => jk e.symm
    have qj : hb[j]? = some (.spare 3 1) := by rw [<- hB, aF kj]; exact oj
    have lj := aH qj
    have n1j : ¬ (1 = j) := by omega
    have nj1 : ¬ (j = 1) := by omega
    have nj0 : ¬ (j = 0) := by omega
    have n2j : ¬ (j = 2) := by omega
    simp -implicitDefEqProofs only [go_sem, rb249_0, e, h3, h4, q0, q1, q2, qk, qj, eU, hi, cK, rR, cX, List.getElem?_set_ne, List.length_set, Nat.sub_self, Nat.le_refl, ne_eq, not_false_eq_true, l0, l1, l2, lk, lj, n1j, nj0, jk, ne1, ne0, Nat.one_ne_zero, cP, List.append_assoc]
    have hn' := hn
    simp only [List.length_nil, Nat.zero_add] at hn'
    refine ⟨by omega, _, Wk.refl (by simp), ?_, by simp; omega, fun i o hio hno => ?_⟩
    ·unfold VarsAt
     rw [e1]
     have ne2 : ¬ (k = 2) := by omega
     have ne1' : ¬ (k = 1) := by omega
     have ne0' : ¬ (k = 0) := by omega
     refine ⟨.own (hb.length + 2) 1 ((v.foldl addV [] ++ [x.n]).map encI), ?_, ?_, ?_, .inr ⟨hb.length + 2, by omega, rfl, ?_⟩⟩
     ·simp [List.length_set, ne_eq, not_false_eq_true, l0, ne0', encI]
     ·simp [List.length_set, ne_eq, not_false_eq_true, l1, ne1', nj1, encI]
     ·rw [rR (by simpa using l2), aF ne2, aF (by omega), aF n2j, aF (by omega)]; exact q2
     ·simp [List.length_set, Nat.add_sub_cancel_left, Nat.le_add_right]
    ·have ji : ¬ (j = i) := by rintro rfl; rw [oj] at hio; cases hio; exact hno (.inr rfl)
     have hi := aH hio
     rw [hlen] at hi
     rw [List.getElem?_append_left (by simpa using hi)]
     by_cases e : k = i
     ·subst e
      rw [hl] at hio
      cases hio
      rw [List.getElem?_set_self (by simpa using hi)]
     ·rw [List.getElem?_set_ne e, List.getElem?_set_ne (by rintro rfl; exact hno (.inl (by omega))), List.getElem?_set_ne ji, List.getElem?_set_ne (by rintro rfl; exact hno (.inl (by omega))), <- hB, List.getElem?_set_ne e]
      exact hio
  ·obtain ⟨i, hi, hi2⟩ := qR hb2
   have e1 : (v ++ [x]).foldl addV [] = v.foldl addV [] := by rw [jN, addV, if_neg (by simp [hb2])]
   have e2 : ((v.foldl addV []).map fun _ => AV.b true).getD i .any = .b true := by simp [List.getD, hi2]
   simp -implicitDefEqProofs only [go_sem, rb249_0, e, h4, q1', q2', eU, hi, e2, qk']
   exact same _ e1
 ·have e : (x.kind == 1) = false := by simpa using hx
  have e1 : (v ++ [x]).foldl addV [] = v.foldl addV [] := by rw [jN, addV, if_neg (by simp [hx])]
  simp -implicitDefEqProofs only [go_sem, rb249_0, e, qk']
  exact same _ e1
theorem VarsAt.kill {v : List Tm} {h : List AObj} (hv : VarsAt v h) {k : Nat} {o : AObj} (hk : 2 < k) (ho : h[k]? = some o) (hn : o ≠ .spare 3 1) : VarsAt v (h.set k .dead) := by
 obtain ⟨cv, h0, h1, h2, h3⟩ := hv
 refine ⟨cv, by rw [aF (by omega)]; exact h0, by rw [aF (by omega)]; exact h1, by rw [aF (by omega)]; exact h2, ?_⟩
 rcases h3 with h3 | ⟨j, a, b, c⟩
 ·exact .inl h3
 ·refine .inr ⟨j, a, b, ?_⟩
  rw [aF (by rintro rfl; rw [ho] at c; exact hn (Option.some.inj c))]
  exact c
theorem range249 (τ : List (Nat × AV)) (h3 : tget τ 3 = .ref 0 0) (h4 : tget τ 4 = .ref 2 0) (t : Tm) (ht : t.size < 2 ^ 30) (h : List AObj) (v : List Tm) (c : AObj) (hl : 2 < h.length) (hv : VarsAt v h) (hN : v.length + t.size <= 2 ^ 32) {R : ARes -> List AObj -> Prop}
  (hR : ∀ x h', VarsAt (v ++ t.pre) h' -> h'[h.length + 2]? = some (.loop τ 38 [17] (rfAt Tryz.prog Tryz.f249 0).1 (rfAt Tryz.prog Tryz.f249 0).2 .ready none) -> R (.val x) h') :
  PC GL (.gen 256) [.yld (h.length + 2), .ref (h.length + 1) 0] (h ++ [c, .cells 24 [.v (.int .i64 t.kind), .v (.int .i64 t.n), .str t.s, .sl 4 (t.l.map enc)], .loop τ 38 [17] (rfAt Tryz.prog Tryz.f249 0).1 (rfAt Tryz.prog Tryz.f249 0).2 .ready none]) R := by
 refine aR hC (g256 (Φ := fun v h' => VarsAt v h' /\ h'[h.length + 2]? = some (.loop τ 38 [17] (rfAt Tryz.prog Tryz.f249 0).1 (rfAt Tryz.prog Tryz.f249 0).2 .ready none)) (K := fun i o => (i < 2 ∨ o = .spare 3 1)) (fun v h' l' e => ⟨e.1.app, aC e.2⟩)
  ?_ (h.length + 2) (2 ^ 32) (fun v x h' hN e => aR hC (y249 h3 h4 (h.length + 2) (by omega) v x h' hN e.1 e.2) fun r h'' q => ⟨q.1, ⟨q.2.1, q.2.2.get e.2 ?_⟩, q.2.2⟩) t ht v _ (h.length + 1) hN ⟨hv.app, ?_⟩ ?_) fun r h2 q => ?_
 ·rintro v h' ⟨⟨cv, q0, q1, q2, q3⟩, q4⟩ i cs hi (e | e)
  ·have := aH q2; omega
  ·cases e
 ·rintro (e | e)
  ·omega
  ·cases e
 ·exact aO h _ 2
 ·rw [iR]; exact aO h _ 1
 ·obtain ⟨⟨x, rfl⟩, ⟨hv2, hl2⟩, -⟩ := q
  exact hR x h2 hv2 hl2
theorem h249 (l : List Tm) (hl : sizes l < 2 ^ 30) : Pure (PC GL) 249 [.sl 4 (l.map enc)] (.sl 1 ((varsOf l).map encI)) := by
 have h4 := aQ l
 refine k249.pure (by simp) (by simp [go_sem]) (by simp [go_sem]) ?_
 simp -implicitDefEqProofs only [c249, r249, go_sem]
 refine bH hC (fun j _ => [(11, .i j), (9, .sl 4 (l.map enc)), (10, .i l.length), (3, .ref 0 0), (4, .ref 2 0)]) (fun j (_ : Unit) h => VarsAt (pres (l.take j)) h) l.length ?_ ?_
 ·refine ⟨(), _, Wk.pick (Nat.zero_le _) (by simp [go_sem]), ?_⟩
  exact ⟨.v (.slice none 0 0), rfl, rfl, rfl, .inl ⟨rfl, rfl⟩⟩
 ·rintro j - h hj hv
  have h2l : 2 < h.length := by obtain ⟨_, _, _, q, _⟩ := hv; exact aH q
  have hv3 := hv
  obtain ⟨cv, o0, o1, o2, o3⟩ := hv3
  simp -implicitDefEqProofs only [go_sem]
  refine aK (fun hlt => ?_) (fun hlt => ?_)
  ·have hlt := aM hlt
   have g1 := bK hlt
   have g2 := cD l (j + 1)
   have g3 := cN hlt
   have w5 : IntKind.i64.wrap ((j : Int) + 1) = (j : Int) + 1 := aP _ (by omega)
   simp -implicitDefEqProofs only [go_sem, hlt, aS]
   refine aU hC (h223 _ _) fun x h1 ⟨hx, hh⟩ => ?_
   subst hx; subst hh
   simp -implicitDefEqProofs only [go_sem, List.append_assoc]
   refine range249 _ (by simp [go_sem]) (by simp [go_sem]) l[j] (by omega) h (pres (l.take j)) _ h2l hv (by rw [dZ]; omega) fun x h2 hv2 hl2 => ?_
   simp -implicitDefEqProofs only [go_sem, hl2]
   exact ⟨(), _, Wk.pick (Nat.zero_le _) (by simp [go_sem, w5]), by rw [rB hlt]; exact hv2.kill (by omega) hl2 (by simp)⟩
  ·have hge := aL hlt
   rw [aT hge] at hv
   obtain ⟨cv, o0, o1, o2, o3⟩ := hv
   simp -implicitDefEqProofs only [go_sem, hlt, o0]
   refine aI ?_ (by simp [go_sem])
   rcases o3 with ⟨ov, rfl⟩ | ⟨k, -, rfl, -⟩
   ·rw [varsOf, ov]; simp [go_sem]
   ·simp [go_sem, varsOf]
def isRange (l : List Int) : Bool := decide (∀ i, i < l.length -> l[i]? = some (i : Int))
def normT (l : List Tm) (vars : Int) : Bool := isRange (varsOf l) && ((varsOf l).length : Int) == vars
theorem fQ (l : List Tm) : (varsOf l).length <= sizes l := by
 have := lP (pres l) []
 rw [dZ] at this
 simpa [varsOf] using this
theorem h211 (l : List Tm) (ht : sizes l < 2 ^ 30) (hs : strss l) : Pure (PC GL) 211 [.sl 4 (l.map enc)] (.tup [if termsOk l then .sl 1 ((varsOf l).map encI) else .v (.slice none 0 0), .i (if termsOk l then 0 else 3)]) := by
 have h1 := h181 (GL := GL) l ht hs
 have h2 := h249 (GL := GL) l ht
 rcases hc : termsOk l with _ | _
 ·simp only [hc, Bool.false_eq_true, if_false] at h1 ⊢
  refine k211.pure (by simp) (by simp [go_sem]) (by simp [go_sem]) ?_
  simp -implicitDefEqProofs only [c211, r211, go_sem]
  repeat' (first | simp -implicitDefEqProofs only [go_sem, *] | with_reducible refine aV (fun _ => ?_) (fun _ => ?_) | with_reducible refine aX (fun _ => ?_) (fun _ => ?_) | with_reducible refine aK (fun _ => ?_) (fun _ => ?_) | with_reducible refine aI ?_ ?_ | ((with_reducible apply aG hC); (exact h1)) | ((with_reducible refine And.intro ?bnd ?_); (case bnd => decide)) | fail)
  all_goals simp_all [go_sem]
 ·simp only [hc, if_true] at h1 ⊢
  refine k211.pure (by simp) (by simp [go_sem]) (by simp [go_sem]) ?_
  simp -implicitDefEqProofs only [c211, r211, go_sem]
  repeat' (first | simp -implicitDefEqProofs only [go_sem, *] | with_reducible refine aV (fun _ => ?_) (fun _ => ?_) | with_reducible refine aX (fun _ => ?_) (fun _ => ?_) | with_reducible refine aK (fun _ => ?_) (fun _ => ?_) | with_reducible refine aI ?_ ?_ | ((with_reducible apply aG hC); (exact h1)) | ((with_reducible apply aG hC); (exact h2)) | ((with_reducible refine And.intro ?bnd ?_); (case bnd => decide)) | fail)
  all_goals simp_all [go_sem]
theorem tK (l : List Tm) (ht : sizes l < 2 ^ 30) (hs : strss l) (hok : termsOk l = true) : Pure (PC GL) 211 [.sl 4 (l.map enc)] (.tup [.sl 1 ((varsOf l).map encI), .i 0]) := by
 have h1 := h211 (GL := GL) l ht hs
 simpa only [hok, if_true] using h1
theorem h204 (l : List Tm) (vars : Int) (ht : sizes l < 2 ^ 30) (hs : strss l) (hok : termsOk l = true) : Pure (PC GL) 204 [.sl 4 (l.map enc), .i vars] (.b (normT l vars)) := by
 have h1 := tK (GL := GL) l ht hs hok
 have hn := fQ l
 unfold normT
 generalize varsOf l = own at *
 refine k204.pure (by simp) (by simp [go_sem]) (by simp [go_sem]) ?_
 simp -implicitDefEqProofs only [go_sem, c204, r204]
 refine aG hC h1 ?_
 simp -implicitDefEqProofs only [go_sem]
 refine eN hC (fun j => ∀ i, i < j -> own[i]? = some (i : Int)) (fun j => [(16, .i j)]) [14, 15, 5, 1] own.length (by simp) ?_ ?_
 ·exact Wk.pick (by simp) (by simp [go_sem])
 ·intro j hj hI
  simp -implicitDefEqProofs only [go_sem]
  refine aK (fun hlt => ?_) (fun hlt => ?_)
  ·have hlt := aM hlt
   have w5 : IntKind.i64.wrap ((j : Int) + 1) = (j : Int) + 1 := aP _ (by omega)
   simp -implicitDefEqProofs only [go_sem, hlt, aS, encI]
   by_cases hx : own[j] = (j : Int)
   ·have e : (own[j] != (j : Int)) = false := by simp [hx]
    simp -implicitDefEqProofs only [go_sem, e]
    refine ⟨fun i hi => ?_, Wk.pick (by simp) (by simp [go_sem, w5])⟩
    rcases Nat.lt_or_eq_of_le (Nat.le_of_lt_succ hi) with h | rfl
    ·exact hI i h
    ·rw [List.getElem?_eq_getElem hlt, hx]
   ·have e : (own[j] != (j : Int)) = true := by simp [hx]
    have : isRange own = false := by
     simp only [isRange, decide_eq_false_iff_not]
     intro h
     have := h j hlt
     rw [List.getElem?_eq_getElem hlt] at this
     exact hx (Option.some.inj this)
    simp -implicitDefEqProofs only [go_sem, e]
    refine aI ?_ ?_ <;> simp [go_sem, this]
  ·have hge := aL hlt
   have : isRange own = true := by
    simp only [isRange, decide_eq_true_eq]
    exact fun i hi => hI i (by omega)
   simp -implicitDefEqProofs only [go_sem, hlt]
   refine aI ?_ ?_ <;> simp [go_sem, this]
theorem is_call {P : Program} {GL : Glob} {c : CId} {args : List AV} {h : List AObj} {R : ARes -> List AObj -> Prop} (g : AC P GL c args h R) : AC P GL c args h R := g
theorem h215 (heads : List Int) (v : Int) (k : Nat) (h : List AObj) (hl : heads.length < 2 ^ 47) (hk : h[k]? = some (.cells 61 [.sl 1 (heads.map encI)])) : PureOn (PC GL) 215 [.i v, .ref k 0] (.b (!(heads.any fun x => v == x))) h := by
 refine k215.call (by simp) ?_
 simp -implicitDefEqProofs only [go_sem, c215, r215, hk]
 refine aG hC (h43 heads v hl) ?_
 simp -implicitDefEqProofs only [go_sem]
 exact kQ rfl
theorem h216 (t : Tm) (ht : t.size < 2 ^ 30) : Pure (PC GLs) 216 [enc t] (.b (!t.test)) := by
 have h1 := h101 t ht
 refine k216.pure (by simp) (by simp [go_sem]) (by simp [go_sem]) ?_
 simp -implicitDefEqProofs only [c216, r216, go_sem]
 refine aG hC h1 ?_
 simp -implicitDefEqProofs only [go_sem]
 refine aI ?_ ?_ <;> simp [go_sem]
theorem h217 (t : Tm) : Pure (PC GL) 217 [enc t] (.b (t.goal.1 == 0)) := by
 have h1 := h96 (GL := GL) t
 simp only [encG] at h1
 refine k217.pure (by simp) (by simp [go_sem]) (by simp [go_sem]) ?_
 simp -implicitDefEqProofs only [c217, r217, go_sem]
 refine aG hC h1 ?_
 simp -implicitDefEqProofs only [go_sem]
 refine aI ?_ ?_ <;> simp [go_sem]
def Cl.bad (c : Cl) (ar : Int) : Bool := decide (c.mark < 0) || (decide (c.mark > 2) || (((c.head.length : Int) != ar) || (decide ((c.guard.length : Int) > 8) || decide ((c.body.length : Int) > 16))))
def Cl.shaped (c : Cl) (ar : Int) : Bool :=
 !c.bad ar && (termsOk c.parts && (!decide ((sizes c.parts : Int) > 400) && (decide (((varsOf c.parts).length : Int) <= 64) && (!((varsOf c.guard).any fun v => !((varsOf c.head).any fun x => v == x)) &&
  (!(c.guard.any fun t => !t.test) && !(c.body.any fun t => t.goal.1 == 0))))))
theorem cF : ∀ a b, strss (a ++ b) ↔ strss a /\ strss b
 | [], b => by simp [strss]
 | x :: r, b => by simp only [List.cons_append, strss, cF r b, and_assoc]
theorem tD {a b c : List Tm} (h : termsOk (a ++ (b ++ c)) = true) : termsOk a = true /\ termsOk b = true /\ termsOk c = true := by
 simp only [termsOk, cA, iK, bB, Bool.and_eq_true, decide_eq_true_eq] at h ⊢
 obtain ⟨⟨h1, h2, h3⟩, h4, h5⟩ := h
 exact ⟨⟨h1, by omega, by omega⟩, ⟨h2, by omega, by omega⟩, h3, by omega, by omega⟩
theorem h139 (c : Cl) (ar : Int) (ht : sizes c.parts < 2 ^ 30) (hs : strss c.parts) : Pure (PC GLs) 139 [encCl c, .i ar] (.b (c.shaped ar)) := by
 have hlen : c.parts.length < 2 ^ 40 := by have := aQ c.parts; omega
 have hp : sizes c.parts = sizes c.head + (sizes c.guard + sizes c.body) := by simp [Cl.parts, bB]
 have hs' := hs
 simp only [Cl.parts, cF] at hs'
 have hlg := aQ c.guard
 have hlb := aQ c.body
 have vg := fQ c.guard
 have vh := fQ c.head
 have q140 := h140 (GL := GLs) c hlen
 have q181 := h181 (GL := GLs) c.parts ht hs
 have q203 := h203 (GL := GLs) c.parts ht
 have q188g := h188 (GL := GLs) c.guard 216 (fun t => !t.test) (by omega) (fun x hx => h216 x (by obtain ⟨j, hj, rfl⟩ := List.mem_iff_getElem.1 hx; have := bK hj; omega))
 have q188b := h188 (GL := GLs) c.body 217 (fun t => t.goal.1 == 0) (by omega) (fun x _ => h217 x)
 simp only [encCl] at q140
 rcases hok : termsOk c.parts with _ | _
 ·simp only [hok, Bool.false_eq_true, if_false] at q181
  refine k139.pure (by simp) (by simp [go_sem]) (by simp [go_sem]) ?_
  simp -implicitDefEqProofs only [go_sem, c139, r139, encCl]
  repeat' (first | simp -implicitDefEqProofs only [go_sem, *] | with_reducible refine aV (fun _ => ?_) (fun _ => ?_) | with_reducible refine aX (fun _ => ?_) (fun _ => ?_) | with_reducible refine aK (fun _ => ?_) (fun _ => ?_) | with_reducible refine aI ?_ ?_ | ((with_reducible apply aG hC); (exact q140)) | ((with_reducible apply aG hC); (exact q181)) | ((with_reducible refine And.intro ?bnd ?_); (case bnd => decide)) | fail)
  all_goals simp_all [go_sem, Cl.shaped, Cl.bad]
 ·simp only [hok, if_true] at q181
  obtain ⟨o1, o2, o3⟩ := tD hok
  have q211p := tK (GL := GLs) c.parts ht hs hok
  have q211h := tK (GL := GLs) c.head (by omega) hs'.1 o1
  have q211g := tK (GL := GLs) c.guard (by omega) hs'.2.1 o2
  have q61 : ∀ h : List AObj, h[1]? = some (.cells 61 [.sl 1 ((varsOf c.head).map encI)]) -> PureOn (PC GLs) 61 [.sl 1 ((varsOf c.guard).map encI), .fn (.func 215) [] [.ref 1 0]] (.b ((varsOf c.guard).any fun v => !((varsOf c.head).any fun x => v == x))) h :=
   fun h hk => h61 (varsOf c.guard) 215 [.ref 1 0] (fun v => !((varsOf c.head).any fun x => v == x)) h (by omega) fun x _ => h215 (varsOf c.head) x 1 h (by omega) hk
  unfold Cl.shaped
  rw [hok]
  generalize ((varsOf c.guard).any fun v => !((varsOf c.head).any fun x => v == x)) = b1 at q61 ⊢
  generalize (c.guard.any fun t => !t.test) = b2 at q188g ⊢
  generalize (c.body.any fun t => t.goal.1 == 0) = b3 at q188b ⊢
  refine k139.pure (by simp) (by simp [go_sem]) (by simp [go_sem]) ?_
  simp -implicitDefEqProofs only [go_sem, c139, r139, encCl]
  repeat' (first | simp -implicitDefEqProofs only [go_sem, *] | with_reducible refine aV (fun _ => ?_) (fun _ => ?_) | with_reducible refine aX (fun _ => ?_) (fun _ => ?_) | with_reducible refine aK (fun _ => ?_) (fun _ => ?_) | with_reducible refine aI ?_ ?_ | ((with_reducible apply aG hC); (exact q140)) | ((with_reducible apply aG hC); (exact q181)) | ((with_reducible apply aG hC); (exact q203)) | ((with_reducible apply aG hC); (exact q211p)) | ((with_reducible apply aG hC); (exact q211h)) | ((with_reducible apply aG hC); (exact q211g)) | ((with_reducible refine And.intro ?bnd ?_); (case bnd => decide)) | fail)
  all_goals first
   | with_reducible refine is_call ?_
   | (simp_all [go_sem, Cl.bad]; done)
   | (simp_all [go_sem, Cl.bad]; intros; omega)
  refine dN hC (q61 _ rfl) ?_
  simp -implicitDefEqProofs only [go_sem]
  repeat' (first | simp -implicitDefEqProofs only [go_sem, *] | with_reducible refine aV (fun _ => ?_) (fun _ => ?_) | with_reducible refine aX (fun _ => ?_) (fun _ => ?_) | with_reducible refine aK (fun _ => ?_) (fun _ => ?_) | with_reducible refine aI ?_ ?_ | ((with_reducible apply aG hC); (exact q188g)) | ((with_reducible apply aG hC); (exact q188b)) | ((with_reducible refine And.intro ?bnd ?_); (case bnd => decide)) | fail)
  all_goals first
   | (simp_all [go_sem, Cl.bad]; done)
   | (simp_all [go_sem, Cl.bad]; intros; omega)
def Cl.ok (c : Cl) (ar : Int) : Bool := c.shaped ar && normT c.parts c.vars
theorem h143 (c : Cl) (ar : Int) (ht : sizes c.parts < 2 ^ 30) (hs : strss c.parts) : Pure (PC GLs) 143 [encCl c, .i ar] (.b (c.ok ar)) := by
 have hlen : c.parts.length < 2 ^ 40 := by have := aQ c.parts; omega
 have q139 := h139 c ar ht hs
 have q140 := h140 (GL := GLs) c hlen
 rcases hsh : c.shaped ar with _ | _
 ·rw [hsh] at q139
  simp only [encCl] at q139 q140
  refine k143.pure (by simp) (by simp [go_sem]) (by simp [go_sem]) ?_
  simp -implicitDefEqProofs only [go_sem, c143, r143, encCl]
  repeat' (first | simp -implicitDefEqProofs only [go_sem, *] | with_reducible refine aV (fun _ => ?_) (fun _ => ?_) | with_reducible refine aX (fun _ => ?_) (fun _ => ?_) | with_reducible refine aK (fun _ => ?_) (fun _ => ?_) | with_reducible refine aI ?_ ?_ | ((with_reducible apply aG hC); (exact q139)) | ((with_reducible refine And.intro ?bnd ?_); (case bnd => decide)) | fail)
  all_goals simp_all [go_sem, Cl.ok]
 ·rw [hsh] at q139
  have hok : termsOk c.parts = true := by
   simp only [Cl.shaped, Bool.and_eq_true] at hsh
   exact hsh.2.1
  have q204 := h204 (GL := GLs) c.parts c.vars ht hs hok
  simp only [encCl] at q139 q140
  refine k143.pure (by simp) (by simp [go_sem]) (by simp [go_sem]) ?_
  simp -implicitDefEqProofs only [go_sem, c143, r143, encCl]
  repeat' (first | simp -implicitDefEqProofs only [go_sem, *] | with_reducible refine aV (fun _ => ?_) (fun _ => ?_) | with_reducible refine aX (fun _ => ?_) (fun _ => ?_) | with_reducible refine aK (fun _ => ?_) (fun _ => ?_) | with_reducible refine aI ?_ ?_ | ((with_reducible apply aG hC); (exact q139)) | ((with_reducible apply aG hC); (exact q140)) | ((with_reducible apply aG hC); (exact q204)) | ((with_reducible refine And.intro ?bnd ?_); (case bnd => decide)) | fail)
  all_goals simp_all [go_sem, Cl.ok]
def Adds (C : Calling) (f : FuncId) (args : List AV) (h : List AObj) (v : AV) : Prop := Gives C f args h fun x h' => x = v /\ Keep All h h'
theorem eI {C : Calling} (hC : C.Mono) {f : FuncId} {args : List AV} {h : List AObj} {v : AV} (hp : Adds C f args h v) {R : ARes -> List AObj -> Prop} (hR : ∀ h', Keep All h h' -> R (.val v) h') : C (.fn f) args h R :=
 aU hC hp fun x h' e => by rw [e.1]; exact hR h' e.2
theorem h291K (l : List Sym) (f : FuncId) (cap : List AV) (p : Sym -> Bool) (h0 : List AObj) (hl : l.length < 2 ^ 47) (hf : ∀ x ∈ l, ∀ h, Keep All h0 h -> Adds (PC GL) f (encSym x :: cap) h (.b (p x))) (h : List AObj) (hk : Keep All h0 h) :
  Adds (PC GL) 291 [.sl 2 (l.map encSym), .fn (.func f) [] cap] h (.i (idxF p l)) := by
 refine k291.gives (by simp) ?_
 simp -implicitDefEqProofs only [go_sem, c291, r291]
 refine bH hC (fun j _ => [(8, .i j), (7, .i l.length), (0, .sl 2 (l.map encSym)), (1, .fn (.func f) [] cap)]) (fun j (_ : Unit) h' => (l.take j).any p = false /\ Keep All h h') l.length ?_ ?_
 ·exact ⟨(), h, Wk.pick (Nat.le_refl _) (by simp [go_sem]), rfl, Keep.refl _ _⟩
 ·rintro j - h1 hj ⟨hI, hk1⟩
  simp -implicitDefEqProofs only [go_sem]
  refine aK (fun hlt => ?_) (fun hlt => ?_)
  ·have hlt := aM hlt
   have g1 := fO hlt p
   have w5 : IntKind.i64.wrap ((j : Int) + 1) = (j : Int) + 1 := aP _ (by omega)
   have hx := hf _ (List.getElem_mem hlt) h1 (hk.trans hk1)
   simp -implicitDefEqProofs only [go_sem, hlt, aS, encSym]
   simp only [encSym] at hx
   refine eI hC hx fun h2 hk2 => ?_
   simp -implicitDefEqProofs only [go_sem]
   refine aK (fun hx => ?_) (fun hx => ?_)
   ·simp -implicitDefEqProofs only [go_sem, hx]
    exact aY (hk1.trans hk2).1 ⟨by rw [gX hlt hI hx], hk1.trans hk2⟩
   ·simp -implicitDefEqProofs only [go_sem, hx]
    exact ⟨(), h2, Wk.pick (hk1.trans hk2).1 (by simp [go_sem, w5]), by rw [g1, hI, hx]; rfl, hk1.trans hk2⟩
  ·have hge := aL hlt
   rw [aT hge] at hI
   simp -implicitDefEqProofs only [go_sem, hlt]
   exact aY hk1.1 ⟨by rw [fI hI], hk1⟩
theorem h254K (l : List Sym) (f : FuncId) (cap : List AV) (p : Sym -> Bool) (h0 : List AObj) (hl : l.length < 2 ^ 47) (hf : ∀ x ∈ l, ∀ h, Keep All h0 h -> Adds (PC GL) f (encSym x :: cap) h (.b (p x))) (h : List AObj) (hk : Keep All h0 h) :
  Adds (PC GL) 254 [.sl 2 (l.map encSym), .fn (.func f) [] cap] h (.b (l.any p)) := by
 refine k254.gives (by simp) ?_
 simp -implicitDefEqProofs only [go_sem, c254, r254]
 refine eI hC (h291K l f cap p h0 hl hf h hk) fun h1 hk1 => ?_
 simp -implicitDefEqProofs only [go_sem, kA]
 exact aY hk1.1 ⟨rfl, hk1⟩
def Tm.callee (t : Tm) : Option Sym := if t.goal.1 == 1 then some t.goal.2.2.sym else none
def calledS (l : List Tm) : List Sym := l.filterMap Tm.callee
theorem mL (l : List Tm) : (calledS l).length <= l.length := List.length_filterMap_le _ _
theorem sA {l : List Tm} {j : Nat} (h : j < l.length) : calledS (l.take (j + 1)) = calledS (l.take j) ++ (match l[j].callee with | some s => [s] | none => []) := by
 rw [bD h, calledS, List.filterMap_append, calledS]
 congr 1
 cases hc : l[j].callee <;> simp [hc]
theorem h226 (l : List Tm) (hl : l.length < 2 ^ 40) : Pure (PC GL) 226 [.sl 4 (l.map enc)] (.sl 2 ((calledS l).map encSym)) := by
 refine k226.pure (by simp) (by simp [go_sem]) (by simp [go_sem]) ?_
 simp -implicitDefEqProofs only [go_sem, c226, r226]
 refine bH hC (fun j a => [(13, .i j), (11, .sl 4 (l.map enc)), (12, .i l.length), (3, .own a 2 ((calledS (l.take j)).map encSym))]) (fun _ a h => h[a]? = some (.spare 26 2)) l.length ?_ fun j a h hj ha => ?_
 ·refine ⟨0, [.spare 26 2], (Wk.own_nil (h := []) 26 2 3 (by simp [go_sem]) (Nat.zero_le _)).trans (Wk.pick (Nat.zero_le _) ?_), rfl⟩
  simp [go_sem, calledS]
 ·have g1 := mL (l.take j)
  have g2 : (l.take j).length <= l.length := by simp; omega
  have ha' := fun l => aC (l := l) ha
  simp -implicitDefEqProofs only [go_sem]
  refine aK (fun hlt => ?_) (fun hlt => ?_)
  ·have hlt := aM hlt
   have w5 : IntKind.i64.wrap ((j : Int) + 1) = (j : Int) + 1 := aP _ (by omega)
   have q96 := h96 (GL := GL) l[j]
   simp only [encG] at q96
   have q234 := h234 (GL := GL) l[j].goal.2.2
   have hs := sA hlt
   simp -implicitDefEqProofs only [go_sem, hlt, aS]
   refine aG hC q96 ?_
   simp -implicitDefEqProofs only [go_sem, aO, bI, List.append_assoc]
   refine aK (fun hx => ?_) (fun hx => ?_)
   ·have e : l[j].callee = some l[j].goal.2.2.sym := by simp only [Tm.callee, hx, if_true]
    rw [e] at hs
    dsimp only at hs
    simp -implicitDefEqProofs only [go_sem, hx, aO]
    refine aG hC q234 ?_
    simp -implicitDefEqProofs only [go_sem, aO, bI, List.append_assoc, encSym, ha']
    refine ⟨by simp only [List.length_cons, List.length_nil]; omega, ?_⟩
    refine ⟨h.length + 4, _, Wk.pick (Nat.zero_le _) (by simp [go_sem, w5, hs, encSym]), ?_⟩
    rw [cX (by simp)]; simp
   ·have e : l[j].callee = none := by simp only [Tm.callee, hx]; rfl
    rw [e, List.append_nil] at hs
    simp -implicitDefEqProofs only [go_sem, hx]
    exact ⟨a, _, Wk.pick (Nat.zero_le _) (by simp [go_sem, w5, hs]), ha' _⟩
  ·have hge := aL hlt
   simp -implicitDefEqProofs only [go_sem, hlt, aT hge]
   refine aI ?_ (by simp [go_sem])
   simp [go_sem]
def findS (s : Sym) (l : List Sym) : Int := match idxS s l with
 | some i => i
 | none => -1
theorem kI (s : Sym) (l : List Sym) : (idxS s l).isSome = decide (s ∈ l) := by
 by_cases h : s ∈ l
 ·obtain ⟨i, h1, -⟩ := iL h
  simp [h, h1]
 ·simp [h, iS h]
def encIx (n : Nat) : List AV := (List.range n).map fun (i : Nat) => AV.i (i : Int)
theorem rZ {s : Sym} {l : List Sym} {i : Nat} (h : idxS s l = some i) : i < l.length := by
 have : s ∈ l := by
  have := kI s l
  rw [h] at this
  simpa using this.symm
 obtain ⟨j, h1, h2⟩ := iL this
 rw [h] at h1; cases h1; exact h2
def tabV (k : Nat) : AV := .agg [.mp k, .v (.map none)]
def tabO (l : List Sym) : AObj := .map (l.map encSym) (encIx l.length)
theorem h142 (l : List Sym) (s : Sym) (k : Nat) (h : List AObj) (hk : h[k]? = some (tabO l)) : Adds (PC GL) 142 [tabV k, encSym s] h (.tup [.i (findS s l), .b (decide (s ∈ l))]) := by
 rw [tabO] at hk
 have hk' := fun l' => aC (l := l') hk
 have hm := kI s l
 obtain ⟨a, n⟩ := s
 refine k142.gives (by simp) ?_
 simp -implicitDefEqProofs only [go_sem, c142, r142, tabV, encSym, aO, List.append_assoc, hk', cQ]
 rcases hi : idxS ⟨a, n⟩ l with _ | i
 ·rw [hi] at hm
  refine aY (by simp) ⟨?_, Keep.app _ _ _⟩
  rw [<- hm, findS, hi]; rfl
 ·rw [hi] at hm
  have hlt := rZ hi
  have e : (encIx l.length).getD i .any = .i i := by simp [encIx, List.getD, hlt]
  refine aY (by simp) ⟨?_, Keep.app _ _ _⟩
  rw [<- hm, findS, hi, e]; rfl
theorem h255 (l : List Sym) (s : Sym) (k b : Nat) (h : List AObj) (hk : h[k]? = some (tabO l)) (hb : h[b]? = some (.cells 151 [.mp k, .v (.map none)])) : Adds (PC GL) 255 [encSym s, .ref b 0] h (.b (!decide (s ∈ l))) := by
 have hb' := fun l' => aC (l := l') hb
 have q := h142 (GL := GL) l s k (h ++ [.cells 26 (encSym s).cells]) (aC hk)
 obtain ⟨a, n⟩ := s
 simp only [encSym, tabV, AV.cells] at q
 refine k255.gives (by simp) ?_
 simp -implicitDefEqProofs only [go_sem, c255, r255, encSym, hb']
 refine eI hC q fun h1 hk1 => ?_
 simp -implicitDefEqProofs only [go_sem]
 exact aY hk1.left.1 ⟨rfl, hk1.left⟩
def okOpt (p : Sym -> Bool) : Option Sym -> Bool
 | some s => p s
 | none => true
theorem xB (l : List Tm) (p : Sym -> Bool) : (!(calledS l).any fun s => !p s) = l.all fun t => okOpt p t.callee := by
 rw [List.not_any_eq_all_not]
 induction l with
 | nil => rfl
 | cons t r ih =>
  simp only [calledS, List.filterMap_cons, List.all_cons] at ih ⊢
  cases t.callee with
  | none => simpa [okOpt] using ih
  | some s =>
   simp only [List.all_cons, Bool.not_not, okOpt] at ih ⊢
   rw [ih]
def okCalls (l more : List Sym) (goals : List Tm) : Bool := goals.all fun t => okOpt (fun s => decide (s ∈ l) || decide (s ∈ more)) t.callee
theorem tY (l : List Sym) (goals : List Tm) : okCalls l [] goals = !(calledS goals).any fun s => !decide (s ∈ l) := by
 rw [xB goals fun s => decide (s ∈ l), okCalls]
 congr 1
 funext t
 cases t.callee <;> simp [okOpt]
theorem h220 (l : List Sym) (goals : List Tm) (k : Nat) (h : List AObj) (hl : goals.length < 2 ^ 40) (hk : h[k]? = some (tabO l)) : Adds (PC GL) 220 [tabV k, .sl 4 (goals.map enc)] h (.b (okCalls l [] goals)) := by
 rw [tY]
 have hn := mL goals
 have q226 := h226 (GL := GL) goals hl
 have q254 := h254K (GL := GL) (calledS goals) 255 [.ref h.length 0] (fun s => !decide (s ∈ l)) (h ++ [.cells 151 [.mp k, .v (.map none)]]) (by omega)
  (fun s _ h' hk' => h255 l s k h.length h' (hk'.got (aC hk)) (hk'.got (by simp))) _ (Keep.refl _ _)
 simp only [tabV]
 refine k220.gives (by simp) ?_
 simp -implicitDefEqProofs only [go_sem, c220, r220]
 refine aG hC q226 ?_
 simp -implicitDefEqProofs only [go_sem]
 refine eI hC q254 fun h1 hk1 => ?_
 simp -implicitDefEqProofs only [go_sem]
 exact aY hk1.left.1 ⟨rfl, hk1.left⟩
def Pr.sym (q : Pr) : Sym := ⟨q.name, q.arity⟩
def Pr.head (seen : List Sym) (q : Pr) : Bool := !decide (q.sym ∈ seen) && (nameOk q.name && (!decide (q.arity < 0) && (!decide (q.arity > 16) && (!q.sym.res && !decide ((q.clauses.length : Int) > 32)))))
def headsOk : List Sym -> List Pr -> Bool
 | _, [] => true
 | seen, q :: r => q.head seen && headsOk (seen ++ [q.sym]) r
def Pg.syms (p : Pg) : List Sym := p.procs.map Pr.sym
theorem hO (seen : List Sym) : ∀ (a b : List Pr), headsOk seen (a ++ b) = (headsOk seen a && headsOk (seen ++ a.map Pr.sym) b)
 | [], b => by simp [headsOk]
 | q :: r, b => by simp only [List.cons_append, headsOk, hO (seen ++ [q.sym]) r b, Bool.and_assoc, List.map_cons, List.append_assoc, List.cons_append, List.nil_append]
theorem rI {l : List Pr} {j : Nat} (h : j < l.length) : headsOk [] (l.take (j + 1)) = (headsOk [] (l.take j) && l[j].head ((l.take j).map Pr.sym)) := by
 rw [bD h, hO]; simp [headsOk]
theorem rC {l : List Pr} {j : Nat} (h : headsOk [] (l.take j) = false) : headsOk [] l = false := by
 have : l = l.take j ++ l.drop j := (List.take_append_drop j l).symm
 rw [this, hO, h]; rfl
def Pg.tabled (p : Pg) : Bool := !decide ((p.procs.length : Int) > 64) && headsOk [] p.procs
theorem tabO_snoc (l : List Sym) (s : Sym) : AObj.map (l.map encSym ++ [encSym s]) (encIx l.length ++ [.i l.length]) = tabO (l ++ [s]) := by
 simp [tabO, encIx, List.range_succ]
theorem h197 (p : Pg) (hl : p.procs.length < 2 ^ 40) (hn : ∀ q ∈ p.procs, q.name.length < 2 ^ 30) (h : List AObj) :
  Gives (PC GL) 197 [encPg p] h fun x h' => ∃ k, x = .tup [tabV k, .b p.tabled] /\ Keep All h h' /\ (p.tabled = true -> h'[k]? = some (tabO p.syms)) := by
 have hall : Pg.tabled p = (!decide ((p.procs.length : Int) > 64) && headsOk [] p.procs) := rfl
 refine k197.gives (by simp) ?_
 simp -implicitDefEqProofs only [go_sem, c197, r197, encPg, aO, bI, List.append_assoc]
 refine aK (fun h1 => ?_) (fun h1 => ?_)
 ·rw [h1] at hall
  simp -implicitDefEqProofs only [go_sem, h1, aO, bI]
  exact aY (by simp) ⟨h.length + 2, by rw [hall]; rfl, Keep.app _ _ _, fun e => by rw [hall] at e; cases e⟩
 ·rw [h1] at hall
  simp -implicitDefEqProofs only [go_sem, h1]
  refine bH hC (fun j _ => [(20, .i j), (18, .sl 3 (p.procs.map encPr)), (19, .i p.procs.length), (2, .ref (h.length + 1) 0), (4, .ref (h.length + 3) 0)])
   (fun j (_ : Unit) h' => headsOk [] (p.procs.take j) = true /\ Keep All h h' /\ h'[h.length + 1]? = some (.cells 151 [.v (.map none), .v (.map none)]) /\ h'[h.length + 2]? = some (tabO ((p.procs.take j).map Pr.sym)) /\ h'[h.length + 3]? = some (.cells 151 [.mp (h.length + 2), .v (.map none)])) p.procs.length ?_ ?_
  ·exact ⟨(), _, Wk.pick (by simp) (by simp [go_sem]), rfl, Keep.app _ _ _, aO h _ 1, aO h _ 2, aO h _ 3⟩
  ·rintro j - h2 hj ⟨hI, hk, o1, o2, o3⟩
   have o1' := fun l => aC (l := l) o1
   have o2' := fun l => aC (l := l) o2
   have o3' := fun l => aC (l := l) o3
   simp only [tabO] at o2'
   simp -implicitDefEqProofs only [go_sem]
   refine aK (fun hlt => ?_) (fun hlt => ?_)
   ·have hlt := aM hlt
    have w5 : IntKind.i64.wrap ((j : Int) + 1) = (j : Int) + 1 := aP _ (by omega)
    have hs := rI hlt
    have q229 := h229 (GL := GL) p.procs[j].name (hn _ (List.getElem_mem hlt))
    have q25 := h25 (GL := GL) p.procs[j].sym
    have hm := kI p.procs[j].sym ((p.procs.take j).map Pr.sym)
    have fin0 : p.procs[j].head ((p.procs.take j).map Pr.sym) = false -> p.tabled = false := fun e => by
     rw [hall, Bool.not_false, Bool.true_and]
     exact rC (j := j + 1) (by rw [hs, hI, e]; rfl)
    simp only [Pr.sym] at q25 hm
    simp -implicitDefEqProofs only [go_sem, hlt, aS, encPr, aO, bI, List.append_assoc, o1', o2', o3', cQ]
    have s1' := fun o l => aE (l := l) o1 o
    have s2' := fun o l => aE (l := l) o2 o
    have e1' : ∀ o l, (h2.set (h.length + 1) o ++ l)[h.length + 1]? = some o := fun o l => by rw [List.getElem?_append_left (by simpa using aH o1)]; exact aJ o1
    have k1' : ∀ o l, Keep All h (h2.set (h.length + 1) o ++ l) := fun o l => hk.trans' (K' := fun i _ => i = h.length + 1) ((Keep.set o o1 rfl).trans (Keep.app _ _ _)) fun i o' hi e => by have := aH hi; omega
    have k2' : ∀ o l, Keep All h (h2.set (h.length + 2) o ++ l) := fun o l => hk.trans' (K' := fun i _ => i = h.length + 2) ((Keep.set o o2 rfl).trans (Keep.app _ _ _)) fun i o' hi e => by have := aH hi; omega
    have bad : p.procs[j].head ((p.procs.take j).map Pr.sym) = false -> ∀ o l, ∃ y h', Wk GL h.length [(0, .tup [.agg [.mp (h.length + 2), .v (.map none)], .v (.bool false)])] (h2.set (h.length + 1) o ++ l) [(0, y)] h' /\ ∃ x, ARes.val y = ARes.val x /\ ∃ k, x = .tup [tabV k, .b p.tabled] /\ Keep All h h' /\ (p.tabled = true -> h'[k]? = some (tabO p.syms)) :=
     fun e o l => aY (k1' o l).1 ⟨h.length + 2, by rw [fin0 e]; rfl, k1' o l, fun e' => by rw [fin0 e] at e'; cases e'⟩
    have ok : p.procs[j].head ((p.procs.take j).map Pr.sym) = true -> headsOk [] (p.procs.take (j + 1)) = true := fun e => by rw [hs, hI, e]; rfl
    clear fin0 hs hall
    rcases hi : idxS ⟨p.procs[j].name, p.procs[j].arity⟩ ((p.procs.take j).map Pr.sym) with _ | i
    ·rw [hi] at hm
     simp only [encSym] at q25
     repeat' (first | simp -implicitDefEqProofs only [go_sem, *, aO, cQ] | with_reducible refine aV (fun _ => ?_) (fun _ => ?_) | with_reducible refine aX (fun _ => ?_) (fun _ => ?_) | with_reducible refine aK (fun _ => ?_) (fun _ => ?_) | with_reducible refine aI ?_ ?_ | ((with_reducible apply aG hC); (exact q229)) | ((with_reducible apply aG hC); (exact q25)) | ((with_reducible refine And.intro ?bnd ?_); (case bnd => decide)) | fail)
     all_goals first
      | (refine bad ?_ _ _; simp_all [Pr.head, Pr.sym]; done)
      | (exfalso; clear ok bad k1' k2' e1' s1' s2' o1' o2' o3' hk; simp_all; done)
      | skip
     refine ⟨(), _, Wk.pick (k2' _ _).1 (by simp [go_sem]), ok ?_, k2' _ _, ?_, ?_, ?_⟩
     ·clear ok bad k1' k2' e1' s1' s2' o1' o2' o3' hk
      simp_all [Pr.head, Pr.sym]
     ·rw [List.getElem?_append_left (by simpa using aH o1), aF (by omega)]; exact o1
     ·rw [List.getElem?_append_left (by simpa using aH o2), aJ o2, bD hlt, List.map_append]
      have := tabO_snoc ((p.procs.take j).map Pr.sym) p.procs[j].sym
      have hj' : min j p.procs.length = j := by omega
      simp only [List.length_map, List.length_take, hj', List.map_cons, List.map_nil] at this ⊢
      rw [<- this]; rfl
     ·rw [List.getElem?_append_left (by simpa using aH o3), aF (by omega)]; exact o3
    ·rw [hi] at hm
     have hlt' := rZ hi
     have e : (encIx ((p.procs.take j).map Pr.sym).length).getD i .any = .i i := by rw [encIx, List.getD, List.getElem?_map, List.getElem?_range hlt']; rfl
     repeat' (first | simp -implicitDefEqProofs only [go_sem, *] | with_reducible refine aV (fun _ => ?_) (fun _ => ?_) | with_reducible refine aX (fun _ => ?_) (fun _ => ?_) | with_reducible refine aK (fun _ => ?_) (fun _ => ?_) | with_reducible refine aI ?_ ?_ | ((with_reducible apply aG hC); (exact q229)) | ((with_reducible apply aG hC); (exact q25)) | ((with_reducible refine And.intro ?bnd ?_); (case bnd => decide)) | fail)
     refine bad ?_ _ _
     simp only [Pr.head, Pr.sym, <- hm]; rfl
   ·have hge := aL hlt
    rw [aT hge] at hI o2
    have s1' := fun o l => aE (l := l) o1 o
    have e1' : ∀ o, (h2.set (h.length + 1) o)[h.length + 1]? = some o := fun o => aJ o1
    have k1' : ∀ o, Keep All h (h2.set (h.length + 1) o) := fun o => hk.trans' (K' := fun i _ => i = h.length + 1) (Keep.set o o1 rfl) fun i o' hi e => by have := aH hi; omega
    have e2' : ∀ o, (h2.set (h.length + 1) o)[h.length + 2]? = some (tabO (p.procs.map Pr.sym)) := fun o => by rw [aF (by omega)]; exact o2
    simp -implicitDefEqProofs only [go_sem, hlt, o3, o1, e1']
    exact aY (k1' _).1 ⟨h.length + 2, by rw [hall, hI]; rfl, k1' _, fun _ => e2' _⟩
def okClauses (l more : List Sym) (q : Pr) : Bool := q.clauses.all fun c => c.ok q.arity && okCalls l more c.body
structure Pg.fits (p : Pg) : Prop where
 l : p.procs.length < 2 ^ 40
 n : ∀ q ∈ p.procs, q.name.length < 2 ^ 30
 c : ∀ q ∈ p.procs, q.clauses.length < 2 ^ 40
 t : ∀ q ∈ p.procs, ∀ c ∈ q.clauses, sizes c.parts < 2 ^ 30 /\ strss c.parts
theorem body_len (c : Cl) : c.body.length <= sizes c.parts := by
 have := aQ c.body
 simp only [Cl.parts, bB]; omega
theorem h198 (p : Pg) (hp : p.fits) (l : List Sym) (k : Nat) (h : List AObj) (hk : h[k]? = some (tabO l)) : Adds (PC GLs) 198 [tabV k, encPg p] h (.b (p.procs.all (okClauses l []))) := by
 have h4 := hp.l
 refine k198.gives (by simp) ?_
 simp -implicitDefEqProofs only [go_sem, c198, r198, encPg, tabV, aO, List.append_assoc]
 refine bH hC (fun i _ => [(12, .i i), (10, .sl 3 (p.procs.map encPr)), (11, .i p.procs.length), (2, .ref h.length 0)])
  (fun i (_ : Unit) h' => (p.procs.take i).all (okClauses l []) = true /\ Keep All h h' /\ h'[h.length]? = some (.cells 151 [.mp k, .v (.map none)])) p.procs.length ?_ ?_
 ·exact ⟨(), _, Wk.pick (by simp) (by simp [go_sem]), rfl, Keep.app _ _ _, by rw [eM]; rfl⟩
 ·rintro i - h2 hi ⟨hI, hk2, o1⟩
  simp -implicitDefEqProofs only [go_sem]
  refine aK (fun hlt => ?_) (fun hlt => ?_)
  ·have hlt := aM hlt
   have w5 : IntKind.i64.wrap ((i : Int) + 1) = (i : Int) + 1 := aP _ (by omega)
   have hm := List.getElem_mem hlt
   have hcl := hp.c _ hm
   have hct := hp.t _ hm
   generalize hq : p.procs[i] = q at *
   simp -implicitDefEqProofs only [go_sem, hlt, aS, hq, encPr]
   refine bH hC (fun j _ => [(19, .i j), (17, .sl 5 (q.clauses.map encCl)), (18, .i q.clauses.length), (6, .ref h2.length 0), (2, .ref h.length 0), (12, .i i), (10, .sl 3 (p.procs.map encPr)), (11, .i p.procs.length)])
    (fun j (_ : Unit) h' => (q.clauses.take j).all (fun c => c.ok q.arity && okCalls l [] c.body) = true /\ Keep All h h' /\ h'[h.length]? = some (.cells 151 [.mp k, .v (.map none)]) /\ h'[h2.length]? = some (.cells 60 [.str q.name, .i q.arity, .sl 5 (q.clauses.map encCl)])) q.clauses.length ?_ ?_
   ·exact ⟨(), _, Wk.pick (by have := hk2.1; simp; omega) (by simp [go_sem]), rfl, hk2.trans (Keep.app _ _ _), aC o1, by rw [eM]; rfl⟩
   ·rintro j - h3 hj ⟨hJ, hk3, o3, o4⟩
    have o3' := fun l => aC (l := l) o3
    have o4' := fun l => aC (l := l) o4
    simp -implicitDefEqProofs only [go_sem]
    refine aK (fun hlt2 => ?_) (fun hlt2 => ?_)
    ·have hlt2 := aM hlt2
     have w6 : IntKind.i64.wrap ((j : Int) + 1) = (j : Int) + 1 := aP _ (by omega)
     have hm2 := List.getElem_mem hlt2
     have hs := hct _ hm2
     have hbl := body_len q.clauses[j]
     have q143 := h143 q.clauses[j] q.arity hs.1 hs.2
     have hall : (q.clauses[j].ok q.arity && okCalls l [] q.clauses[j].body) = false -> p.procs.all (okClauses l []) = false := fun e =>
      List.all_eq_false.2 ⟨q, hm, by simp only [okClauses, Bool.not_eq_true]; exact List.all_eq_false.2 ⟨_, hm2, by simp [e]⟩⟩
     simp only [encCl] at q143
     simp -implicitDefEqProofs only [go_sem, hlt2, aS, encCl, o4']
     refine aG hC q143 ?_
     have q220 := fun h' (hk' : Keep All h h') => h220 (GL := GLs) l q.clauses[j].body k h' (by omega) (hk'.got hk)
     simp only [tabV] at q220
     rcases hok : q.clauses[j].ok q.arity with _ | _
     ·have e := hall (by rw [hok]; rfl)
      simp -implicitDefEqProofs only [go_sem]
      exact aY (by have := hk3.1; simp; omega) ⟨by rw [e], hk3.trans (Keep.app _ _ _)⟩
     ·simp -implicitDefEqProofs only [go_sem, Bool.not_true, o3']
      refine eI hC (q220 _ (hk3.trans (Keep.app _ _ _))) fun h5 hk5 => ?_
      have hk6 := hk3.trans hk5.left
      rcases hoc : okCalls l [] q.clauses[j].body with _ | _
      ·have e := hall (by rw [hok, hoc]; rfl)
       simp -implicitDefEqProofs only [go_sem, Bool.not_false]
       exact aY hk6.1 ⟨by rw [e], hk6⟩
      ·simp -implicitDefEqProofs only [go_sem, Bool.not_true]
       exact ⟨(), h5, Wk.pick hk6.1 (by simp [go_sem, w6]), by rw [kR hlt2, hJ, hok, hoc]; rfl, hk6, hk5.got (o3' _), hk5.got (o4' _)⟩
    ·have hge2 := aL hlt2
     rw [aT hge2] at hJ
     simp -implicitDefEqProofs only [go_sem, hlt2]
     exact ⟨(), h3, Wk.pick hk3.1 (by simp [go_sem, w5]), by rw [kR hlt, hI, hq, okClauses, hJ]; rfl, hk3, o3⟩
  ·have hge := aL hlt
   rw [aT hge] at hI
   simp -implicitDefEqProofs only [go_sem, hlt]
   exact aY hk2.1 ⟨by rw [hI], hk2⟩
def Pg.ok (p : Pg) : Bool := p.tabled && p.procs.all (okClauses p.syms [])
def okE (b : Bool) : Int := if b then 0 else 5
theorem h116 (p : Pg) (hp : p.fits) (h : List AObj) : Gives (PC GLs) 116 [encPg p] h fun x h' => ∃ y, x = .tup [y, .i (okE p.ok)] /\ Keep All h h' /\
  ((p.ok = true /\ ∃ k, y = .agg [.sl 3 (p.procs.map encPr), .mp k, .v (.map none)] /\ h'[k]? = some (tabO p.syms)) ∨ (p.ok = false /\ y = .agg [.v (.slice none 0 0), .v (.map none), .v (.map none)])) := by
 have q197 := fun h' => h197 (GL := GLs) p hp.l hp.n h'
 have q198 := fun k h' (hk : h'[k]? = some (tabO p.syms)) => h198 p hp p.syms k h' hk
 have hok : p.ok = (p.tabled && p.procs.all (okClauses p.syms [])) := rfl
 simp only [encPg] at q197 q198
 refine k116.gives (by simp) ?_
 simp -implicitDefEqProofs only [go_sem, c116, r116, encPg, List.append_assoc]
 refine aU hC (q197 _) fun x h1 ⟨k, hx, hk1, hkt⟩ => ?_
 subst hx
 have o1 := hk1.got (i := h.length) (by rw [eM]; rfl)
 have o2 := hk1.got (i := h.length + 1) (aO h _ 1)
 have o1_g := fun l => aC (l := l) o1
 have o1_s := fun o l => aE (l := l) o1 o
 have o1_e := fun o l => aD (o := o) (l := l) o1
 have o1_h := fun o => aJ (o := o) o1
 have o2_g := fun l => aC (l := l) o2
 have o2_s := fun o l => aE (l := l) o2 o
 have o2_e := fun o l => aD (o := o) (l := l) o2
 have o2_h := fun o => aJ (o := o) o2
 have hk0 : Keep All h h1 := hk1.left
 have bad : p.ok = false -> ∀ (h3 l : List AObj) o o', Keep All h h3 -> h3[h.length + 1]? = some o' -> ∃ y h', Wk GLs h.length [(0, .tup [.agg [.v (.slice none 0 0), .v (.map none), .v (.map none)], .v (.int .i64 5)])] (h3.set (h.length + 1) o ++ l) [(0, y)] h' /\
   ∃ x, ARes.val y = ARes.val x /\ ∃ y, x = .tup [y, .i (okE p.ok)] /\ Keep All h h' /\ ((p.ok = true /\ ∃ k, y = .agg [.sl 3 (p.procs.map encPr), .mp k, .v (.map none)] /\ h'[k]? = some (tabO p.syms)) ∨ (p.ok = false /\ y = .agg [.v (.slice none 0 0), .v (.map none), .v (.map none)])) :=
  fun e h3 l o o' e1 e2 => by
   have kf := (e1.turn o e2 (Nat.le_add_right _ _)).trans (Keep.app All _ l)
   exact aY kf.1 ⟨_, by rw [e]; rfl, kf, .inr ⟨e, rfl⟩⟩
 rcases ht : p.tabled with _ | _
 ·have e := hok
  rw [ht, Bool.false_and] at e
  simp -implicitDefEqProofs only [go_sem, tabV, o2_g, o2_s, o2_e, Bool.not_false]
  exact bad e h1 _ _ _ hk0 o2
 ·rw [ht, Bool.true_and] at hok
  have o3 := hkt ht
  simp -implicitDefEqProofs only [go_sem, tabV, o1_g, Bool.not_true]
  have q := q198 k (h1 ++ [.cells 151 [.mp k, .v (.map none)]]) (aC o3)
  simp only [tabV] at q
  refine eI hC q fun h2 hk2 => ?_
  have o4 := hk2.got (o1_g _)
  have o5 := hk2.got (o2_g _)
  have o6 := hk2.got (i := h1.length) (by rw [eM]; rfl)
  have hk3 := hk0.trans hk2.left
  have o4_g := fun l => aC (l := l) o4
  have o4_s := fun o l => aE (l := l) o4 o
  have o4_e := fun o l => aD (o := o) (l := l) o4
  have o4_h := fun o => aJ (o := o) o4
  have o5_g := fun l => aC (l := l) o5
  have o5_s := fun o l => aE (l := l) o5 o
  have o5_e := fun o l => aD (o := o) (l := l) o5
  have o5_h := fun o => aJ (o := o) o5
  have o6_g := fun l => aC (l := l) o6
  have o6_s := fun o l => aE (l := l) o6 o
  have o6_e := fun o l => aD (o := o) (l := l) o6
  have o6_h := fun o => aJ (o := o) o6
  rcases hs : p.procs.all (okClauses p.syms []) with _ | _
  ·rw [hs] at hok
   simp -implicitDefEqProofs only [go_sem, o5, o5_h, Bool.not_false]
   have := bad hok h2 [] (.cells 153 [.v (.slice none 0 0), .v (.map none), .v (.map none)]) _ hk3 o5
   rwa [List.append_nil] at this
  ·rw [hs] at hok
   simp -implicitDefEqProofs only [go_sem, o4, o5, o5_h, o6, Bool.not_true]
   have kf := hk3.turn (.cells 153 [.sl 3 (p.procs.map encPr), .mp k, .v (.map none)]) o5 (Nat.le_add_right _ _)
   have hne : h.length + 1 ≠ k := by rintro rfl; rw [o2] at o3; cases o3
   exact aY kf.1 ⟨_, by rw [hok]; rfl, kf, .inl ⟨hok, k, rfl, by rw [aF hne]; exact hk2.got (aC o3)⟩⟩
theorem h32 (p : Pg) (hp : p.fits) : Pure (PC GLs) 32 [encPg p] (.i (okE p.ok)) := by
 have q := fun h => h116 p hp h
 simp only [encPg] at q
 refine k32.pure (by simp) (by simp [go_sem]) (by simp [go_sem]) ?_
 simp -implicitDefEqProofs only [go_sem, c32, r32, encPg]
 refine aU hC (q _) fun x h1 ⟨y, hx, hk1, hy⟩ => ?_
 subst hx
 rcases hy with ⟨hy, k, rfl, hk⟩ | ⟨hy, rfl⟩
 ·simp -implicitDefEqProofs only [go_sem]
  refine aI ?_ ?_ <;> simp [go_sem]
 ·simp -implicitDefEqProofs only [go_sem]
  refine aI ?_ ?_ <;> simp [go_sem]
def Qy.ok (q : Qy) : Bool := decide ((q.goals.length : Int) <= 16) && (termsOk q.goals && (decide ((sizes q.goals : Int) <= 400) && (decide (q.vars <= 64) && (normT q.goals q.vars && !(q.goals.any fun t => t.goal.1 == 0)))))
structure Qy.fits (q : Qy) : Prop where
 s : sizes q.goals < 2 ^ 30
 t : strss q.goals
theorem h94at (t : Tm) (ht : t.wid) (left deep : Int) (hl : 0 <= left /\ left < 2 ^ 40) (hd : 0 <= deep /\ deep < 2 ^ 40) (k : Nat) (h : List AObj) (hk : h[k]? = some (.cells 3 [.i left])) :
  PC GL (.fn 94) [enc t, .ref k 0, .i deep] h fun r h' => h' = h.set k (.cells 3 [.i (t.cnt left deep).2]) /\ r = .val (.b (t.cnt left deep).1) := by
 have := lift2 (h1 := cel left) (h2 := cel (t.cnt left deep).2) (by simp [bd]) (by simp [bds, bd, cel, go_sem]) lH lH rfl (h94 (GL := GL) t ht left deep hl hd) (fun _ => k) (H := h) (H2 := h.set k (.cells 3 [.i (t.cnt left deep).2])) ?_ ?_ (by simp) ?_ ?_
 ·simpa [rens, ren, mX] using this
 ·intro i x hx
  cases i with
  | zero => simp [cel] at hx; subst hx; simpa [renO, rens, ren] using hk
  | succ i => simp [cel] at hx
 ·intro i x hx
  cases i with
  | zero => simp [cel] at hx; subst hx; simp [renO, rens, ren, aJ hk]
  | succ i => simp [cel] at hx
 ·intro j hj
  rw [aF (hj 0 (by simp [cel]))]
 ·intro i j hi hj _
  simp [cel] at hi hj
  omega
structure Pr.small (q : Pr) : Prop where
 n : q.name.length <= 500
 c : q.clauses.length <= 120
 t : ∀ c ∈ q.clauses, sizes c.parts <= 5000 /\ strss c.parts
structure Pg.small (p : Pg) : Prop where
 l : p.procs.length <= 80
 q : ∀ q ∈ p.procs, q.small
theorem Pg.small.fits {p : Pg} (h : p.small) : p.fits :=
 ⟨by have := h.l; omega, fun q hq => by have := (h.q q hq).n; omega, fun q hq => by have := (h.q q hq).c; omega, fun q hq c hc => ⟨by have := ((h.q q hq).t c hc).1; omega, ((h.q q hq).t c hc).2⟩⟩
theorem h27 (p : Pg) (hw : p.wid) (h : List AObj) : Gives (PC GL) 27 [encPg p] h fun x h' => ∃ b, x = .b b /\ Keep All h h' /\ (b = true -> p.small) := by
 have hpl := hw.2
 refine k27.gives (by simp) ?_
 simp -implicitDefEqProofs only [go_sem, c27, r27, encPg, aO, bI, List.append_assoc]
 refine aK (fun h1 => ?_) (fun h1 => ?_)
 ·simp -implicitDefEqProofs only [go_sem, h1]
  exact aY (by simp) ⟨false, rfl, Keep.app _ _ _, fun e => by cases e⟩
 have hl80 : p.procs.length <= 80 := by have := of_decide_eq_false h1; omega
 simp -implicitDefEqProofs only [go_sem, h1]
 refine bH hC (fun i (a : Int × Int) => [(20, .i i), (18, .sl 3 (p.procs.map encPr)), (19, .i p.procs.length), (3, .ref (h.length + 1) 0), (4, .i a.2)])
  (fun i (a : Int × Int) h' => (0 <= a.1 /\ a.1 <= 5000) /\ (0 <= a.2 /\ a.2 <= 120) /\ (∀ q ∈ p.procs.take i, q.small) /\ Keep All h h' /\ h'[h.length + 1]? = some (.cells 3 [.i a.1])) p.procs.length ?_ ?_
 ·exact ⟨(5000, 0), _, Wk.pick (by simp) (by simp [go_sem]), by simp, by simp, fun q hq => by simp at hq, Keep.app _ _ _, aO h _ 1⟩
 rintro i ⟨z, m⟩ h2 hi ⟨hz, hmm, hI, hk2, o1⟩
 simp -implicitDefEqProofs only [go_sem]
 refine aK (fun hlt => ?_) (fun hlt => ?_)
 ·have hlt := aM hlt
  have w5 : IntKind.i64.wrap ((i : Int) + 1) = (i : Int) + 1 := aP _ (by omega)
  have hqw := hw.1 _ (List.getElem_mem hlt)
  have hti : p.procs.take (i + 1) = p.procs.take i ++ [p.procs[i]] := bD hlt
  generalize hq : p.procs[i] = q at *
  obtain ⟨n1, n2, n3⟩ := hqw
  have w6 : IntKind.i64.wrap (m + (q.clauses.length : Int)) = m + q.clauses.length := aP _ (by simp only at hmm; omega)
  have fin : ∀ h', Keep All h h' -> ∃ y h'', Wk GL h.length [(0, .v (.bool false))] h' [(0, y)] h'' /\ ∃ x, ARes.val y = ARes.val x /\ ∃ b, x = .b b /\ Keep All h h'' /\ (b = true -> p.small) := fun h' hk => aY hk.1 ⟨false, rfl, hk, fun e => by cases e⟩
  have ha := hk2.trans (Keep.app All h2 [.cells 60 [.str q.name, .i q.arity, .sl 5 (q.clauses.map encCl)]])
  simp -implicitDefEqProofs only [go_sem, hlt, aS, hq, encPr, w6]
  rcases hb1 : decide (m + (q.clauses.length : Int) > 120) with _ | _
  ·simp -implicitDefEqProofs only [go_sem]
   rcases hb2 : decide ((q.name.length : Int) > 500) with _ | _
   ·have hb1 := of_decide_eq_false hb1
    have hb2 := of_decide_eq_false hb2
    simp -implicitDefEqProofs only [go_sem]
    have hc120 : q.clauses.length <= 120 := by simp only at hmm; omega
    refine bH hC (fun j (z : Int) => [(40, .i j), (38, .sl 5 (q.clauses.map encCl)), (39, .i q.clauses.length), (3, .ref (h.length + 1) 0), (4, .i (m + q.clauses.length)), (20, .i i), (18, .sl 3 (p.procs.map encPr)), (19, .i p.procs.length)])
     (fun j (z : Int) h' => (0 <= z /\ z <= 5000) /\ (∀ c ∈ q.clauses.take j, sizes c.parts <= 5000 /\ strss c.parts) /\ Keep All h h' /\ h'[h.length + 1]? = some (.cells 3 [.i z])) q.clauses.length ?_ ?_
    ·exact ⟨z, _, Wk.pick ha.1 (by simp [go_sem]), hz, fun q hq => by simp at hq, ha, aC o1⟩
    rintro j z1 h3 hj ⟨hz1, hJ, hk3, o3⟩
    simp -implicitDefEqProofs only [go_sem]
    refine aK (fun hlt2 => ?_) (fun hlt2 => ?_)
    ·have hlt2 := aM hlt2
     have w7 : IntKind.i64.wrap ((j : Int) + 1) = (j : Int) + 1 := aP _ (by omega)
     have hcw := n2 _ (List.getElem_mem hlt2)
     have htj : q.clauses.take (j + 1) = q.clauses.take j ++ [q.clauses[j]] := bD hlt2
     generalize hc : q.clauses[j] = c at *
     obtain ⟨⟨w1, w1'⟩, ⟨w2, w2'⟩, w3, w3'⟩ := hcw
     obtain ⟨ls, hls⟩ : ∃ ls, ls = [c.head, c.guard, c.body] := ⟨_, rfl⟩
     have lsw : ∀ l ∈ ls, wids l /\ l.length <= 2 ^ 47 := by
      intro l hl
      rw [hls] at hl
      simp only [List.mem_cons, List.not_mem_nil, or_false] at hl
      rcases hl with rfl | rfl | rfl
      ·exact ⟨w1, w1'⟩
      ·exact ⟨w2, w2'⟩
      ·exact ⟨w3, w3'⟩
     have lsl : ls.length = 3 := by rw [hls]; rfl
     have hk4 : ∀ l, Keep All h (h3 ++ l) := fun l => hk3.trans (Keep.app _ _ _)
     simp -implicitDefEqProofs only [go_sem, hlt2, aS, hc, encCl, List.append_assoc, show Nat.blt 1 3 = true from rfl, show Nat.blt 2 3 = true from rfl, show Nat.blt 0 3 = true from rfl]
     refine bH hC (fun a (y : Int × Nat) => [(52, .i a), (50, .own y.2 1 (ls.map encL)), (51, .i (3 : Nat)), (40, .i j), (38, .sl 5 (q.clauses.map encCl)), (39, .i q.clauses.length), (3, .ref (h.length + 1) 0), (4, .i (m + q.clauses.length)), (20, .i i), (18, .sl 3 (p.procs.map encPr)), (19, .i p.procs.length)])
      (fun a (y : Int × Nat) h' => (0 <= y.1 /\ y.1 <= 5000) /\ cnts (ls.take a).flatten z1 1 = (true, y.1) /\ Keep All h h' /\ h'[h.length + 1]? = some (.cells 3 [.i y.1])) 3 ?_ ?_
     ·refine ⟨(z1, h3.length + 1), _, Wk.pick (hk4 _).1 ?_, hz1, rfl, hk4 _, aC o3⟩
      simp [go_sem, hls, encL]
     rintro a ⟨z2, k2⟩ h4 ha3 ⟨hz2, hA, hk5, o4⟩
     simp -implicitDefEqProofs only [go_sem]
     refine aK (fun hlt3 => ?_) (fun hlt3 => ?_)
     ·have hlt3 := aM hlt3
      have hlt3' : a < ls.length := by omega
      have w8 : IntKind.i64.wrap ((a : Int) + 1) = (a : Int) + 1 := aP _ (by omega)
      obtain ⟨lw, ll⟩ := lsw _ (List.getElem_mem hlt3')
      have hta : (ls.take (a + 1)).flatten = (ls.take a).flatten ++ ls[a] := lF hlt3'
      generalize hl : ls[a] = l at *
      have bb : bounds (a : Int) (ls.map encL).length := by simp [bounds]; omega
      simp -implicitDefEqProofs only [go_sem, hlt3, hlt3', aS, hl, encL]
      refine bH hC (fun b (z : Int) => [(58, .i b), (56, .sl 4 (l.map enc)), (57, .i l.length), (52, .i a), (50, .own k2 1 (ls.map encL)), (51, .i (3 : Nat)), (40, .i j), (38, .sl 5 (q.clauses.map encCl)), (39, .i q.clauses.length), (3, .ref (h.length + 1) 0), (4, .i (m + q.clauses.length)), (20, .i i), (18, .sl 3 (p.procs.map encPr)), (19, .i p.procs.length)])
       (fun b (z : Int) h' => (0 <= z /\ z <= 5000) /\ cnts ((ls.take a).flatten ++ l.take b) z1 1 = (true, z) /\ Keep All h h' /\ h'[h.length + 1]? = some (.cells 3 [.i z])) l.length ?_ ?_
      ·refine ⟨z2, h4, Wk.pick hk5.1 ?_, hz2, by rw [List.take_zero, List.append_nil]; exact hA, hk5, o4⟩
       simp [go_sem]
      rintro b z3 h5 hb ⟨hz3, hB, hk6, o5⟩
      simp -implicitDefEqProofs only [go_sem]
      refine aK (fun hlt4 => ?_) (fun hlt4 => ?_)
      ·have hlt4 := aM hlt4
       have w9 : IntKind.i64.wrap ((b : Int) + 1) = (b : Int) + 1 := aP _ (by omega)
       have q94 := h94at (GL := GL) l[b] (kV lw _ (List.getElem_mem hlt4)) z3 1 (by omega) (by omega) (h.length + 1) (h5 ++ [.cells 24 [.v (.int .i64 l[b].kind), .v (.int .i64 l[b].n), .str l[b].s, .sl 4 (l[b].l.map enc)]]) (aC o5)
       have hk7 := hk6.trans (Keep.app All h5 [.cells 24 [.v (.int .i64 l[b].kind), .v (.int .i64 l[b].n), .str l[b].s, .sl 4 (l[b].l.map enc)]])
       simp -implicitDefEqProofs only [go_sem, hlt4, aS]
       refine aR hC q94 fun r h6 ⟨e6, er⟩ => ?_
       subst er
       have hk8 : Keep All h h6 := by rw [e6]; exact hk7.turn _ (aC o5) (Nat.le_add_right _ _)
       rcases hy : l[b].cnt z3 1 with ⟨_ | _, z4⟩
       ·simp -implicitDefEqProofs only [go_sem, Bool.not_false]
        exact fin _ hk8
       ·have hcn : cnts ((ls.take a).flatten ++ l.take (b + 1)) z1 1 = (true, z4) := by
         rw [bD hlt4, <- List.append_assoc, fM, hB]
         simp only [cnts, hy]
        have hz4 := rO hz1.1 hcn
        simp -implicitDefEqProofs only [go_sem, Bool.not_true]
        refine ⟨z4, h6, Wk.pick hk8.1 (by simp [go_sem, w9]), by omega, hcn, hk8, ?_⟩
        rw [e6, hy]
        exact aJ (aC o5)
      ·have hge4 := aL hlt4
       rw [aT hge4] at hB
       simp -implicitDefEqProofs only [go_sem, hlt4]
       exact ⟨(z3, k2), h5, Wk.pick hk6.1 (by simp [go_sem, w8]), hz3, by rw [hta]; exact hB, hk6, o5⟩
     ·have hge3 := aL hlt3
      rw [aT (by omega)] at hA
      have hfl : ls.flatten = c.parts := by rw [hls]; simp [Cl.parts]
      rw [hfl] at hA
      have hx := dX _ _ _ _ hz1.1 hA
      simp -implicitDefEqProofs only [go_sem, hlt3]
      refine ⟨z2, h4, Wk.pick hk5.1 (by simp [go_sem, w7]), hz2, ?_, hk5, o4⟩
      intro c' hc'
      rw [htj, List.mem_append, List.mem_singleton] at hc'
      rcases hc' with hc' | rfl
      ·exact hJ c' hc'
      ·exact ⟨by simp only at hx; omega, hx.2.2⟩
    ·have hge2 := aL hlt2
     rw [aT hge2] at hJ
     simp -implicitDefEqProofs only [go_sem, hlt2]
     refine ⟨(z1, m + q.clauses.length), h3, Wk.pick hk3.1 (by simp [go_sem, w5]), hz1, by simp only at hmm ⊢; omega, ?_, hk3, o3⟩
     intro q' hq'
     rw [hti, List.mem_append, List.mem_singleton] at hq'
     rcases hq' with hq' | rfl
     ·exact hI q' hq'
     ·exact ⟨by omega, hc120, hJ⟩
   ·simp -implicitDefEqProofs only [go_sem]
    exact fin _ ha
  ·simp -implicitDefEqProofs only [go_sem]
   exact fin _ ha
 ·have hge := aL hlt
  rw [aT hge] at hI
  simp -implicitDefEqProofs only [go_sem, hlt]
  exact aY hk2.1 ⟨true, rfl, hk2, fun _ => ⟨hl80, hI⟩⟩
end Go.Rip
