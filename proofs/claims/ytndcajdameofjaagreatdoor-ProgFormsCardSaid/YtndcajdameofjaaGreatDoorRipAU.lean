/- Lists of numbers. -/
import Derived.Test.YtndcajdameofjaaGreatDoorRipAP
import Derived.Test.YtndcajdameofjaaGreatDoorRipAT
import Derived.Test.YtndcajdameofjaaGreatDoorRipAI
namespace Go.Rip
open Go Go.Proofs
variable {GL : Glob}
attribute [local irreducible] Pure
theorem h134 (l : List Int) (s : Int) (hl : l.length < 2 ^ 47) : Pure (PC GL) 134 [.sl 1 (l.map encI), .i s] (.i (idxF (fun x => s == x) l)) := by
 refine k134.pure (by simp) (by simp [go_sem]) (by simp [go_sem]) ?_
 simp -implicitDefEqProofs only [go_sem, c134, r134]
 refine bX hC (fun j => (l.take j).any (fun x => s == x) = false) (fun j => [(8, .i j)]) [7, 0, 1] l.length rfl ?_ ?_
 ·refine Wk.slots (by simp) ?_ ?_ <;> simp [go_sem]
 ·rintro j hj hI
  simp -implicitDefEqProofs only [go_sem]
  refine aG (fun hlt => ?_) (fun hlt => ?_)
  ·have hlt := aI hlt
   have g1 := fV hlt (fun x => s == x)
   have w5 : IntKind.i64.wrap ((j : Int) + 1) = (j : Int) + 1 := aF _ (by omega)
   simp -implicitDefEqProofs only [go_sem, hlt, aP, encI]
   refine aG (fun hx => ?_) (fun hx => ?_)
   ·simp -implicitDefEqProofs only [go_sem, hx]
    refine aD ?_ ?_ <;> simp [go_sem, iS hlt hI hx]
   ·simp -implicitDefEqProofs only [go_sem, hx]
    exact ⟨by rw [g1, hI, hx]; rfl, Wk.slots (by simp) (by simp [go_sem, w5]) (by simp [go_sem])⟩
  ·have hge := aK hlt
   rw [aQ hge] at hI
   simp -implicitDefEqProofs only [go_sem, hlt]
   refine aD ?_ ?_ <;> simp [go_sem, fX hI]
theorem h43 (l : List Int) (s : Int) (hl : l.length < 2 ^ 47) : Pure (PC GL) 43 [.sl 1 (l.map encI), .i s] (.b (l.any fun x => s == x)) := by
 have h := h134 (GL := GL) l s hl
 refine k43.pure (by simp) (by simp [go_sem]) (by simp [go_sem]) ?_
 simp -implicitDefEqProofs only [go_sem, c43, r43]
 repeat' (first | simp -implicitDefEqProofs only [go_sem, *, kZ] | with_reducible refine aU (fun _ => ?_) (fun _ => ?_) | with_reducible refine aV (fun _ => ?_) (fun _ => ?_) | with_reducible refine aG (fun _ => ?_) (fun _ => ?_) | with_reducible refine aD ?_ ?_ | ((with_reducible apply aC hC); (exact h)) | ((with_reducible refine And.intro ?bnd ?_); (case bnd => decide)) | fail)
 all_goals simp_all [go_sem]
theorem h219 (l : List Int) (s : Int) (hl : l.length < 2 ^ 47) : Pure (PC GL) 219 [.sl 1 (l.map encI), .i s] (.b (l.any fun x => x == s)) := by
 refine k219.pure (by simp) (by simp [go_sem]) (by simp [go_sem]) ?_
 simp -implicitDefEqProofs only [go_sem, c219, r219]
 refine bX hC (fun j => (l.take j).any (fun x => x == s) = false) (fun j => [(5, .i j)]) [0, 1, 4] l.length rfl ?_ ?_
 ·refine Wk.slots (by simp) ?_ ?_ <;> simp [go_sem]
 ·rintro j hj hI
  simp -implicitDefEqProofs only [go_sem]
  refine aG (fun hlt => ?_) (fun hlt => ?_)
  ·have hlt := aI hlt
   have g1 := fV hlt (fun x => x == s)
   have w5 : IntKind.i64.wrap ((j : Int) + 1) = (j : Int) + 1 := aF _ (by omega)
   simp -implicitDefEqProofs only [go_sem, hlt, aP, encI]
   refine aG (fun hx => ?_) (fun hx => ?_)
   ·have : (l.any fun x => x == s) = true := List.any_eq_true.2 ⟨_, List.getElem_mem hlt, hx⟩
    simp -implicitDefEqProofs only [go_sem, hx]
    refine aD ?_ ?_ <;> simp [go_sem, this]
   ·simp -implicitDefEqProofs only [go_sem, hx]
    exact ⟨by rw [g1, hI, hx]; rfl, Wk.slots (by simp) (by simp [go_sem, w5]) (by simp [go_sem])⟩
  ·have hge := aK hlt
   rw [aQ hge] at hI
   simp -implicitDefEqProofs only [go_sem, hlt]
   refine aD ?_ ?_ <;> simp [go_sem, hI]
theorem kY {GL : Glob} {x v : AV} {h : List AObj} (e : x = v) : ∃ y h', Wk GL h.length [(0, x)] h [(0, y)] h' /\ h' = h /\ ARes.val y = ARes.val v := ⟨v, h, by rw [e]; exact Wk.refl (Nat.le_refl _), rfl, rfl⟩
theorem h248 (t : Tm) (ht : t.size < 2 ^ 30) : Pure (PC GL) 248 [enc t] (.tup [.i t.size, .i t.deep]) := by
 induction t using bY with
 | _ t ih =>
 rw [bC] at ht
 refine k248.pure (by simp) (by simp [go_sem]) (by simp [go_sem]) ?_
 simp -implicitDefEqProofs only [c248, r248, go_sem]
 refine bX hC (fun _ => True) (fun j => [(13, .i j), (4, .i (1 + sizes (t.l.take j) : Nat)), (5, .i (deeps (t.l.take j) : Nat))]) [11, 12] t.l.length trivial ?_ ?_
 ·refine Wk.slots (by simp) ?_ ?_ <;> simp [go_sem, sizes, deeps]
 ·intro j hj _
  simp -implicitDefEqProofs only [go_sem]
  refine aG (fun hlt => ?_) (fun hlt => ?_)
  ·have hlt := aI hlt
   simp -implicitDefEqProofs only [go_sem, hlt, aP]
   have h1 := bA hlt
   refine aC hC (ih _ (List.getElem_mem hlt) (by omega)) ?_
   simp -implicitDefEqProofs only [go_sem]
   have h2 := bF t.l j
   have h4 := aM t.l
   have h3 := dL (t.l.take j)
   refine Wk.slots (by simp) ?_ ?_ <;> simp (disch := omega) [go_sem, aF, bH hlt, gR hlt, sQ]
   omega
  ·have hge := aK hlt
   have h3 := dL t.l
   simp -implicitDefEqProofs only [go_sem, hlt]
   refine aD ?_ ?_ <;> simp (disch := omega) [go_sem, aF, aQ hge, bC, gE]
   omega
theorem h203 (l : List Tm) (hl : sizes l < 2 ^ 30) : Pure (PC GL) 203 [.sl 4 (l.map enc)] (.i (sizes l)) := by
 have h4 := aM l
 refine k203.pure (by simp) (by simp [go_sem]) (by simp [go_sem]) ?_
 simp -implicitDefEqProofs only [c203, r203, go_sem]
 refine bX hC (fun _ => True) (fun j => [(10, .i j), (3, .i (sizes (l.take j) : Nat))]) [8, 9] l.length trivial ?_ ?_
 ·refine Wk.slots (by simp) ?_ ?_ <;> simp [go_sem, sizes]
 ·intro j hj _
  simp -implicitDefEqProofs only [go_sem]
  refine aG (fun hlt => ?_) (fun hlt => ?_)
  ·have hlt := aI hlt
   simp -implicitDefEqProofs only [go_sem, hlt, aP]
   have h1 := bA hlt
   have h2 := bF l j
   refine aC hC (h248 _ (by omega)) ?_
   simp -implicitDefEqProofs only [go_sem]
   refine Wk.slots (by simp) ?_ ?_ <;> simp (disch := omega) [go_sem, aF, bH hlt]
  ·have hge := aK hlt
   simp -implicitDefEqProofs only [go_sem, hlt]
   refine aD ?_ ?_ <;> simp (disch := omega) [go_sem, aQ hge]
theorem h209 (l : List Tm) (hl : sizes l < 2 ^ 30) : Pure (PC GL) 209 [.sl 4 (l.map enc)] (.i (sizes l)) := by
 have h4 := aM l
 refine k209.pure (by simp) (by simp [go_sem]) (by simp [go_sem]) ?_
 simp -implicitDefEqProofs only [c209, r209, go_sem]
 refine bX hC (fun _ => True) (fun j => [(4, .i j), (3, .i (sizes (l.take j) : Nat))]) [0] l.length trivial ?_ ?_
 ·refine Wk.slots (by simp) ?_ ?_ <;> simp [go_sem, sizes]
 ·intro j hj _
  simp -implicitDefEqProofs only [go_sem]
  refine aG (fun hlt => ?_) (fun hlt => ?_)
  ·have hlt := aI hlt
   simp -implicitDefEqProofs only [go_sem, hlt, aP]
   have h1 := bA hlt
   have h2 := bF l j
   refine aC hC (h184 _ (by omega)) ?_
   simp -implicitDefEqProofs only [go_sem]
   refine Wk.slots (by simp) ?_ ?_ <;> simp (disch := omega) [go_sem, aF, bH hlt]
  ·have hge := aK hlt
   simp -implicitDefEqProofs only [go_sem, hlt]
   refine aD ?_ ?_ <;> simp (disch := omega) [go_sem, aQ hge]
theorem h150 (l : List Int) (f : FuncId) (cap : List AV) (p : Int -> Bool) (h : List AObj) (hl : l.length < 2 ^ 47) (hf : ∀ x ∈ l, PureOn (PC GL) f (.i x :: cap) (.b (p x)) h) : PureOn (PC GL) 150 [.sl 1 (l.map encI), .fn (.func f) [] cap] (.i (idxF p l)) h := by
 refine k150.call (by simp) ?_
 simp -implicitDefEqProofs only [go_sem, c150, r150]
 refine bX hC (fun j => (l.take j).any p = false) (fun j => [(8, .i j)]) [7, 0, 1] l.length rfl ?_ ?_
 ·exact Wk.pick (Nat.le_refl _) (by simp [go_sem])
 ·rintro j hj hI
  simp -implicitDefEqProofs only [go_sem]
  refine aG (fun hlt => ?_) (fun hlt => ?_)
  ·have hlt := aI hlt
   have g1 := fV hlt p
   have w5 : IntKind.i64.wrap ((j : Int) + 1) = (j : Int) + 1 := aF _ (by omega)
   simp -implicitDefEqProofs only [go_sem, hlt, aP, encI]
   refine dU hC (hf _ (List.getElem_mem hlt)) ?_
   simp -implicitDefEqProofs only [go_sem]
   refine aG (fun hx => ?_) (fun hx => ?_)
   ·simp -implicitDefEqProofs only [go_sem, hx]
    exact kY (by rw [iS hlt hI hx])
   ·simp -implicitDefEqProofs only [go_sem, hx]
    exact ⟨by rw [g1, hI, hx]; rfl, Wk.pick (Nat.le_refl _) (by simp [go_sem, w5])⟩
  ·have hge := aK hlt
   rw [aQ hge] at hI
   simp -implicitDefEqProofs only [go_sem, hlt]
   exact kY (by rw [fX hI])
theorem h61 (l : List Int) (f : FuncId) (cap : List AV) (p : Int -> Bool) (h : List AObj) (hl : l.length < 2 ^ 47) (hf : ∀ x ∈ l, PureOn (PC GL) f (.i x :: cap) (.b (p x)) h) : PureOn (PC GL) 61 [.sl 1 (l.map encI), .fn (.func f) [] cap] (.b (l.any p)) h := by
 refine k61.call (by simp) ?_
 simp -implicitDefEqProofs only [go_sem, c61, r61]
 refine dU hC (h150 l f cap p h hl hf) ?_
 simp -implicitDefEqProofs only [go_sem, kZ]
 exact kY rfl
theorem h253 (n : Nat) (hn : n < 2 ^ 40) (h : List AObj) : Gives (PC GL) 253 [.v (.slice none 0 0), .i n] h fun x h' => (n = 0 /\ x = .v (.slice none 0 0) /\ h' = h) ∨ (0 < n /\ ∃ k, x = .own k 4 [] /\ h'[k]? = some (.spare 24 4) /\ Keep All h h') := by
 refine k253.gives (by simp) ?_
 simp -implicitDefEqProofs only [go_sem, c253, r253]
 have e0 : decide ((n : Int) < 0) = false := by simp
 have w0 : IntKind.i64.wrap (0 - ((0 : Nat) : Int)) = 0 := by decide
 have w1 : IntKind.i64.wrap (n : Int) = n := aF _ (by omega)
 simp -implicitDefEqProofs only [go_sem, e0, w0, w1, Int.sub_zero]
 refine aG (fun hlt => ?_) (fun hlt => ?_)
 ·have hn0 : 0 < n := by have := of_decide_eq_true hlt; omega
  simp -implicitDefEqProofs only [go_sem, hlt]
  refine ⟨⟨by omega, by omega⟩, ⟨by simp, by simp, by simp⟩, ?_⟩
  refine aS (by simp) (.inr ⟨hn0, _, rfl, ?_, ?_⟩)
  ·rw [List.append_assoc]; exact aW h _ 1
  ·rw [List.append_assoc]; exact Keep.app _ _ _
 ·have hn0 : n = 0 := by have := of_decide_eq_false hlt; omega
  simp -implicitDefEqProofs only [go_sem, hlt]
  exact aS (Nat.le_refl _) (.inl ⟨hn0, rfl, rfl⟩)
theorem gT (ls : List (List Tm)) (j : Nat) : (ls.take j).flatten.length <= ls.flatten.length := by
 conv => rhs; rw [<- List.take_append_drop j ls, List.flatten_append, List.length_append]
 omega
theorem lT {ls : List (List Tm)} {j : Nat} (h : j < ls.length) : (ls.take (j + 1)).flatten = (ls.take j).flatten ++ ls[j] := by
 rw [bK h, List.flatten_append]; simp
def encT (l : List Tm) : AV := .sl 4 (l.map enc)
theorem free_encT : Free encT := ⟨fun κ a => by simp only [encT, ren, fQ], fun n a => by simp only [encT, bd, iQ]⟩
theorem h218 (ls : List (List Tm)) (hl : ls.flatten.length < 2 ^ 40) (hl2 : ls.length < 2 ^ 40) : Pure (PC GL) 218 [.sl 1 (ls.map encT)] (encT ls.flatten) := by
 have r1 := fun κ => free_encT.rens κ ls
 have r2 := fun n => free_encT.bds n ls
 refine k218.pure (by simp) (by simp [go_sem, r2]) (by rw [free_encT.2]; trivial) ?_
 simp -implicitDefEqProofs only [go_sem, c218, r218]
 refine bX hC (fun _ => True) (fun j => [(11, .i j), (3, .i ((ls.take j).flatten.length : Nat))]) [0, 9, 10] ls.length trivial ?_ ?_
 ·exact Wk.pick (by simp) (by simp [go_sem])
 ·intro j hj _
  have hf := gT ls j
  simp -implicitDefEqProofs only [go_sem]
  refine aG (fun hlt => ?_) (fun hlt => ?_)
  ·have hlt := aI hlt
   have hf2 := gT ls (j + 1)
   have hs := lT hlt
   rw [hs, List.length_append] at hf2
   have w5 : IntKind.i64.wrap ((j : Int) + 1) = (j : Int) + 1 := aF _ (by omega)
   have w6 : IntKind.i64.wrap (((ls.take j).flatten.length : Int) + (ls[j].length : Int)) = ((ls.take (j + 1)).flatten.length : Int) := by rw [aF _ (by omega), hs, List.length_append]; omega
   have w7 : decide (((ls.take (j + 1)).flatten.length : Int) < 0) = false := by simp
   simp -implicitDefEqProofs only [go_sem, hlt, aP, encT, w6, w7, w5]
   exact Wk.pick (by simp) (by simp [go_sem])
  ·have hge := aK hlt
   simp -implicitDefEqProofs only [go_sem, hlt, aQ hge]
   refine aR hC (h253 _ (by omega) _) fun x h' hx => ?_
   simp -implicitDefEqProofs only [go_sem]
   refine aZ hC (fun j a => [(27, .i j), (25, .sl 1 (ls.map encT)), (26, .i ls.length), (6, .own a 4 ((ls.take j).flatten.map enc))]) (fun _ a h => h[a]? = some (.spare 24 4)) ls.length ?_ ?_
   ·rcases hx with ⟨hn, rfl, rfl⟩ | ⟨hn, k, rfl, hk, hK⟩
    ·refine ⟨0, [.spare 24 4], (Wk.own_nil (h := []) 24 4 6 (by simp [go_sem]) (Nat.zero_le _)).trans (Wk.pick (Nat.zero_le _) ?_), rfl⟩
     simp [go_sem]
    ·exact ⟨k, h', Wk.pick (Nat.zero_le _) (by simp [go_sem]), hk⟩
   ·intro j a h'' hj ha
    have hf := gT ls j
    simp -implicitDefEqProofs only [go_sem]
    refine aG (fun hlt => ?_) (fun hlt => ?_)
    ·have hlt := aI hlt
     have hf2 := gT ls (j + 1)
     have hs := lT hlt
     rw [hs, List.length_append] at hf2
     have w5 : IntKind.i64.wrap ((j : Int) + 1) = (j : Int) + 1 := aF _ (by omega)
     simp -implicitDefEqProofs only [go_sem, hlt, aP, encT, ha, w5]
     refine ⟨by show _ <= _; omega, ?_⟩
     exact ⟨_, _, Wk.pick (Nat.zero_le _) (by simp [go_sem, hs]; rfl), by simp [go_sem]⟩
    ·have hge := aK hlt
     simp -implicitDefEqProofs only [go_sem, hlt, aQ hge]
     refine aD (by simp [go_sem, encT]) (by rw [free_encT.2]; trivial)
def Cl.parts (c : Cl) : List Tm := c.head ++ (c.guard ++ c.body)
theorem h140 (c : Cl) (hl : c.parts.length < 2 ^ 40) : Pure (PC GL) 140 [encCl c] (.sl 4 (c.parts.map enc)) := by
 have h := h218 (GL := GL) [c.head, c.guard, c.body] (by simpa [Cl.parts] using hl) (by simp)
 refine k140.pure (by simp) (by simp [go_sem]) (by simp [go_sem]) ?_
 simp -implicitDefEqProofs only [go_sem, c140, r140, encCl]
 refine gX h ?_ ?_
 ·simp [fzs, fzGs, fzG, encT, dZ, <- fB]
 simp -implicitDefEqProofs only [go_sem]
 refine aD ?_ (by simp [go_sem])
 simp [go_sem, encT, Cl.parts]
theorem h60 (c : Cl) (hl : c.parts.length < 2 ^ 40) : Pure (PC GL) 60 [encCl c] (.sl 4 (c.parts.map enc)) := by
 simp only [Cl.parts, List.length_append] at hl
 refine k60.pure (by simp) (by simp [go_sem]) (by simp [go_sem]) ?_
 simp -implicitDefEqProofs only [go_sem, c60, r60, encCl]
 refine ⟨by show _ <= _; omega, by show _ <= _; omega, by show _ <= _; omega, ?_⟩
 refine aD ?_ (by simp [go_sem])
 simp [go_sem, Cl.parts]
theorem h260 (r : Int) : Pure (PC GL) 260 [.v (.int .i32 r)] (.b (decide (r < 32) || decide (126 < r))) := by
 refine k260.pure (by simp) (by simp [go_sem]) (by simp [go_sem]) ?_
 simp -implicitDefEqProofs only [c260, r260, go_sem]
 repeat' (first | simp -implicitDefEqProofs only [go_sem, *] | with_reducible refine aU (fun _ => ?_) (fun _ => ?_) | with_reducible refine aV (fun _ => ?_) (fun _ => ?_) | with_reducible refine aG (fun _ => ?_) (fun _ => ?_) | with_reducible refine aD ?_ ?_ | ((with_reducible refine And.intro ?bnd ?_); (case bnd => decide)) | fail)
 all_goals simp_all
theorem h315x (s : List UInt8) (f : FuncId) (_hs : s.length < 2 ^ 30) (hf : ∀ r, Pure (PC GL) f [.v (.int .i32 r)] (.b (decide (r < 32) || decide (126 < r)))) : Pure (PC GL) 315 [.str s, .fn (.func f) [] [], .b true] (.i (firstBad s)) := by
 refine k315.pure (by simp) (by simp [go_sem]) (by simp [go_sem]) ?_
 simp -implicitDefEqProofs only [go_sem, c315, r315]
 refine s_for hC (fun j => (s.take j).all byteOk = true) (fun _ => [(10, .ref 0 0), (0, .str s), (1, .fn (.func f) [] []), (2, .b true)]) (fun j => [.siter ⟨s.toArray⟩ j]) s.length (by simp) ?_ ?_
 ·refine Wk.slots (by simp) ?_ ?_ <;> simp [go_sem]
 ·intro j hj hI
  simp -implicitDefEqProofs only [go_sem]
  refine nxO_and (fun hlt => ?_) (fun hlt => ?_)
  ·rw [nK] at hlt
   have hlt : j < s.length := Nat.le_of_ble_eq_true hlt
   by_cases hb : byteOk s[j] = true
   ·simp -implicitDefEqProofs only [go_sem, qC hlt hb]
    refine aC hC (hf _) ?_
    have hb' := hb
    simp only [byteOk, Bool.and_eq_true, decide_eq_true_eq] at hb'
    have e : (decide (((s[j]).toNat : Int) < 32) || decide (126 < ((s[j]).toNat : Int))) = false := by simp; omega
    simp -implicitDefEqProofs only [go_sem, e]
    refine ⟨hlt, by rw [cT hlt, hI, hb]; rfl, Wk.slots (by simp) ?_ ?_⟩ <;> simp [go_sem]
   ·have hb : byteOk s[j] = false := by simpa using hb
    have hd := oC hlt hb
    simp -implicitDefEqProofs only [go_sem]
    refine aC hC (hf _) ?_
    have e : (decide (((Utf8.decode ⟨s.toArray⟩ j).1 : Int) < 32) || decide (126 < ((Utf8.decode ⟨s.toArray⟩ j).1 : Int))) = true := by simp; omega
    simp -implicitDefEqProofs only [go_sem, e]
    refine aD ?_ ?_ <;> simp [go_sem, jG hlt hI hb]
  ·rw [nK] at hlt
   have hge : s.length <= j := by
    rcases Nat.lt_or_ge j s.length with h | h
    ·rw [show Nat.blt j s.length = true from Nat.ble_eq_true_of_le h] at hlt; cases hlt
    ·exact h
   rw [aQ hge] at hI
   simp -implicitDefEqProofs only [go_sem]
   refine aD ?_ ?_ <;> simp [go_sem, jK hI]
theorem h301x (s : List UInt8) (f : FuncId) (_hs : s.length < 2 ^ 30) (h : Pure (PC GL) 315 [.str s, .fn (.func f) [] [], .b true] (.i (firstBad s))) : Pure (PC GL) 301 [.str s, .fn (.func f) [] []] (.i (firstBad s)) := by
 refine k301.pure (by simp) (by simp [go_sem]) (by simp [go_sem]) ?_
 simp -implicitDefEqProofs only [c301, r301, go_sem]
 repeat' (first | simp -implicitDefEqProofs only [go_sem, *] | with_reducible refine aU (fun _ => ?_) (fun _ => ?_) | with_reducible refine aV (fun _ => ?_) (fun _ => ?_) | with_reducible refine aG (fun _ => ?_) (fun _ => ?_) | with_reducible refine aD ?_ ?_ | ((with_reducible apply aC hC); (exact h)) | ((with_reducible refine And.intro ?bnd ?_); (case bnd => decide)) | fail)
 all_goals simp_all [go_sem]
theorem h259 (s : List UInt8) (hs : s.length < 2 ^ 30) : Pure (PC GL) 259 [.str s, .fn (.func 260) [] []] (.b (!s.all byteOk)) := by
 have h := h315x (GL := GL) s 260 hs h260
 have h1 := h301x (GL := GL) s 260 hs h
 have e : decide (firstBad s >= 0) = !s.all byteOk := by
  rw [<- kE, Bool.eq_iff_iff]; simp
 refine k259.pure (by simp) (by simp [go_sem]) (by simp [go_sem]) ?_
 simp -implicitDefEqProofs only [c259, r259, go_sem]
 repeat' (first | simp -implicitDefEqProofs only [go_sem, *] | with_reducible refine aU (fun _ => ?_) (fun _ => ?_) | with_reducible refine aV (fun _ => ?_) (fun _ => ?_) | with_reducible refine aG (fun _ => ?_) (fun _ => ?_) | with_reducible refine aD ?_ ?_ | ((with_reducible apply aC hC); (exact h1)) | ((with_reducible refine And.intro ?bnd ?_); (case bnd => decide)) | fail)
 all_goals simp_all [go_sem]
theorem h229 (s : List UInt8) (hs : s.length < 2 ^ 30) : Pure (PC GL) 229 [.str s] (.b (nameOk s)) := by
 have h := h259 (GL := GL) s hs
 refine k229.pure (by simp) (by simp [go_sem]) (by simp [go_sem]) ?_
 simp -implicitDefEqProofs only [go_sem, c229, r229, dge]
 repeat' (first | simp -implicitDefEqProofs only [go_sem, *, dle] | with_reducible refine aU (fun _ => ?_) (fun _ => ?_) | with_reducible refine aV (fun _ => ?_) (fun _ => ?_) | with_reducible refine aG (fun _ => ?_) (fun _ => ?_) | with_reducible refine aD ?_ ?_ | ((with_reducible apply aC hC); (exact h)) | ((with_reducible refine And.intro ?bnd ?_); (case bnd => decide)) | fail)
 all_goals simp_all [go_sem, nameOk]
 all_goals (intros; omega)
mutual
def Tm.pre : Tm -> List Tm
 | .mk k n s l => .mk k n s l :: pres l
def pres : List Tm -> List Tm
 | [] => []
 | t :: r => t.pre ++ pres r
end
theorem iM (t : Tm) : t.pre = t :: pres t.l := by cases t; rfl
theorem kN : ∀ a b, pres (a ++ b) = pres a ++ pres b
 | [], b => rfl
 | x :: r, b => by simp only [List.cons_append, pres, kN r b, List.append_assoc]
theorem dX {l : List Tm} {j : Nat} (h : j < l.length) : pres (l.take (j + 1)) = pres (l.take j) ++ l[j].pre := by
 rw [bK h, kN]; simp [pres]
mutual
theorem wI : ∀ t : Tm, t.pre.length = t.size
 | .mk _ _ _ l => by simp only [Tm.pre, Tm.size, List.length_cons, cE l]
theorem cE : ∀ l, (pres l).length = sizes l
 | [] => rfl
 | t :: r => by simp only [pres, sizes, List.length_append, wI t, cE r]
end
def addV (l : List Int) (t : Tm) : List Int := if t.kind = 1 /\ (l.any fun x => x == t.n) = false then l ++ [t.n] else l
def varsOf (ts : List Tm) : List Int := (pres ts).foldl addV []
theorem kC (l : List Int) (t : Tm) : l.length <= (addV l t).length /\ (addV l t).length <= l.length + 1 := by
 unfold addV; split <;> simp
theorem eD : ∀ (ts : List Tm) (l : List Int), (ts.foldl addV l).length <= l.length + ts.length
 | [], l => by simp
 | t :: r, l => by
  have := eD r (addV l t)
  have := kC l t
  simp only [List.foldl_cons, List.length_cons]; omega
theorem h257 {Φ : List Tm -> List AObj -> Prop} {K : Nat -> AObj -> Prop} (happ : ∀ v h l, Φ v h -> Φ v (h ++ l)) (hK : ∀ v h, Φ v h -> ∀ i cs, h.length <= i -> ¬ K i (.cells 24 cs)) (k N : Nat)
  (hY : ∀ v x h, v.length < N -> Φ v h -> PC GL (.yld k) [enc x] h fun r h' => r = .val (.b true) /\ Φ (v ++ [x]) h' /\ Keep K h h') (t : Tm) (ht : t.size < 2 ^ 30) :
  ∀ v h, v.length + t.size <= N -> Φ v h -> Gives (PC GL) 257 [enc t, .yld k] h fun x h' => x = .b true /\ Φ (v ++ t.pre) h' /\ Keep K h h' := by
 induction t using bY with
 | _ t ih =>
 intro v h hN hv
 have hs := bC t
 have h4 := aM t.l
 refine k257.gives (by simp) ?_
 simp -implicitDefEqProofs only [go_sem, c257, r257]
 refine fC hC (hY v t _ (by omega) (happ _ _ _ hv)) fun r h1 ⟨hr, hv1, hk1⟩ => ?_
 subst hr
 have hb : h1[h.length]? = some (.cells 24 (enc t).cells) := hk1.get (by simp [go_sem]) (hK v h hv _ _ (Nat.le_refl _))
 have hk0 : Keep K h h1 := hk1.left
 simp -implicitDefEqProofs only [go_sem, hb]
 refine aZ hC (fun j _ => [(14, .i j), (12, .sl 4 (t.l.map enc)), (13, .i t.l.length), (1, .yld k)]) (fun j (_ : Unit) h' => Φ (v ++ (t :: pres (t.l.take j))) h' /\ Keep K h h') t.l.length ?_ ?_
 ·exact ⟨(), h1, Wk.pick hk0.1 (by simp [go_sem]), by simpa [pres] using hv1, hk0⟩
 ·rintro j - h2 hj ⟨hv2, hk2⟩
  simp -implicitDefEqProofs only [go_sem]
  refine aG (fun hlt => ?_) (fun hlt => ?_)
  ·have hlt := aI hlt
   have g1 := bA hlt
   have g2 := bF t.l (j + 1)
   have g3 := bH hlt
   have w5 : IntKind.i64.wrap ((j : Int) + 1) = (j : Int) + 1 := aF _ (by omega)
   simp -implicitDefEqProofs only [go_sem, hlt, aP]
   refine aR hC (ih _ (List.getElem_mem hlt) (by omega) (v ++ (t :: pres (t.l.take j))) _ (by simp only [List.length_append, List.length_cons, cE]; omega) (happ _ _ _ hv2)) fun x h3 ⟨hx, hv3, hk3⟩ => ?_
   subst hx
   have hk4 : Keep K h h3 := hk2.trans hk3.left
   simp -implicitDefEqProofs only [go_sem]
   exact ⟨(), h3, Wk.pick hk4.1 (by simp [go_sem, w5]), by rw [dX hlt]; simpa using hv3, hk4⟩
  ·have hge := aK hlt
   rw [aQ hge] at hv2
   simp -implicitDefEqProofs only [go_sem, hlt]
   exact aS hk2.1 ⟨rfl, by rw [iM]; exact hv2, hk2⟩
theorem g256 {Φ : List Tm -> List AObj -> Prop} {K : Nat -> AObj -> Prop} (happ : ∀ v h l, Φ v h -> Φ v (h ++ l)) (hK : ∀ v h, Φ v h -> ∀ i cs, h.length <= i -> ¬ K i (.cells 24 cs)) (k N : Nat)
  (hY : ∀ v x h, v.length < N -> Φ v h -> PC GL (.yld k) [enc x] h fun r h' => r = .val (.b true) /\ Φ (v ++ [x]) h' /\ Keep K h h') (t : Tm) (ht : t.size < 2 ^ 30)
  (v : List Tm) (h : List AObj) (b : Nat) (hN : v.length + t.size <= N) (hv : Φ v h) (hb : h[b]? = some (.cells 24 (enc t).cells)) : PC GL (.gen 256) [.yld k, .ref b 0] h fun r h' => (∃ x, r = .val x) /\ Φ (v ++ t.pre) h' /\ Keep K h h' := by
 refine k256.gen (by simp) ?_
 simp -implicitDefEqProofs only [go_sem, c256, r256, hb]
 refine aR hC (h257 happ hK k N hY t ht v _ hN hv) fun x h3 ⟨hx, hv3, hk3⟩ => ?_
 simp -implicitDefEqProofs only [go_sem]
 exact ⟨_, h3, Wk.refl hk3.1, ⟨_, rfl⟩, hv3, hk3⟩
theorem h223 (t : Tm) (h : List AObj) : Gives (PC GL) 223 [enc t] h fun x h' => x = .fn (.func 256) [] [.ref h.length 0] /\ h' = h ++ [.cells 24 (enc t).cells] := by
 refine k223.gives (by simp) ?_
 simp -implicitDefEqProofs only [go_sem, c223, r223]
 exact aS (by simp) ⟨rfl, rfl⟩
def VarsAt (v : List Tm) (h : List AObj) : Prop := ∃ cv, h[0]? = some (.cells 61 [cv]) /\ h[1]? = some (.map ((v.foldl addV []).map encI) ((v.foldl addV []).map fun _ => .b true)) /\ h[2]? = some (.cells 288 [.mp 1]) /\
 ((v.foldl addV [] = [] /\ cv = .v (.slice none 0 0)) ∨ ∃ j, 2 < j /\ cv = .own j 1 ((v.foldl addV []).map encI) /\ h[j]? = some (.spare 3 1))
def VarsK (i : Nat) (o : AObj) : Prop := i < 2 ∨ o = .spare 3 1
def idxI (s : Int) : List Int -> Option Nat
 | [] => none
 | k :: r => if s = k then some 0 else (idxI s r).map (· + 1)
theorem fJ (s : Int) : ∀ ks : List Int, findA (.one (.int .i64)) (.v (.int .i64 s)) (ks.map encI) = some (idxI s ks)
 | [] => by simp [findA, eqKQ, eqAV, idxI]
 | k :: r => by
  simp only [List.map_cons, findA, fJ s r, idxI, encI, eqKQ, eqAV, and_self, if_true]
  by_cases h : s = k
  ·simp [h]
  ·have : (s == k) = false := by simpa using h
   simp [h, this]
theorem qI {s : Int} : ∀ {ks : List Int}, (ks.any fun x => x == s) = false -> idxI s ks = none
 | [], _ => rfl
 | k :: r, h => by
  simp only [List.any_cons, Bool.or_eq_false_iff, beq_eq_false_iff_ne] at h
  simp [idxI, Ne.symm h.1, qI h.2]
theorem pS {s : Int} : ∀ {ks : List Int}, (ks.any fun x => x == s) = true -> ∃ i, idxI s ks = some i /\ i < ks.length
 | k :: r, h => by
  by_cases he : s = k
  ·exact ⟨0, by simp [idxI, he], by simp⟩
  ·simp only [List.any_cons, Bool.or_eq_true, beq_iff_eq] at h
   obtain ⟨i, h1, h2⟩ := pS (h.resolve_left (Ne.symm he))
   exact ⟨i + 1, by simp [idxI, he, h1], by simpa using h2⟩
theorem VarsAt.app {v : List Tm} {h l : List AObj} (hv : VarsAt v h) : VarsAt v (h ++ l) := by
 obtain ⟨cv, h0, h1, h2, h3⟩ := hv
 refine ⟨cv, aE h0, aE h1, aE h2, ?_⟩
 rcases h3 with h3 | ⟨j, a, b, c⟩
 ·exact .inl h3
 ·exact .inr ⟨j, a, b, aE c⟩
theorem kA (v : List Tm) (x : Tm) : (v ++ [x]).foldl addV [] = addV (v.foldl addV []) x := by simp
theorem y249 {τ : List (Nat × AV)} (h3 : tget τ 3 = .ref 0 0) (h4 : tget τ 4 = .ref 2 0) (k : Nat) (hk : 2 < k) (v : List Tm) (x : Tm) (h : List AObj) (hN : v.length < 2 ^ 32) (hv : VarsAt v h)
  (hl : h[k]? = some (.loop τ 38 [17] (rfAt Tryz.prog Tryz.f249 0).1 (rfAt Tryz.prog Tryz.f249 0).2 .ready none)) :
  PC GL (.yld k) [enc x] h fun r h' => r = .val (.b true) /\ VarsAt (v ++ [x]) h' /\ Keep VarsK h h' := by
 obtain ⟨cv, o0, o1, o2, o3⟩ := hv
 have hn := eD v []
 refine ayieldP hl kra249_0 krb249_0 rfl rfl rfl rfl ?_
 have hl' := fun l => aE (l := l) hl
 simp -implicitDefEqProofs only [go_sem, ra249_0, hl']
 rw [aJ hl]
 generalize hB : h.set k (AObj.loop τ 38 [17] (rfAt Tryz.prog Tryz.f249 0).1 (rfAt Tryz.prog Tryz.f249 0).2 LoopState.busy none) = hb
 have q0 : hb[0]? = some (.cells 61 [cv]) := by rw [<- hB, aN (by omega)]; exact o0
 have q1 : hb[1]? = some (.map ((v.foldl addV []).map encI) ((v.foldl addV []).map fun _ => .b true)) := by rw [<- hB, aN (by omega)]; exact o1
 have q2 : hb[2]? = some (.cells 288 [.mp 1]) := by rw [<- hB, aN (by omega)]; exact o2
 have qk : hb[k]? = some (.loop τ 38 [17] (rfAt Tryz.prog Tryz.f249 0).1 (rfAt Tryz.prog Tryz.f249 0).2 .busy none) := by rw [<- hB]; exact aL hl
 have hlen : h.length = hb.length := by rw [<- hB]; simp
 have q0' := fun l => aE (l := l) q0
 have q1' := fun l => aE (l := l) q1
 have q2' := fun l => aE (l := l) q2
 have qk' := fun l => aE (l := l) qk
 rw [hlen]
 have hv0 : VarsAt v h := ⟨cv, o0, o1, o2, o3⟩
 have l0 := aX q0
 have l1 := aX q1
 have l2 := aX q2
 have lk := aX qk
 -- nothing is added
 have same : ∀ cs, (v ++ [x]).foldl addV [] = v.foldl addV [] -> ∃ h', Wk GL hb.length [] ((hb ++ [AObj.cells 24 cs]).set k (AObj.loop τ 38 [17] (rfAt Tryz.prog Tryz.f249 0).1 (rfAt Tryz.prog Tryz.f249 0).2 LoopState.ready none)) [] h' /\
   VarsAt (v ++ [x]) h' /\ Keep VarsK h h' := fun cs e1 => by
  refine ⟨_, Wk.refl (by simp), ?_⟩
  rw [aJ qk, <- hB, uT hl]
  refine ⟨?_, Keep.app _ _ _⟩
  have := hv0.app (l := [AObj.cells 24 cs])
  unfold VarsAt at this ⊢
  rw [e1]; exact this
 by_cases hx : x.kind = 1
 ·have e : (x.kind == 1) = true := by simpa using hx
  rcases hb2 : (v.foldl addV []).any fun y => y == x.n with _ | _
  ·have hi := qI hb2
   have e1 : (v ++ [x]).foldl addV [] = v.foldl addV [] ++ [x.n] := by rw [kA, addV, if_pos ⟨hx, hb2⟩]
   have ne1 : ¬ (1 = k) := by omega
   have ne0 : ¬ (0 = k) := by omega
   have kh : ∀ (M C o1 o2 : AObj) (l : List AObj) (i : Nat) (o : AObj), h[i]? = some o -> ¬ VarsK i o -> ((((hb.set 1 M).set 0 C).set k (AObj.loop τ 38 [17] (rfAt Tryz.prog Tryz.f249 0).1 (rfAt Tryz.prog Tryz.f249 0).2 LoopState.ready none)) ++ l)[i]? = some o := fun M C o1 o2 l i o hio hn => by
    have hi := aX hio
    rw [hlen] at hi
    rw [List.getElem?_append_left (by simpa using hi)]
    by_cases e : k = i
    ·subst e
     rw [hl] at hio
     cases hio
     rw [List.getElem?_set_self (by simpa using hi)]
    ·rw [List.getElem?_set_ne e, List.getElem?_set_ne (by rintro rfl; exact hn (.inl (by omega))), List.getElem?_set_ne (by rintro rfl; exact hn (.inl (by omega))), <- hB, List.getElem?_set_ne e]
     exact hio
   rcases o3 with ⟨ov, rfl⟩ | ⟨j, hj, rfl, oj⟩
   ·simp -implicitDefEqProofs only [go_sem, rb249_0, e, h3, h4, q0, q1, q2, qk, fJ, hi, set_lt, rU, cX, List.getElem?_set_ne, List.length_set, Nat.sub_self, Nat.le_refl, ne_eq, not_false_eq_true, l0, l1, l2, lk, ne1, ne0, Nat.one_ne_zero, kB, List.append_assoc]
    refine ⟨by decide, _, Wk.refl (by simp), ?_, by simp; omega, kh _ _ .dead .dead _⟩
    unfold VarsAt
    rw [e1, ov]
    have ne2 : ¬ (k = 2) := by omega
    have ne1' : ¬ (k = 1) := by omega
    have ne0' : ¬ (k = 0) := by omega
    refine ⟨.own (hb.length + 2) 1 [.i x.n], ?_, ?_, ?_, .inr ⟨hb.length + 2, by omega, rfl, ?_⟩⟩
    ·simp [List.length_set, ne_eq, not_false_eq_true, l0, ne0']
    ·simp [List.length_set, ne_eq, not_false_eq_true, l1, ne1', encI]
    ·rw [rU (by simpa using l2), aN ne2, aN (by omega), aN (by omega)]; exact q2
    ·simp [List.length_set, Nat.add_sub_cancel_left, Nat.le_add_right]
   ·have jk : ¬ (j = k) := by rintro rfl; rw [hl] at oj; cases oj
    have kj : ¬ (k = j) := fun e => jk e.symm
    have qj : hb[j]? = some (.spare 3 1) := by rw [<- hB, aN kj]; exact oj
    have lj := aX qj
    have n1j : ¬ (1 = j) := by omega
    have nj1 : ¬ (j = 1) := by omega
    have nj0 : ¬ (j = 0) := by omega
    have n2j : ¬ (j = 2) := by omega
    simp -implicitDefEqProofs only [go_sem, rb249_0, e, h3, h4, q0, q1, q2, qk, qj, fJ, hi, set_lt, rU, cX, List.getElem?_set_ne, List.length_set, Nat.sub_self, Nat.le_refl, ne_eq, not_false_eq_true, l0, l1, l2, lk, lj, n1j, nj0, jk, ne1, ne0, Nat.one_ne_zero, kB, List.append_assoc]
    have hn' := hn
    simp only [List.length_nil, Nat.zero_add] at hn'
    refine ⟨by omega, _, Wk.refl (by simp), ?_, by simp; omega, fun i o hio hno => ?_⟩
    ·unfold VarsAt
     rw [e1]
     have ne2 : ¬ (k = 2) := by omega
     have ne1' : ¬ (k = 1) := by omega
     have ne0' : ¬ (k = 0) := by omega
     refine ⟨.own (hb.length + 2) 1 ((v.foldl addV [] ++ [x.n]).map encI), ?_, ?_, ?_, .inr ⟨hb.length + 2, by omega, rfl, ?_⟩⟩
     ·simp [List.length_set, ne_eq, not_false_eq_true, l0, ne0', encI]
     ·simp [List.length_set, ne_eq, not_false_eq_true, l1, ne1', nj1, encI]
     ·rw [rU (by simpa using l2), aN ne2, aN (by omega), aN n2j, aN (by omega)]; exact q2
     ·simp [List.length_set, Nat.add_sub_cancel_left, Nat.le_add_right]
    ·have ji : ¬ (j = i) := by rintro rfl; rw [oj] at hio; cases hio; exact hno (.inr rfl)
     have hi := aX hio
     rw [hlen] at hi
     rw [List.getElem?_append_left (by simpa using hi)]
     by_cases e : k = i
     ·subst e
      rw [hl] at hio
      cases hio
      rw [List.getElem?_set_self (by simpa using hi)]
     ·rw [List.getElem?_set_ne e, List.getElem?_set_ne (by rintro rfl; exact hno (.inl (by omega))), List.getElem?_set_ne ji, List.getElem?_set_ne (by rintro rfl; exact hno (.inl (by omega))), <- hB, List.getElem?_set_ne e]
      exact hio
  ·obtain ⟨i, hi, hi2⟩ := pS hb2
   have e1 : (v ++ [x]).foldl addV [] = v.foldl addV [] := by rw [kA, addV, if_neg (by simp [hb2])]
   have e2 : ((v.foldl addV []).map fun _ => AV.b true).getD i .any = .b true := by simp [List.getD, hi2]
   simp -implicitDefEqProofs only [go_sem, rb249_0, e, h4, q1', q2', fJ, hi, e2, qk']
   exact same _ e1
 ·have e : (x.kind == 1) = false := by simpa using hx
  have e1 : (v ++ [x]).foldl addV [] = v.foldl addV [] := by rw [kA, addV, if_neg (by simp [hx])]
  simp -implicitDefEqProofs only [go_sem, rb249_0, e, qk']
  exact same _ e1
theorem VarsAt.kill {v : List Tm} {h : List AObj} (hv : VarsAt v h) {k : Nat} {o : AObj} (hk : 2 < k) (ho : h[k]? = some o) (hn : o ≠ .spare 3 1) : VarsAt v (h.set k .dead) := by
 obtain ⟨cv, h0, h1, h2, h3⟩ := hv
 refine ⟨cv, by rw [aN (by omega)]; exact h0, by rw [aN (by omega)]; exact h1, by rw [aN (by omega)]; exact h2, ?_⟩
 rcases h3 with h3 | ⟨j, a, b, c⟩
 ·exact .inl h3
 ·refine .inr ⟨j, a, b, ?_⟩
  rw [aN (by rintro rfl; rw [ho] at c; exact hn (Option.some.inj c))]
  exact c
theorem range249 (τ : List (Nat × AV)) (h3 : tget τ 3 = .ref 0 0) (h4 : tget τ 4 = .ref 2 0) (t : Tm) (ht : t.size < 2 ^ 30) (h : List AObj) (v : List Tm) (c : AObj) (hl : 2 < h.length) (hv : VarsAt v h) (hN : v.length + t.size <= 2 ^ 32) {R : ARes -> List AObj -> Prop}
  (hR : ∀ x h', VarsAt (v ++ t.pre) h' -> h'[h.length + 2]? = some (.loop τ 38 [17] (rfAt Tryz.prog Tryz.f249 0).1 (rfAt Tryz.prog Tryz.f249 0).2 .ready none) -> R (.val x) h') :
  PC GL (.gen 256) [.yld (h.length + 2), .ref (h.length + 1) 0] (h ++ [c, .cells 24 [.v (.int .i64 t.kind), .v (.int .i64 t.n), .str t.s, .sl 4 (t.l.map enc)], .loop τ 38 [17] (rfAt Tryz.prog Tryz.f249 0).1 (rfAt Tryz.prog Tryz.f249 0).2 .ready none]) R := by
 refine fC hC (g256 (Φ := fun v h' => VarsAt v h' /\ h'[h.length + 2]? = some (.loop τ 38 [17] (rfAt Tryz.prog Tryz.f249 0).1 (rfAt Tryz.prog Tryz.f249 0).2 .ready none)) (K := fun i o => (i < 2 ∨ o = .spare 3 1)) (fun v h' l' e => ⟨e.1.app, aE e.2⟩)
  ?_ (h.length + 2) (2 ^ 32) (fun v x h' hN e => fC hC (y249 h3 h4 (h.length + 2) (by omega) v x h' hN e.1 e.2) fun r h'' q => ⟨q.1, ⟨q.2.1, q.2.2.get e.2 ?_⟩, q.2.2⟩) t ht v _ (h.length + 1) hN ⟨hv.app, ?_⟩ ?_) fun r h2 q => ?_
 ·rintro v h' ⟨⟨cv, q0, q1, q2, q3⟩, q4⟩ i cs hi (e | e)
  ·have := aX q2; omega
  ·cases e
 ·rintro (e | e)
  ·omega
  ·cases e
 ·exact aW h _ 2
 ·rw [gA]; exact aW h _ 1
 ·obtain ⟨⟨x, rfl⟩, ⟨hv2, hl2⟩, -⟩ := q
  exact hR x h2 hv2 hl2
theorem h249 (l : List Tm) (hl : sizes l < 2 ^ 30) : Pure (PC GL) 249 [.sl 4 (l.map enc)] (.sl 1 ((varsOf l).map encI)) := by
 have h4 := aM l
 refine k249.pure (by simp) (by simp [go_sem]) (by simp [go_sem]) ?_
 simp -implicitDefEqProofs only [c249, r249, go_sem]
 refine aZ hC (fun j _ => [(11, .i j), (9, .sl 4 (l.map enc)), (10, .i l.length), (3, .ref 0 0), (4, .ref 2 0)]) (fun j (_ : Unit) h => VarsAt (pres (l.take j)) h) l.length ?_ ?_
 ·refine ⟨(), _, Wk.pick (Nat.zero_le _) (by simp [go_sem]), ?_⟩
  exact ⟨.v (.slice none 0 0), rfl, rfl, rfl, .inl ⟨rfl, rfl⟩⟩
 ·rintro j - h hj hv
  have h2l : 2 < h.length := by obtain ⟨_, _, _, q, _⟩ := hv; exact aX q
  have hv3 := hv
  obtain ⟨cv, o0, o1, o2, o3⟩ := hv3
  simp -implicitDefEqProofs only [go_sem]
  refine aG (fun hlt => ?_) (fun hlt => ?_)
  ·have hlt := aI hlt
   have g1 := bA hlt
   have g2 := bF l (j + 1)
   have g3 := bH hlt
   have w5 : IntKind.i64.wrap ((j : Int) + 1) = (j : Int) + 1 := aF _ (by omega)
   simp -implicitDefEqProofs only [go_sem, hlt, aP]
   refine aR hC (h223 _ _) fun x h1 ⟨hx, hh⟩ => ?_
   subst hx; subst hh
   simp -implicitDefEqProofs only [go_sem, List.append_assoc]
   refine range249 _ (by simp [go_sem]) (by simp [go_sem]) l[j] (by omega) h (pres (l.take j)) _ h2l hv (by rw [cE]; omega) fun x h2 hv2 hl2 => ?_
   simp -implicitDefEqProofs only [go_sem, hl2]
   exact ⟨(), _, Wk.pick (Nat.zero_le _) (by simp [go_sem, w5]), by rw [dX hlt]; exact hv2.kill (by omega) hl2 (by simp)⟩
  ·have hge := aK hlt
   rw [aQ hge] at hv
   obtain ⟨cv, o0, o1, o2, o3⟩ := hv
   simp -implicitDefEqProofs only [go_sem, hlt, o0]
   refine aD ?_ (by simp [go_sem])
   rcases o3 with ⟨ov, rfl⟩ | ⟨k, -, rfl, -⟩
   ·rw [varsOf, ov]; simp [go_sem]
   ·simp [go_sem, varsOf]
theorem h149 (t : Tm) (ht : t.size < 2 ^ 30) : ∀ (l : List Int) (k : Nat) (h : List AObj), l.length + t.size < 2 ^ 40 -> h[k]? = some (.spare 3 1) ->
  Gives (PC GL) 149 [enc t, .own k 1 (l.map encI)] h fun x h' => ∃ k', x = .own k' 1 ((t.pre.foldl addV l).map encI) /\ h'[k']? = some (.spare 3 1) /\ (k' = k ∨ h.length <= k') /\ Keep (fun i _ => i = k) h h' := by
 induction t using bY with
 | _ t ih =>
 intro l k h hl hk
 have hs := bC t
 have h4 := aM t.l
 have hkl := aX hk
 have hk' := fun l => aE (l := l) hk
 have sk' := fun o l => aJ (l := l) hk o
 have init : ∀ τ h1 k0 (l0 : List Int), l0 = addV l t -> tget τ 1 = .own k0 1 (l0.map encI) -> tget τ 2 = .ref h.length 0 -> tget τ 5 = .i 0 -> h1[k0]? = some (.spare 3 1) -> h1[h.length]? = some (.cells 24 [.v (.int .i64 t.kind), .v (.int .i64 t.n), .str t.s, .sl 4 (t.l.map enc)]) -> (k0 = k ∨ h.length <= k0) -> Keep (fun i _ => i = k) h h1 ->
   ∃ a h', Wk GL h.length τ h1 [(5, .i (0 : Nat)), (1, .own a 1 (((pres (t.l.take 0)).foldl addV (addV l t)).map encI)), (2, .ref h.length 0)] h' /\ h'[a]? = some (.spare 3 1) /\ h'[h.length]? = some (.cells 24 [.v (.int .i64 t.kind), .v (.int .i64 t.n), .str t.s, .sl 4 (t.l.map enc)]) /\ (a = k ∨ h.length <= a) /\ Keep (fun i _ => i = k) h h' := by
  rintro τ h1 k0 l0 rfl e1 e2 e5 q1 q2 q3 q4
  exact ⟨k0, h1, Wk.pick q4.1 (by simp [go_sem, e1, e2, e5, pres]), q1, q2, q3, q4⟩
 refine k149.gives (by simp) ?_
 simp -implicitDefEqProofs only [go_sem, c149, r149]
 by_cases hx : t.kind = 1
 ·have e : (t.kind == 1) = true := by simpa using hx
  simp -implicitDefEqProofs only [go_sem, e]
  refine gX (h219 l t.n (by omega)) (by simp [fzs, fzGs, fzG, lC, encI]) ?_
  rcases hb2 : l.any fun y => y == t.n with _ | _
  ·have e1 : l ++ [t.n] = addV l t := by rw [addV, if_pos ⟨hx, hb2⟩]
   simp -implicitDefEqProofs only [go_sem, hk', sk', List.append_assoc]
   refine ⟨by simp only [List.length_cons, List.length_nil]; omega, ?_⟩
   refine aZ hC (fun j a => [(5, .i j), (1, .own a 1 (((pres (t.l.take j)).foldl addV (addV l t)).map encI)), (2, .ref h.length 0)]) (fun j a h' => h'[a]? = some (.spare 3 1) /\ h'[h.length]? = some (.cells 24 [.v (.int .i64 t.kind), .v (.int .i64 t.n), .str t.s, .sl 4 (t.l.map enc)]) /\ (a = k ∨ h.length <= a) /\ Keep (fun i _ => i = k) h h') t.l.length (init _ _ (h.length + 2) _ e1 (by simp [go_sem, encI]) (by simp [go_sem]) (by simp [go_sem]) ?_ ?_ ?_ ?_) fun j a h2 hj ⟨ha, hb, hak, hkk⟩ => ?_
   ·rw [cX (by simp)]; simp
   ·rw [cX (by simp)]; simp
   ·right; omega
   ·exact (Keep.set _ hk rfl).trans (Keep.app _ _ _)
   ·simp -implicitDefEqProofs only [go_sem, hb]
    refine aG (fun hlt => ?_) (fun hlt => ?_)
    ·have hlt := aI hlt
     have g1 := bA hlt
     have g2 := bF t.l (j + 1)
     have g3 := bH hlt
     have g4 := eD (pres (t.l.take j)) (addV l t)
     have g5 := cE (t.l.take j)
     have g6 := kC l t
     have w5 : IntKind.i64.wrap ((j : Int) + 1) = (j : Int) + 1 := aF _ (by omega)
     have hne : h.length ≠ a := fun e => by rw [<- e, hb] at ha; cases ha
     simp -implicitDefEqProofs only [go_sem, hb, hlt, aP]
     refine aR hC (ih _ (List.getElem_mem hlt) (by omega) ((pres (t.l.take j)).foldl addV (addV l t)) a h2 (by omega) ha) fun x h3 ⟨a', hx, ha', hak', hk3⟩ => ?_
     subst hx
     have hk4 : Keep (fun i _ => i = k) h h3 := hkk.trans' hk3 fun i o hi e => by
      have := aX hi
      rcases hak with q | q
      ·rw [e, q]
      ·omega
     simp -implicitDefEqProofs only [go_sem]
     refine ⟨a', h3, Wk.pick hk4.1 (by simp [go_sem, w5, dX hlt]), ha', hk3.get hb hne, ?_, hk4⟩
     have := hkk.1
     rcases hak' with q | q
     ·rw [q]; exact hak
     ·right; omega
    ·have hge := aK hlt
     simp -implicitDefEqProofs only [go_sem, hlt, aQ hge]
     exact aS hkk.1 ⟨a, by rw [iM]; rfl, ha, hak, hkk⟩
  ·have e1 : l = addV l t := by rw [addV, if_neg (by simp [hb2])]
   simp -implicitDefEqProofs only [go_sem]
   refine aZ hC (fun j a => [(5, .i j), (1, .own a 1 (((pres (t.l.take j)).foldl addV (addV l t)).map encI)), (2, .ref h.length 0)]) (fun j a h' => h'[a]? = some (.spare 3 1) /\ h'[h.length]? = some (.cells 24 [.v (.int .i64 t.kind), .v (.int .i64 t.n), .str t.s, .sl 4 (t.l.map enc)]) /\ (a = k ∨ h.length <= a) /\ Keep (fun i _ => i = k) h h') t.l.length (init _ _ _ _ e1 (by simp [go_sem]) (by simp [go_sem]) (by simp [go_sem]) (hk' _) (by simp [go_sem]) (.inl rfl) (Keep.app _ _ _)) fun j a h2 hj ⟨ha, hb, hak, hkk⟩ => ?_
   ·simp -implicitDefEqProofs only [go_sem, hb]
    refine aG (fun hlt => ?_) (fun hlt => ?_)
    ·have hlt := aI hlt
     have g1 := bA hlt
     have g2 := bF t.l (j + 1)
     have g3 := bH hlt
     have g4 := eD (pres (t.l.take j)) (addV l t)
     have g5 := cE (t.l.take j)
     have g6 := kC l t
     have w5 : IntKind.i64.wrap ((j : Int) + 1) = (j : Int) + 1 := aF _ (by omega)
     have hne : h.length ≠ a := fun e => by rw [<- e, hb] at ha; cases ha
     simp -implicitDefEqProofs only [go_sem, hb, hlt, aP]
     refine aR hC (ih _ (List.getElem_mem hlt) (by omega) ((pres (t.l.take j)).foldl addV (addV l t)) a h2 (by omega) ha) fun x h3 ⟨a', hx, ha', hak', hk3⟩ => ?_
     subst hx
     have hk4 : Keep (fun i _ => i = k) h h3 := hkk.trans' hk3 fun i o hi e => by
      have := aX hi
      rcases hak with q | q
      ·rw [e, q]
      ·omega
     simp -implicitDefEqProofs only [go_sem]
     refine ⟨a', h3, Wk.pick hk4.1 (by simp [go_sem, w5, dX hlt]), ha', hk3.get hb hne, ?_, hk4⟩
     have := hkk.1
     rcases hak' with q | q
     ·rw [q]; exact hak
     ·right; omega
    ·have hge := aK hlt
     simp -implicitDefEqProofs only [go_sem, hlt, aQ hge]
     exact aS hkk.1 ⟨a, by rw [iM]; rfl, ha, hak, hkk⟩
 ·have e : (t.kind == 1) = false := by simpa using hx
  have e1 : l = addV l t := by rw [addV, if_neg (by simp [hx])]
  simp -implicitDefEqProofs only [go_sem, e]
  refine aZ hC (fun j a => [(5, .i j), (1, .own a 1 (((pres (t.l.take j)).foldl addV (addV l t)).map encI)), (2, .ref h.length 0)]) (fun j a h' => h'[a]? = some (.spare 3 1) /\ h'[h.length]? = some (.cells 24 [.v (.int .i64 t.kind), .v (.int .i64 t.n), .str t.s, .sl 4 (t.l.map enc)]) /\ (a = k ∨ h.length <= a) /\ Keep (fun i _ => i = k) h h') t.l.length (init _ _ _ _ e1 (by simp [go_sem]) (by simp [go_sem]) (by simp [go_sem]) (hk' _) (by simp [go_sem]) (.inl rfl) (Keep.app _ _ _)) fun j a h2 hj ⟨ha, hb, hak, hkk⟩ => ?_
  ·simp -implicitDefEqProofs only [go_sem, hb]
   refine aG (fun hlt => ?_) (fun hlt => ?_)
   ·have hlt := aI hlt
    have g1 := bA hlt
    have g2 := bF t.l (j + 1)
    have g3 := bH hlt
    have g4 := eD (pres (t.l.take j)) (addV l t)
    have g5 := cE (t.l.take j)
    have g6 := kC l t
    have w5 : IntKind.i64.wrap ((j : Int) + 1) = (j : Int) + 1 := aF _ (by omega)
    have hne : h.length ≠ a := fun e => by rw [<- e, hb] at ha; cases ha
    simp -implicitDefEqProofs only [go_sem, hb, hlt, aP]
    refine aR hC (ih _ (List.getElem_mem hlt) (by omega) ((pres (t.l.take j)).foldl addV (addV l t)) a h2 (by omega) ha) fun x h3 ⟨a', hx, ha', hak', hk3⟩ => ?_
    subst hx
    have hk4 : Keep (fun i _ => i = k) h h3 := hkk.trans' hk3 fun i o hi e => by
     have := aX hi
     rcases hak with q | q
     ·rw [e, q]
     ·omega
    simp -implicitDefEqProofs only [go_sem]
    refine ⟨a', h3, Wk.pick hk4.1 (by simp [go_sem, w5, dX hlt]), ha', hk3.get hb hne, ?_, hk4⟩
    have := hkk.1
    rcases hak' with q | q
    ·rw [q]; exact hak
    ·right; omega
   ·have hge := aK hlt
    simp -implicitDefEqProofs only [go_sem, hlt, aQ hge]
    exact aS hkk.1 ⟨a, by rw [iM]; rfl, ha, hak, hkk⟩
theorem h59 (l : List Tm) (hl : sizes l < 2 ^ 30) : Pure (PC GL) 59 [.sl 4 (l.map enc)] (.sl 1 ((varsOf l).map encI)) := by
 have h4 := aM l
 refine k59.pure (by simp) (by simp [go_sem]) (by simp [go_sem]) ?_
 simp -implicitDefEqProofs only [c59, r59, go_sem]
 refine aZ hC (fun j a => [(4, .i j), (3, .own a 1 (((pres (l.take j)).foldl addV []).map encI)), (0, .sl 4 (l.map enc))]) (fun _ a h => h[a]? = some (.spare 3 1)) l.length ?_ fun j a h hj ha => ?_
 ·refine ⟨0, [.spare 3 1], (Wk.own_nil (h := []) 3 1 3 (by simp [go_sem]) (Nat.zero_le _)).trans (Wk.pick (Nat.zero_le _) ?_), rfl⟩
  simp [go_sem, pres]
 ·simp -implicitDefEqProofs only [go_sem]
  refine aG (fun hlt => ?_) (fun hlt => ?_)
  ·have hlt := aI hlt
   have g1 := bA hlt
   have g2 := bF l (j + 1)
   have g3 := bH hlt
   have g4 := eD (pres (l.take j)) []
   have g5 := cE (l.take j)
   simp only [List.length_nil] at g4
   have w5 : IntKind.i64.wrap ((j : Int) + 1) = (j : Int) + 1 := aF _ (by omega)
   simp -implicitDefEqProofs only [go_sem, hlt, aP]
   refine aR hC (h149 _ (by omega) ((pres (l.take j)).foldl addV []) a h (by omega) ha) fun x h3 ⟨a', hx, ha', _, hk3⟩ => ?_
   subst hx
   simp -implicitDefEqProofs only [go_sem]
   exact ⟨a', h3, Wk.pick (Nat.zero_le _) (by simp [go_sem, w5, dX hlt]), ha'⟩
  ·have hge := aK hlt
   simp -implicitDefEqProofs only [go_sem, hlt, aQ hge]
   refine aD ?_ (by simp [go_sem])
   simp [go_sem, varsOf]
def isRange (l : List Int) : Bool := decide (∀ i, i < l.length -> l[i]? = some (i : Int))
def normT (l : List Tm) (vars : Int) : Bool := isRange (varsOf l) && ((varsOf l).length : Int) == vars
theorem cB (l : List Tm) : (varsOf l).length <= sizes l := by
 have := eD (pres l) []
 rw [cE] at this
 simpa [varsOf] using this
theorem h211 (l : List Tm) (ht : sizes l < 2 ^ 30) (hs : strss l) : Pure (PC GL) 211 [.sl 4 (l.map enc)] (.tup [if termsOk l then .sl 1 ((varsOf l).map encI) else .v (.slice none 0 0), .i (if termsOk l then 0 else 3)]) := by
 have h1 := h181 (GL := GL) l ht hs
 have h2 := h249 (GL := GL) l ht
 rcases hc : termsOk l with _ | _
 ·simp only [hc, Bool.false_eq_true, if_false] at h1 ⊢
  refine k211.pure (by simp) (by simp [go_sem]) (by simp [go_sem]) ?_
  simp -implicitDefEqProofs only [c211, r211, go_sem]
  repeat' (first | simp -implicitDefEqProofs only [go_sem, *] | with_reducible refine aU (fun _ => ?_) (fun _ => ?_) | with_reducible refine aV (fun _ => ?_) (fun _ => ?_) | with_reducible refine aG (fun _ => ?_) (fun _ => ?_) | with_reducible refine aD ?_ ?_ | ((with_reducible apply aC hC); (exact h1)) | ((with_reducible refine And.intro ?bnd ?_); (case bnd => decide)) | fail)
  all_goals simp_all [go_sem]
 ·simp only [hc, if_true] at h1 ⊢
  refine k211.pure (by simp) (by simp [go_sem]) (by simp [go_sem]) ?_
  simp -implicitDefEqProofs only [c211, r211, go_sem]
  repeat' (first | simp -implicitDefEqProofs only [go_sem, *] | with_reducible refine aU (fun _ => ?_) (fun _ => ?_) | with_reducible refine aV (fun _ => ?_) (fun _ => ?_) | with_reducible refine aG (fun _ => ?_) (fun _ => ?_) | with_reducible refine aD ?_ ?_ | ((with_reducible apply aC hC); (exact h1)) | ((with_reducible apply aC hC); (exact h2)) | ((with_reducible refine And.intro ?bnd ?_); (case bnd => decide)) | fail)
  all_goals simp_all [go_sem]
theorem sE (l : List Tm) (ht : sizes l < 2 ^ 30) (hs : strss l) (hok : termsOk l = true) : Pure (PC GL) 211 [.sl 4 (l.map enc)] (.tup [.sl 1 ((varsOf l).map encI), .i 0]) := by
 have h1 := h211 (GL := GL) l ht hs
 simpa only [hok, if_true] using h1
theorem h204 (l : List Tm) (vars : Int) (ht : sizes l < 2 ^ 30) (hs : strss l) (hok : termsOk l = true) : Pure (PC GL) 204 [.sl 4 (l.map enc), .i vars] (.b (normT l vars)) := by
 have h1 := sE (GL := GL) l ht hs hok
 have hn := cB l
 unfold normT
 generalize varsOf l = own at *
 refine k204.pure (by simp) (by simp [go_sem]) (by simp [go_sem]) ?_
 simp -implicitDefEqProofs only [go_sem, c204, r204]
 refine aC hC h1 ?_
 simp -implicitDefEqProofs only [go_sem]
 refine bX hC (fun j => ∀ i, i < j -> own[i]? = some (i : Int)) (fun j => [(16, .i j)]) [14, 15, 5, 1] own.length (by simp) ?_ ?_
 ·exact Wk.pick (by simp) (by simp [go_sem])
 ·intro j hj hI
  simp -implicitDefEqProofs only [go_sem]
  refine aG (fun hlt => ?_) (fun hlt => ?_)
  ·have hlt := aI hlt
   have w5 : IntKind.i64.wrap ((j : Int) + 1) = (j : Int) + 1 := aF _ (by omega)
   simp -implicitDefEqProofs only [go_sem, hlt, aP, encI]
   by_cases hx : own[j] = (j : Int)
   ·have e : (own[j] != (j : Int)) = false := by simp [hx]
    simp -implicitDefEqProofs only [go_sem, e]
    refine ⟨fun i hi => ?_, Wk.pick (by simp) (by simp [go_sem, w5])⟩
    rcases Nat.lt_or_eq_of_le (Nat.le_of_lt_succ hi) with h | rfl
    ·exact hI i h
    ·rw [List.getElem?_eq_getElem hlt, hx]
   ·have e : (own[j] != (j : Int)) = true := by simp [hx]
    have : isRange own = false := by
     simp only [isRange, decide_eq_false_iff_not]
     intro h
     have := h j hlt
     rw [List.getElem?_eq_getElem hlt] at this
     exact hx (Option.some.inj this)
    simp -implicitDefEqProofs only [go_sem, e]
    refine aD ?_ ?_ <;> simp [go_sem, this]
  ·have hge := aK hlt
   have : isRange own = true := by
    simp only [isRange, decide_eq_true_eq]
    exact fun i hi => hI i (by omega)
   simp -implicitDefEqProofs only [go_sem, hlt]
   refine aD ?_ ?_ <;> simp [go_sem, this]
theorem h210 (l : List Tm) (vars : Int) (ht : sizes l < 2 ^ 30) : Pure (PC GL) 210 [.sl 4 (l.map enc), .i vars] (.b (normT l vars && decide (vars <= 64))) := by
 have h1 := h59 (GL := GL) l ht
 have hn := cB l
 unfold normT
 generalize varsOf l = own at *
 refine k210.pure (by simp) (by simp [go_sem]) (by simp [go_sem]) ?_
 simp -implicitDefEqProofs only [go_sem, c210, r210]
 refine aC hC h1 ?_
 simp -implicitDefEqProofs only [go_sem]
 refine bX hC (fun j => ∀ i, i < j -> own[i]? = some (i : Int)) (fun j => [(6, .i j)]) [5, 1] own.length (by simp) ?_ ?_
 ·exact Wk.pick (by simp) (by simp [go_sem])
 ·intro j hj hI
  simp -implicitDefEqProofs only [go_sem]
  refine aG (fun hlt => ?_) (fun hlt => ?_)
  ·have hlt := aI hlt
   have w5 : IntKind.i64.wrap ((j : Int) + 1) = (j : Int) + 1 := aF _ (by omega)
   simp -implicitDefEqProofs only [go_sem, hlt, aP, encI]
   by_cases hx : own[j] = (j : Int)
   ·have e : (own[j] != (j : Int)) = false := by simp [hx]
    simp -implicitDefEqProofs only [go_sem, e]
    refine ⟨fun i hi => ?_, Wk.pick (by simp) (by simp [go_sem, w5])⟩
    rcases Nat.lt_or_eq_of_le (Nat.le_of_lt_succ hi) with h | rfl
    ·exact hI i h
    ·rw [List.getElem?_eq_getElem hlt, hx]
   ·have e : (own[j] != (j : Int)) = true := by simp [hx]
    have : isRange own = false := by
     simp only [isRange, decide_eq_false_iff_not]
     intro h
     have := h j hlt
     rw [List.getElem?_eq_getElem hlt] at this
     exact hx (Option.some.inj this)
    simp -implicitDefEqProofs only [go_sem, e]
    refine aD ?_ ?_ <;> simp [go_sem, this]
  ·have hge := aK hlt
   have : isRange own = true := by
    simp only [isRange, decide_eq_true_eq]
    exact fun i hi => hI i (by omega)
   have ec : (vars == (own.length : Int)) = ((own.length : Int) == vars) := by rw [Bool.eq_iff_iff, beq_iff_eq, beq_iff_eq]; exact eq_comm
   simp -implicitDefEqProofs only [go_sem, hlt, ec]
   repeat' (first | simp -implicitDefEqProofs only [go_sem, *] | with_reducible refine aU (fun _ => ?_) (fun _ => ?_) | with_reducible refine aV (fun _ => ?_) (fun _ => ?_) | with_reducible refine aG (fun _ => ?_) (fun _ => ?_) | with_reducible refine aD ?_ ?_ | ((with_reducible refine And.intro ?bnd ?_); (case bnd => decide)) | fail)
   all_goals simp_all [go_sem]
theorem sU (l : List Tm) : (l.all Tm.ok && decide (sizes l <= 4000)) = termsOk l := by
 have key : ∀ l : List Tm, l.all Tm.ok = true -> nodesOks l = true /\ deeps l <= 600 := by
  intro l
  induction l with
  | nil => intro _; exact ⟨rfl, by simp [deeps]⟩
  | cons t r ih =>
   simp only [List.all_cons, Bool.and_eq_true, Tm.ok, decide_eq_true_eq, nodesOks, deeps]
   rintro ⟨⟨-, h2, h3⟩, h4⟩
   obtain ⟨a, b⟩ := ih h4
   exact ⟨⟨h3, a⟩, by omega⟩
 rw [Bool.eq_iff_iff]
 simp only [Bool.and_eq_true, decide_eq_true_eq, termsOk]
 constructor
 ·rintro ⟨h1, h2⟩
  obtain ⟨a, b⟩ := key l h1
  exact ⟨a, b, h2⟩
 ·rintro ⟨h1, h2, h3⟩
  refine ⟨List.all_eq_true.2 fun x hx => ?_, h3⟩
  obtain ⟨j, hj, rfl⟩ := List.mem_iff_getElem.1 hx
  have := bA hj
  have := iZ hx
  simp only [Tm.ok, Bool.and_eq_true, decide_eq_true_eq]
  exact ⟨by omega, by omega, eO h1 hx⟩
theorem h170 (l : List Tm) (ht : sizes l < 2 ^ 30) (hs : strss l) : Pure (PC GL) 170 [.sl 4 (l.map enc)] (.b (termsOk l)) := by
 have h4 := aM l
 rw [<- sU]
 refine k170.pure (by simp) (by simp [go_sem]) (by simp [go_sem]) ?_
 simp -implicitDefEqProofs only [go_sem, c170, r170]
 refine bX hC (fun j => (l.take j).all Tm.ok = true) (fun j => [(4, .i j), (3, .i (sizes (l.take j) : Nat))]) [0] l.length (by simp) ?_ ?_
 ·exact Wk.pick (by simp) (by simp [go_sem, sizes])
 ·intro j hj hI
  simp -implicitDefEqProofs only [go_sem]
  refine aG (fun hlt => ?_) (fun hlt => ?_)
  ·have hlt := aI hlt
   have g1 := bA hlt
   have g2 := bF l j
   have w5 : IntKind.i64.wrap ((j : Int) + 1) = (j : Int) + 1 := aF _ (by omega)
   have w6 : IntKind.i64.wrap ((sizes (l.take j) : Int) + (l[j].size : Int)) = (sizes (l.take (j + 1)) : Int) := by rw [aF _ (by omega), bH hlt]; omega
   have hm := List.getElem_mem hlt
   simp -implicitDefEqProofs only [go_sem, hlt, aP]
   refine aC hC (h97 _ (by omega) (cW hs _ hm)) ?_
   simp -implicitDefEqProofs only [go_sem]
   refine aG (fun hx => ?_) (fun hx => ?_)
   ·simp only [Bool.not_eq_true'] at hx
    have : l.all Tm.ok = false := List.all_eq_false.2 ⟨_, hm, by simp [hx]⟩
    simp -implicitDefEqProofs only [go_sem, hx]
    refine aD ?_ ?_ <;> simp [go_sem, this]
   ·simp only [Bool.not_eq_false'] at hx
    simp -implicitDefEqProofs only [go_sem, hx, hlt, aP]
    refine aC hC (h184 _ (by omega)) ?_
    simp -implicitDefEqProofs only [go_sem]
    exact ⟨by rw [cT hlt, hI, hx]; rfl, Wk.pick (by simp) (by simp [go_sem, w5, w6])⟩
  ·have hge := aK hlt
   rw [aQ hge] at hI
   simp -implicitDefEqProofs only [go_sem, hlt, aQ hge, dle4000]
   refine aD ?_ ?_ <;> simp [go_sem, hI]
theorem is_loop {GL : Glob} {C : Calling} {m : Nat} {b : ACode} {Q : Post} {Pn : AV -> List AObj -> Prop} {τ : List (Nat × AV)} {h : List AObj} (g : wpA GL C m (.loop b) Q Pn τ h) : wpA GL C m (.loop b) Q Pn τ h := g
theorem is_call {P : Program} {GL : Glob} {c : CId} {args : List AV} {h : List AObj} {R : ARes -> List AObj -> Prop} (g : AC P GL c args h R) : AC P GL c args h R := g
theorem h215 (heads : List Int) (v : Int) (k : Nat) (h : List AObj) (hl : heads.length < 2 ^ 47) (hk : h[k]? = some (.cells 61 [.sl 1 (heads.map encI)])) : PureOn (PC GL) 215 [.i v, .ref k 0] (.b (!(heads.any fun x => v == x))) h := by
 refine k215.call (by simp) ?_
 simp -implicitDefEqProofs only [go_sem, c215, r215, hk]
 refine aC hC (h43 heads v hl) ?_
 simp -implicitDefEqProofs only [go_sem]
 exact kY rfl
theorem h216 (t : Tm) (ht : t.size < 2 ^ 30) : Pure (PC GLs) 216 [enc t] (.b (!t.test)) := by
 have h1 := h101 t ht
 refine k216.pure (by simp) (by simp [go_sem]) (by simp [go_sem]) ?_
 simp -implicitDefEqProofs only [c216, r216, go_sem]
 refine aC hC h1 ?_
 simp -implicitDefEqProofs only [go_sem]
 refine aD ?_ ?_ <;> simp [go_sem]
theorem h217 (t : Tm) : Pure (PC GL) 217 [enc t] (.b (t.goal.1 == 0)) := by
 have h1 := h96 (GL := GL) t
 simp only [encG] at h1
 refine k217.pure (by simp) (by simp [go_sem]) (by simp [go_sem]) ?_
 simp -implicitDefEqProofs only [c217, r217, go_sem]
 refine aC hC h1 ?_
 simp -implicitDefEqProofs only [go_sem]
 refine aD ?_ ?_ <;> simp [go_sem]
def Cl.bad (c : Cl) (ar : Int) : Bool := decide (c.mark < 0) || (decide (c.mark > 2) || (((c.head.length : Int) != ar) || (decide ((c.guard.length : Int) > 8) || decide ((c.body.length : Int) > 16))))
def Cl.shaped (c : Cl) (ar : Int) : Bool :=
 !c.bad ar && (termsOk c.parts && (!decide ((sizes c.parts : Int) > 400) && (decide (((varsOf c.parts).length : Int) <= 64) && (!((varsOf c.guard).any fun v => !((varsOf c.head).any fun x => v == x)) &&
  (!(c.guard.any fun t => !t.test) && !(c.body.any fun t => t.goal.1 == 0))))))
theorem qH : ∀ a b, strss (a ++ b) ↔ strss a /\ strss b
 | [], b => by simp [strss]
 | x :: r, b => by simp only [List.cons_append, strss, qH r b, and_assoc]
theorem uO {a b c : List Tm} (h : termsOk (a ++ (b ++ c)) = true) : termsOk a = true /\ termsOk b = true /\ termsOk c = true := by
 simp only [termsOk, cR, lR, cF, Bool.and_eq_true, decide_eq_true_eq] at h ⊢
 obtain ⟨⟨h1, h2, h3⟩, h4, h5⟩ := h
 exact ⟨⟨h1, by omega, by omega⟩, ⟨h2, by omega, by omega⟩, h3, by omega, by omega⟩
theorem h139 (c : Cl) (ar : Int) (ht : sizes c.parts < 2 ^ 30) (hs : strss c.parts) : Pure (PC GLs) 139 [encCl c, .i ar] (.b (c.shaped ar)) := by
 have hlen : c.parts.length < 2 ^ 40 := by have := aM c.parts; omega
 have hp : sizes c.parts = sizes c.head + (sizes c.guard + sizes c.body) := by simp [Cl.parts, cF]
 have hs' := hs
 simp only [Cl.parts, qH] at hs'
 have hlg := aM c.guard
 have hlb := aM c.body
 have vg := cB c.guard
 have vh := cB c.head
 have q140 := h140 (GL := GLs) c hlen
 have q181 := h181 (GL := GLs) c.parts ht hs
 have q203 := h203 (GL := GLs) c.parts ht
 have q188g := h188 (GL := GLs) c.guard 216 (fun t => !t.test) (by omega) (fun x hx => h216 x (by obtain ⟨j, hj, rfl⟩ := List.mem_iff_getElem.1 hx; have := bA hj; omega))
 have q188b := h188 (GL := GLs) c.body 217 (fun t => t.goal.1 == 0) (by omega) (fun x _ => h217 x)
 simp only [encCl] at q140
 rcases hok : termsOk c.parts with _ | _
 ·simp only [hok, Bool.false_eq_true, if_false] at q181
  refine k139.pure (by simp) (by simp [go_sem]) (by simp [go_sem]) ?_
  simp -implicitDefEqProofs only [go_sem, c139, r139, encCl]
  repeat' (first | simp -implicitDefEqProofs only [go_sem, *] | with_reducible refine aU (fun _ => ?_) (fun _ => ?_) | with_reducible refine aV (fun _ => ?_) (fun _ => ?_) | with_reducible refine aG (fun _ => ?_) (fun _ => ?_) | with_reducible refine aD ?_ ?_ | ((with_reducible apply aC hC); (exact q140)) | ((with_reducible apply aC hC); (exact q181)) | ((with_reducible refine And.intro ?bnd ?_); (case bnd => decide)) | fail)
  all_goals simp_all [go_sem, Cl.shaped, Cl.bad]
 ·simp only [hok, if_true] at q181
  obtain ⟨o1, o2, o3⟩ := uO hok
  have q211p := sE (GL := GLs) c.parts ht hs hok
  have q211h := sE (GL := GLs) c.head (by omega) hs'.1 o1
  have q211g := sE (GL := GLs) c.guard (by omega) hs'.2.1 o2
  have q61 : ∀ h : List AObj, h[1]? = some (.cells 61 [.sl 1 ((varsOf c.head).map encI)]) -> PureOn (PC GLs) 61 [.sl 1 ((varsOf c.guard).map encI), .fn (.func 215) [] [.ref 1 0]] (.b ((varsOf c.guard).any fun v => !((varsOf c.head).any fun x => v == x))) h :=
   fun h hk => h61 (varsOf c.guard) 215 [.ref 1 0] (fun v => !((varsOf c.head).any fun x => v == x)) h (by omega) fun x _ => h215 (varsOf c.head) x 1 h (by omega) hk
  unfold Cl.shaped
  rw [hok]
  generalize ((varsOf c.guard).any fun v => !((varsOf c.head).any fun x => v == x)) = b1 at q61 ⊢
  generalize (c.guard.any fun t => !t.test) = b2 at q188g ⊢
  generalize (c.body.any fun t => t.goal.1 == 0) = b3 at q188b ⊢
  refine k139.pure (by simp) (by simp [go_sem]) (by simp [go_sem]) ?_
  simp -implicitDefEqProofs only [go_sem, c139, r139, encCl]
  repeat' (first | simp -implicitDefEqProofs only [go_sem, *] | with_reducible refine aU (fun _ => ?_) (fun _ => ?_) | with_reducible refine aV (fun _ => ?_) (fun _ => ?_) | with_reducible refine aG (fun _ => ?_) (fun _ => ?_) | with_reducible refine aD ?_ ?_ | ((with_reducible apply aC hC); (exact q140)) | ((with_reducible apply aC hC); (exact q181)) | ((with_reducible apply aC hC); (exact q203)) | ((with_reducible apply aC hC); (exact q211p)) | ((with_reducible apply aC hC); (exact q211h)) | ((with_reducible apply aC hC); (exact q211g)) | ((with_reducible refine And.intro ?bnd ?_); (case bnd => decide)) | fail)
  all_goals first
   | with_reducible refine is_call ?_
   | (simp_all [go_sem, Cl.bad]; done)
   | (simp_all [go_sem, Cl.bad]; intros; omega)
  refine dU hC (q61 _ rfl) ?_
  simp -implicitDefEqProofs only [go_sem]
  repeat' (first | simp -implicitDefEqProofs only [go_sem, *] | with_reducible refine aU (fun _ => ?_) (fun _ => ?_) | with_reducible refine aV (fun _ => ?_) (fun _ => ?_) | with_reducible refine aG (fun _ => ?_) (fun _ => ?_) | with_reducible refine aD ?_ ?_ | ((with_reducible apply aC hC); (exact q188g)) | ((with_reducible apply aC hC); (exact q188b)) | ((with_reducible refine And.intro ?bnd ?_); (case bnd => decide)) | fail)
  all_goals first
   | (simp_all [go_sem, Cl.bad]; done)
   | (simp_all [go_sem, Cl.bad]; intros; omega)
def Cl.ok (c : Cl) (ar : Int) : Bool := c.shaped ar && normT c.parts c.vars
theorem h143 (c : Cl) (ar : Int) (ht : sizes c.parts < 2 ^ 30) (hs : strss c.parts) : Pure (PC GLs) 143 [encCl c, .i ar] (.b (c.ok ar)) := by
 have hlen : c.parts.length < 2 ^ 40 := by have := aM c.parts; omega
 have q139 := h139 c ar ht hs
 have q140 := h140 (GL := GLs) c hlen
 rcases hsh : c.shaped ar with _ | _
 ·rw [hsh] at q139
  simp only [encCl] at q139 q140
  refine k143.pure (by simp) (by simp [go_sem]) (by simp [go_sem]) ?_
  simp -implicitDefEqProofs only [go_sem, c143, r143, encCl]
  repeat' (first | simp -implicitDefEqProofs only [go_sem, *] | with_reducible refine aU (fun _ => ?_) (fun _ => ?_) | with_reducible refine aV (fun _ => ?_) (fun _ => ?_) | with_reducible refine aG (fun _ => ?_) (fun _ => ?_) | with_reducible refine aD ?_ ?_ | ((with_reducible apply aC hC); (exact q139)) | ((with_reducible refine And.intro ?bnd ?_); (case bnd => decide)) | fail)
  all_goals simp_all [go_sem, Cl.ok]
 ·rw [hsh] at q139
  have hok : termsOk c.parts = true := by
   simp only [Cl.shaped, Bool.and_eq_true] at hsh
   exact hsh.2.1
  have q204 := h204 (GL := GLs) c.parts c.vars ht hs hok
  simp only [encCl] at q139 q140
  refine k143.pure (by simp) (by simp [go_sem]) (by simp [go_sem]) ?_
  simp -implicitDefEqProofs only [go_sem, c143, r143, encCl]
  repeat' (first | simp -implicitDefEqProofs only [go_sem, *] | with_reducible refine aU (fun _ => ?_) (fun _ => ?_) | with_reducible refine aV (fun _ => ?_) (fun _ => ?_) | with_reducible refine aG (fun _ => ?_) (fun _ => ?_) | with_reducible refine aD ?_ ?_ | ((with_reducible apply aC hC); (exact q139)) | ((with_reducible apply aC hC); (exact q140)) | ((with_reducible apply aC hC); (exact q204)) | ((with_reducible refine And.intro ?bnd ?_); (case bnd => decide)) | fail)
  all_goals simp_all [go_sem, Cl.ok]
def Cl.okR (c : Cl) (ar : Int) : Bool :=
 termsOk c.parts && (!decide ((sizes c.parts : Int) > 400) && ((normT c.parts c.vars && decide (c.vars <= 64)) && (!c.bad ar && (c.guard.all Tm.test && ((c.body.all fun t => !(t.goal.1 == 0)) && (varsOf c.guard).all fun v => (varsOf c.head).any fun x => x == v)))))
theorem any_not {α : Type} (l : List α) (p : α -> Bool) : (!l.any fun x => !p x) = l.all p := by rw [List.not_any_eq_all_not]; simp
theorem okR_eq (c : Cl) (ar : Int) : c.okR ar = c.ok ar := by
 have e1 : ∀ v : Int, ((varsOf c.head).any fun x => v == x) = (varsOf c.head).any fun x => x == v := fun v => by congr 1; funext x; exact Bool.beq_comm
 have e2 : (!c.body.any fun t => t.goal.1 == 0) = c.body.all fun t => !(t.goal.1 == 0) := by rw [List.not_any_eq_all_not]
 simp only [Cl.okR, Cl.ok, Cl.shaped, any_not, e1, e2, normT]
 rw [Bool.eq_iff_iff]
 simp only [Bool.and_eq_true, decide_eq_true_eq, beq_iff_eq]
 constructor
 ·rintro ⟨h1, h2, ⟨⟨h3, h4⟩, h5⟩, h6, h7, h8, h9⟩
  exact ⟨⟨h6, h1, h2, by omega, h9, h7, h8⟩, h3, h4⟩
 ·rintro ⟨⟨h6, h1, h2, h5, h9, h7, h8⟩, h3, h4⟩
  exact ⟨h1, h2, ⟨⟨h3, h4⟩, by omega⟩, h6, h7, h8, h9⟩
theorem h144 (c : Cl) (ar : Int) (ht : sizes c.parts < 2 ^ 30) (hs : strss c.parts) : Pure (PC GL) 144 [encCl c, .i ar] (.b (c.ok ar)) := by
 rw [<- okR_eq]
 have hlen : c.parts.length < 2 ^ 40 := by have := aM c.parts; omega
 have hp : sizes c.parts = sizes c.head + (sizes c.guard + sizes c.body) := by simp [Cl.parts, cF]
 have hlg := aM c.guard
 have hlb := aM c.body
 have vg := cB c.guard
 have vh := cB c.head
 have q60 := h60 (GL := GL) c hlen
 have q170 := h170 (GL := GL) c.parts ht hs
 have q209 := h209 (GL := GL) c.parts ht
 have q210 := h210 (GL := GL) c.parts c.vars ht
 have q59h := h59 (GL := GL) c.head (by omega)
 have q59g := h59 (GL := GL) c.guard (by omega)
 simp only [encCl] at q60
 unfold Cl.okR
 obtain ⟨B1, e1⟩ : ∃ b, c.guard.all Tm.test = b := ⟨_, rfl⟩
 obtain ⟨B2, e2⟩ : ∃ b, (c.body.all fun t => !(t.goal.1 == 0)) = b := ⟨_, rfl⟩
 obtain ⟨B3, e3⟩ : ∃ b, ((varsOf c.guard).all fun v => (varsOf c.head).any fun x => x == v) = b := ⟨_, rfl⟩
 rw [e1, e2, e3]
 generalize (normT c.parts c.vars && decide (c.vars <= 64)) = bn at q210 ⊢
 refine k144.pure (by simp) (by simp [go_sem]) (by simp [go_sem]) ?_
 simp -implicitDefEqProofs only [go_sem, c144, r144, encCl]
 repeat' (first | simp -implicitDefEqProofs only [go_sem, *] | with_reducible refine aU (fun _ => ?_) (fun _ => ?_) | with_reducible refine aV (fun _ => ?_) (fun _ => ?_) | with_reducible refine aG (fun _ => ?_) (fun _ => ?_) | with_reducible refine aD ?_ ?_ | ((with_reducible apply aC hC); (exact q60)) | ((with_reducible apply aC hC); (exact q170)) | ((with_reducible apply aC hC); (exact q209)) | ((with_reducible apply aC hC); (exact q210)) | ((with_reducible refine And.intro ?bnd ?_); (case bnd => decide)) | fail)
 all_goals first
  | with_reducible refine is_loop ?_
  | (clear e1 e2 e3; simp_all [go_sem, Cl.bad]; done)
  | (clear e1 e2 e3; simp_all [go_sem, Cl.bad]; intros; omega)
 refine bX hC (fun j => (c.guard.take j).all Tm.test = true) (fun j => [(7, .i j)]) [2] c.guard.length rfl ?_ ?_
 ·exact Wk.pick (by simp) (by simp [go_sem])
 intro j hj hI
 simp -implicitDefEqProofs only [go_sem]
 refine aG (fun hlt => ?_) (fun hlt => ?_)
 ·have hlt := aI hlt
  have w5 : IntKind.i64.wrap ((j : Int) + 1) = (j : Int) + 1 := aF _ (by omega)
  simp -implicitDefEqProofs only [go_sem, hlt, aP]
  refine aC hC (h102 _) ?_
  simp -implicitDefEqProofs only [go_sem]
  refine aG (fun hx => ?_) (fun hx => ?_)
  ·simp only [Bool.not_eq_true'] at hx
   have : c.guard.all Tm.test = false := List.all_eq_false.2 ⟨_, List.getElem_mem hlt, by simp [hx]⟩
   rw [e1] at this
   simp -implicitDefEqProofs only [go_sem, hx]
   refine aD ?_ ?_ <;> simp [go_sem, this]
  ·simp only [Bool.not_eq_false'] at hx
   simp -implicitDefEqProofs only [go_sem, hx]
   exact ⟨by rw [cT hlt, hI, hx]; rfl, Wk.slots (by simp) (by simp [go_sem, w5]) (by simp [go_sem])⟩
 have hge := aK hlt
 rw [aQ hge, e1] at hI
 simp -implicitDefEqProofs only [go_sem, hlt]
 refine bX hC (fun j => (c.body.take j).all (fun t => !(t.goal.1 == 0)) = true) (fun j => [(9, .i j)]) [2] c.body.length rfl ?_ ?_
 ·exact Wk.pick (by simp) (by simp [go_sem])
 intro j hj hI2
 simp -implicitDefEqProofs only [go_sem]
 refine aG (fun hlt2 => ?_) (fun hlt2 => ?_)
 ·have hlt2 := aI hlt2
  have w5 : IntKind.i64.wrap ((j : Int) + 1) = (j : Int) + 1 := aF _ (by omega)
  simp -implicitDefEqProofs only [go_sem, hlt2, aP]
  have q98 := h98 (GL := GL) c.body[j]
  simp only [encG] at q98
  refine aC hC q98 ?_
  simp -implicitDefEqProofs only [go_sem]
  refine aG (fun hx => ?_) (fun hx => ?_)
  ·have : (c.body.all fun t => !(t.goal.1 == 0)) = false := List.all_eq_false.2 ⟨_, List.getElem_mem hlt2, by simp [hx]⟩
   rw [e2] at this
   simp -implicitDefEqProofs only [go_sem, hx]
   refine aD ?_ ?_ <;> simp [go_sem, this]
  ·simp -implicitDefEqProofs only [go_sem, hx]
   exact ⟨by rw [cT hlt2, hI2, hx]; rfl, Wk.slots (by simp) (by simp [go_sem, w5]) (by simp [go_sem])⟩
 have hge2 := aK hlt2
 rw [aQ hge2, e2] at hI2
 simp -implicitDefEqProofs only [go_sem, hlt2]
 refine aC hC q59h ?_
 simp -implicitDefEqProofs only [go_sem]
 refine aC hC q59g ?_
 simp -implicitDefEqProofs only [go_sem]
 refine bX hC (fun j => ((varsOf c.guard).take j).all (fun v => (varsOf c.head).any fun x => x == v) = true) (fun j => [(15, .i j)]) [13, 14] (varsOf c.guard).length rfl ?_ ?_
 ·exact Wk.pick (by simp) (by simp [go_sem])
 intro j hj hI3
 simp -implicitDefEqProofs only [go_sem]
 refine aG (fun hlt3 => ?_) (fun hlt3 => ?_)
 ·have hlt3 := aI hlt3
  have w5 : IntKind.i64.wrap ((j : Int) + 1) = (j : Int) + 1 := aF _ (by omega)
  simp -implicitDefEqProofs only [go_sem, hlt3, aP, encI]
  refine aC hC (h219 (varsOf c.head) (varsOf c.guard)[j] (by omega)) ?_
  simp -implicitDefEqProofs only [go_sem]
  refine aG (fun hx => ?_) (fun hx => ?_)
  ·simp only [Bool.not_eq_true'] at hx
   have : ((varsOf c.guard).all fun v => (varsOf c.head).any fun x => x == v) = false := List.all_eq_false.2 ⟨_, List.getElem_mem hlt3, by simp only [hx]; simp⟩
   rw [e3] at this
   simp -implicitDefEqProofs only [go_sem, hx]
   refine aD ?_ ?_ <;> simp [go_sem, this]
  ·simp only [Bool.not_eq_false'] at hx
   simp -implicitDefEqProofs only [go_sem, hx]
   exact ⟨by rw [cT hlt3, hI3]; simpa using hx, Wk.slots (by simp) (by simp [go_sem, w5]) (by simp [go_sem])⟩
 have hge3 := aK hlt3
 rw [aQ hge3, e3] at hI3
 simp -implicitDefEqProofs only [go_sem, hlt3]
 clear e1 e2 e3
 refine aD ?_ ?_ <;> simp_all [go_sem, Cl.bad]
def Adds (C : Calling) (f : FuncId) (args : List AV) (h : List AObj) (v : AV) : Prop := Gives C f args h fun x h' => x = v /\ Keep All h h'
theorem eS {C : Calling} (hC : C.Mono) {f : FuncId} {args : List AV} {h : List AObj} {v : AV} (hp : Adds C f args h v) {R : ARes -> List AObj -> Prop} (hR : ∀ h', Keep All h h' -> R (.val v) h') : C (.fn f) args h R :=
 aR hC hp fun x h' e => by rw [e.1]; exact hR h' e.2
theorem h291K (l : List Sym) (f : FuncId) (cap : List AV) (p : Sym -> Bool) (h0 : List AObj) (hl : l.length < 2 ^ 47) (hf : ∀ x ∈ l, ∀ h, Keep All h0 h -> Adds (PC GL) f (encSym x :: cap) h (.b (p x))) (h : List AObj) (hk : Keep All h0 h) :
  Adds (PC GL) 291 [.sl 2 (l.map encSym), .fn (.func f) [] cap] h (.i (idxF p l)) := by
 refine k291.gives (by simp) ?_
 simp -implicitDefEqProofs only [go_sem, c291, r291]
 refine aZ hC (fun j _ => [(8, .i j), (7, .i l.length), (0, .sl 2 (l.map encSym)), (1, .fn (.func f) [] cap)]) (fun j (_ : Unit) h' => (l.take j).any p = false /\ Keep All h h') l.length ?_ ?_
 ·exact ⟨(), h, Wk.pick (Nat.le_refl _) (by simp [go_sem]), rfl, Keep.refl _ _⟩
 ·rintro j - h1 hj ⟨hI, hk1⟩
  simp -implicitDefEqProofs only [go_sem]
  refine aG (fun hlt => ?_) (fun hlt => ?_)
  ·have hlt := aI hlt
   have g1 := fV hlt p
   have w5 : IntKind.i64.wrap ((j : Int) + 1) = (j : Int) + 1 := aF _ (by omega)
   have hx := hf _ (List.getElem_mem hlt) h1 (hk.trans hk1)
   simp -implicitDefEqProofs only [go_sem, hlt, aP, encSym]
   simp only [encSym] at hx
   refine eS hC hx fun h2 hk2 => ?_
   simp -implicitDefEqProofs only [go_sem]
   refine aG (fun hx => ?_) (fun hx => ?_)
   ·simp -implicitDefEqProofs only [go_sem, hx]
    exact aS (hk1.trans hk2).1 ⟨by rw [iS hlt hI hx], hk1.trans hk2⟩
   ·simp -implicitDefEqProofs only [go_sem, hx]
    exact ⟨(), h2, Wk.pick (hk1.trans hk2).1 (by simp [go_sem, w5]), by rw [g1, hI, hx]; rfl, hk1.trans hk2⟩
  ·have hge := aK hlt
   rw [aQ hge] at hI
   simp -implicitDefEqProofs only [go_sem, hlt]
   exact aS hk1.1 ⟨by rw [fX hI], hk1⟩
theorem h254K (l : List Sym) (f : FuncId) (cap : List AV) (p : Sym -> Bool) (h0 : List AObj) (hl : l.length < 2 ^ 47) (hf : ∀ x ∈ l, ∀ h, Keep All h0 h -> Adds (PC GL) f (encSym x :: cap) h (.b (p x))) (h : List AObj) (hk : Keep All h0 h) :
  Adds (PC GL) 254 [.sl 2 (l.map encSym), .fn (.func f) [] cap] h (.b (l.any p)) := by
 refine k254.gives (by simp) ?_
 simp -implicitDefEqProofs only [go_sem, c254, r254]
 refine eS hC (h291K l f cap p h0 hl hf h hk) fun h1 hk1 => ?_
 simp -implicitDefEqProofs only [go_sem, kZ]
 exact aS hk1.1 ⟨rfl, hk1⟩
def Tm.callee (t : Tm) : Option Sym := if t.goal.1 == 1 then some t.goal.2.2.sym else none
def calledS (l : List Tm) : List Sym := l.filterMap Tm.callee
theorem lZ (l : List Tm) : (calledS l).length <= l.length := List.length_filterMap_le _ _
theorem rI {l : List Tm} {j : Nat} (h : j < l.length) : calledS (l.take (j + 1)) = calledS (l.take j) ++ (match l[j].callee with | some s => [s] | none => []) := by
 rw [bK h, calledS, List.filterMap_append, calledS]
 congr 1
 cases hc : l[j].callee <;> simp [hc]
theorem h226 (l : List Tm) (hl : l.length < 2 ^ 40) : Pure (PC GL) 226 [.sl 4 (l.map enc)] (.sl 2 ((calledS l).map encSym)) := by
 refine k226.pure (by simp) (by simp [go_sem]) (by simp [go_sem]) ?_
 simp -implicitDefEqProofs only [go_sem, c226, r226]
 refine aZ hC (fun j a => [(13, .i j), (11, .sl 4 (l.map enc)), (12, .i l.length), (3, .own a 2 ((calledS (l.take j)).map encSym))]) (fun _ a h => h[a]? = some (.spare 26 2)) l.length ?_ fun j a h hj ha => ?_
 ·refine ⟨0, [.spare 26 2], (Wk.own_nil (h := []) 26 2 3 (by simp [go_sem]) (Nat.zero_le _)).trans (Wk.pick (Nat.zero_le _) ?_), rfl⟩
  simp [go_sem, calledS]
 ·have g1 := lZ (l.take j)
  have g2 : (l.take j).length <= l.length := by simp; omega
  have ha' := fun l => aE (l := l) ha
  simp -implicitDefEqProofs only [go_sem]
  refine aG (fun hlt => ?_) (fun hlt => ?_)
  ·have hlt := aI hlt
   have w5 : IntKind.i64.wrap ((j : Int) + 1) = (j : Int) + 1 := aF _ (by omega)
   have q96 := h96 (GL := GL) l[j]
   simp only [encG] at q96
   have q234 := h234 (GL := GL) l[j].goal.2.2
   have hs := rI hlt
   simp -implicitDefEqProofs only [go_sem, hlt, aP]
   refine aC hC q96 ?_
   simp -implicitDefEqProofs only [go_sem, aW, bG, List.append_assoc]
   refine aG (fun hx => ?_) (fun hx => ?_)
   ·have e : l[j].callee = some l[j].goal.2.2.sym := by simp only [Tm.callee, hx, if_true]
    rw [e] at hs
    dsimp only at hs
    simp -implicitDefEqProofs only [go_sem, hx, aW]
    refine aC hC q234 ?_
    simp -implicitDefEqProofs only [go_sem, aW, bG, List.append_assoc, encSym, ha']
    refine ⟨by simp only [List.length_cons, List.length_nil]; omega, ?_⟩
    refine ⟨h.length + 4, _, Wk.pick (Nat.zero_le _) (by simp [go_sem, w5, hs, encSym]), ?_⟩
    rw [cX (by simp)]; simp
   ·have e : l[j].callee = none := by simp only [Tm.callee, hx]; rfl
    rw [e, List.append_nil] at hs
    simp -implicitDefEqProofs only [go_sem, hx]
    exact ⟨a, _, Wk.pick (Nat.zero_le _) (by simp [go_sem, w5, hs]), ha' _⟩
  ·have hge := aK hlt
   simp -implicitDefEqProofs only [go_sem, hlt, aQ hge]
   refine aD ?_ (by simp [go_sem])
   simp [go_sem]
def findS (s : Sym) (l : List Sym) : Int := match idxS s l with
 | some i => i
 | none => -1
theorem kL (s : Sym) (l : List Sym) : (idxS s l).isSome = decide (s ∈ l) := by
 by_cases h : s ∈ l
 ·obtain ⟨i, h1, -⟩ := jC h
  simp [h, h1]
 ·simp [h, gD h]
theorem findS_neg (s : Sym) (l : List Sym) : decide (findS s l < 0) = !decide (s ∈ l) := by
 rw [<- kL, findS]
 cases idxS s l <;> simp
def encIx (n : Nat) : List AV := (List.range n).map fun (i : Nat) => AV.i (i : Int)
theorem idx_get {s : Sym} {l : List Sym} {i : Nat} (h : idxS s l = some i) : i < l.length := by
 have : s ∈ l := by
  have := kL s l
  rw [h] at this
  simpa using this.symm
 obtain ⟨j, h1, h2⟩ := jC this
 rw [h] at h1; cases h1; exact h2
def tabV (k : Nat) : AV := .agg [.mp k, .v (.map none)]
def tabO (l : List Sym) : AObj := .map (l.map encSym) (encIx l.length)
theorem h142 (l : List Sym) (s : Sym) (k : Nat) (h : List AObj) (hk : h[k]? = some (tabO l)) : Adds (PC GL) 142 [tabV k, encSym s] h (.tup [.i (findS s l), .b (decide (s ∈ l))]) := by
 rw [tabO] at hk
 have hk' := fun l' => aE (l := l') hk
 have hm := kL s l
 obtain ⟨a, n⟩ := s
 refine k142.gives (by simp) ?_
 simp -implicitDefEqProofs only [go_sem, c142, r142, tabV, encSym, aW, List.append_assoc, hk', eF]
 rcases hi : idxS ⟨a, n⟩ l with _ | i
 ·rw [hi] at hm
  refine aS (by simp) ⟨?_, Keep.app _ _ _⟩
  rw [<- hm, findS, hi]; rfl
 ·rw [hi] at hm
  have hlt := idx_get hi
  have e : (encIx l.length).getD i .any = .i i := by simp [encIx, List.getD, hlt]
  refine aS (by simp) ⟨?_, Keep.app _ _ _⟩
  rw [<- hm, findS, hi, e]; rfl
theorem h255 (l : List Sym) (s : Sym) (k b : Nat) (h : List AObj) (hk : h[k]? = some (tabO l)) (hb : h[b]? = some (.cells 151 [.mp k, .v (.map none)])) : Adds (PC GL) 255 [encSym s, .ref b 0] h (.b (!decide (s ∈ l))) := by
 have hb' := fun l' => aE (l := l') hb
 have q := h142 (GL := GL) l s k (h ++ [.cells 26 (encSym s).cells]) (aE hk)
 obtain ⟨a, n⟩ := s
 simp only [encSym, tabV, AV.cells] at q
 refine k255.gives (by simp) ?_
 simp -implicitDefEqProofs only [go_sem, c255, r255, encSym, hb']
 refine eS hC q fun h1 hk1 => ?_
 simp -implicitDefEqProofs only [go_sem]
 exact aS hk1.left.1 ⟨rfl, hk1.left⟩
def okOpt (p : Sym -> Bool) : Option Sym -> Bool
 | some s => p s
 | none => true
theorem vE (l : List Tm) (p : Sym -> Bool) : (!(calledS l).any fun s => !p s) = l.all fun t => okOpt p t.callee := by
 rw [List.not_any_eq_all_not]
 induction l with
 | nil => rfl
 | cons t r ih =>
  simp only [calledS, List.filterMap_cons, List.all_cons] at ih ⊢
  cases t.callee with
  | none => simpa [okOpt] using ih
  | some s =>
   simp only [List.all_cons, Bool.not_not, okOpt] at ih ⊢
   rw [ih]
def okCalls (l more : List Sym) (goals : List Tm) : Bool := goals.all fun t => okOpt (fun s => decide (s ∈ l) || decide (s ∈ more)) t.callee
theorem sZ (l : List Sym) (goals : List Tm) : okCalls l [] goals = !(calledS goals).any fun s => !decide (s ∈ l) := by
 rw [vE goals fun s => decide (s ∈ l), okCalls]
 congr 1
 funext t
 cases t.callee <;> simp [okOpt]
theorem h220 (l : List Sym) (goals : List Tm) (k : Nat) (h : List AObj) (hl : goals.length < 2 ^ 40) (hk : h[k]? = some (tabO l)) : Adds (PC GL) 220 [tabV k, .sl 4 (goals.map enc)] h (.b (okCalls l [] goals)) := by
 rw [sZ]
 have hn := lZ goals
 have q226 := h226 (GL := GL) goals hl
 have q254 := h254K (GL := GL) (calledS goals) 255 [.ref h.length 0] (fun s => !decide (s ∈ l)) (h ++ [.cells 151 [.mp k, .v (.map none)]]) (by omega)
  (fun s _ h' hk' => h255 l s k h.length h' (hk'.got (aE hk)) (hk'.got (by simp))) _ (Keep.refl _ _)
 simp only [tabV]
 refine k220.gives (by simp) ?_
 simp -implicitDefEqProofs only [go_sem, c220, r220]
 refine aC hC q226 ?_
 simp -implicitDefEqProofs only [go_sem]
 refine eS hC q254 fun h1 hk1 => ?_
 simp -implicitDefEqProofs only [go_sem]
 exact aS hk1.left.1 ⟨rfl, hk1.left⟩
def Pr.sym (q : Pr) : Sym := ⟨q.name, q.arity⟩
def Pr.head (seen : List Sym) (q : Pr) : Bool := !decide (q.sym ∈ seen) && (nameOk q.name && (!decide (q.arity < 0) && (!decide (q.arity > 16) && (!q.sym.res && !decide ((q.clauses.length : Int) > 32)))))
def headsOk : List Sym -> List Pr -> Bool
 | _, [] => true
 | seen, q :: r => q.head seen && headsOk (seen ++ [q.sym]) r
def Pg.syms (p : Pg) : List Sym := p.procs.map Pr.sym
theorem iR (seen : List Sym) : ∀ (a b : List Pr), headsOk seen (a ++ b) = (headsOk seen a && headsOk (seen ++ a.map Pr.sym) b)
 | [], b => by simp [headsOk]
 | q :: r, b => by simp only [List.cons_append, headsOk, iR (seen ++ [q.sym]) r b, Bool.and_assoc, List.map_cons, List.append_assoc, List.cons_append, List.nil_append]
theorem lG {l : List Pr} {j : Nat} (h : j < l.length) : headsOk [] (l.take (j + 1)) = (headsOk [] (l.take j) && l[j].head ((l.take j).map Pr.sym)) := by
 rw [bK h, iR]; simp [headsOk]
theorem kU {l : List Pr} {j : Nat} (h : headsOk [] (l.take j) = false) : headsOk [] l = false := by
 have : l = l.take j ++ l.drop j := (List.take_append_drop j l).symm
 rw [this, iR, h]; rfl
def Pg.tabled (p : Pg) : Bool := !decide ((p.procs.length : Int) > 64) && headsOk [] p.procs
theorem tabO_snoc (l : List Sym) (s : Sym) : AObj.map (l.map encSym ++ [encSym s]) (encIx l.length ++ [.i l.length]) = tabO (l ++ [s]) := by
 simp [tabO, encIx, List.range_succ]
theorem h197 (p : Pg) (hl : p.procs.length < 2 ^ 40) (hn : ∀ q ∈ p.procs, q.name.length < 2 ^ 30) (h : List AObj) :
  Gives (PC GL) 197 [encPg p] h fun x h' => ∃ k, x = .tup [tabV k, .b p.tabled] /\ Keep All h h' /\ (p.tabled = true -> h'[k]? = some (tabO p.syms)) := by
 have hall : Pg.tabled p = (!decide ((p.procs.length : Int) > 64) && headsOk [] p.procs) := rfl
 refine k197.gives (by simp) ?_
 simp -implicitDefEqProofs only [go_sem, c197, r197, encPg, aW, bG, List.append_assoc]
 refine aG (fun h1 => ?_) (fun h1 => ?_)
 ·rw [h1] at hall
  simp -implicitDefEqProofs only [go_sem, h1, aW, bG]
  exact aS (by simp) ⟨h.length + 2, by rw [hall]; rfl, Keep.app _ _ _, fun e => by rw [hall] at e; cases e⟩
 ·rw [h1] at hall
  simp -implicitDefEqProofs only [go_sem, h1]
  refine aZ hC (fun j _ => [(20, .i j), (18, .sl 3 (p.procs.map encPr)), (19, .i p.procs.length), (2, .ref (h.length + 1) 0), (4, .ref (h.length + 3) 0)])
   (fun j (_ : Unit) h' => headsOk [] (p.procs.take j) = true /\ Keep All h h' /\ h'[h.length + 1]? = some (.cells 151 [.v (.map none), .v (.map none)]) /\ h'[h.length + 2]? = some (tabO ((p.procs.take j).map Pr.sym)) /\ h'[h.length + 3]? = some (.cells 151 [.mp (h.length + 2), .v (.map none)])) p.procs.length ?_ ?_
  ·exact ⟨(), _, Wk.pick (by simp) (by simp [go_sem]), rfl, Keep.app _ _ _, aW h _ 1, aW h _ 2, aW h _ 3⟩
  ·rintro j - h2 hj ⟨hI, hk, o1, o2, o3⟩
   have o1' := fun l => aE (l := l) o1
   have o2' := fun l => aE (l := l) o2
   have o3' := fun l => aE (l := l) o3
   simp only [tabO] at o2'
   simp -implicitDefEqProofs only [go_sem]
   refine aG (fun hlt => ?_) (fun hlt => ?_)
   ·have hlt := aI hlt
    have w5 : IntKind.i64.wrap ((j : Int) + 1) = (j : Int) + 1 := aF _ (by omega)
    have hs := lG hlt
    have q229 := h229 (GL := GL) p.procs[j].name (hn _ (List.getElem_mem hlt))
    have q25 := h25 (GL := GL) p.procs[j].sym
    have hm := kL p.procs[j].sym ((p.procs.take j).map Pr.sym)
    have fin0 : p.procs[j].head ((p.procs.take j).map Pr.sym) = false -> p.tabled = false := fun e => by
     rw [hall, Bool.not_false, Bool.true_and]
     exact kU (j := j + 1) (by rw [hs, hI, e]; rfl)
    simp only [Pr.sym] at q25 hm
    simp -implicitDefEqProofs only [go_sem, hlt, aP, encPr, aW, bG, List.append_assoc, o1', o2', o3', eF]
    have s1' := fun o l => aJ (l := l) o1 o
    have s2' := fun o l => aJ (l := l) o2 o
    have e1' : ∀ o l, (h2.set (h.length + 1) o ++ l)[h.length + 1]? = some o := fun o l => by rw [List.getElem?_append_left (by simpa using aX o1)]; exact aL o1
    have k1' : ∀ o l, Keep All h (h2.set (h.length + 1) o ++ l) := fun o l => hk.trans' (K' := fun i _ => i = h.length + 1) ((Keep.set o o1 rfl).trans (Keep.app _ _ _)) fun i o' hi e => by have := aX hi; omega
    have k2' : ∀ o l, Keep All h (h2.set (h.length + 2) o ++ l) := fun o l => hk.trans' (K' := fun i _ => i = h.length + 2) ((Keep.set o o2 rfl).trans (Keep.app _ _ _)) fun i o' hi e => by have := aX hi; omega
    have bad : p.procs[j].head ((p.procs.take j).map Pr.sym) = false -> ∀ o l, ∃ y h', Wk GL h.length [(0, .tup [.agg [.mp (h.length + 2), .v (.map none)], .v (.bool false)])] (h2.set (h.length + 1) o ++ l) [(0, y)] h' /\ ∃ x, ARes.val y = ARes.val x /\ ∃ k, x = .tup [tabV k, .b p.tabled] /\ Keep All h h' /\ (p.tabled = true -> h'[k]? = some (tabO p.syms)) :=
     fun e o l => aS (k1' o l).1 ⟨h.length + 2, by rw [fin0 e]; rfl, k1' o l, fun e' => by rw [fin0 e] at e'; cases e'⟩
    have ok : p.procs[j].head ((p.procs.take j).map Pr.sym) = true -> headsOk [] (p.procs.take (j + 1)) = true := fun e => by rw [hs, hI, e]; rfl
    clear fin0 hs hall
    rcases hi : idxS ⟨p.procs[j].name, p.procs[j].arity⟩ ((p.procs.take j).map Pr.sym) with _ | i
    ·rw [hi] at hm
     simp only [encSym] at q25
     repeat' (first | simp -implicitDefEqProofs only [go_sem, *, aW, eF] | with_reducible refine aU (fun _ => ?_) (fun _ => ?_) | with_reducible refine aV (fun _ => ?_) (fun _ => ?_) | with_reducible refine aG (fun _ => ?_) (fun _ => ?_) | with_reducible refine aD ?_ ?_ | ((with_reducible apply aC hC); (exact q229)) | ((with_reducible apply aC hC); (exact q25)) | ((with_reducible refine And.intro ?bnd ?_); (case bnd => decide)) | fail)
     all_goals first
      | (refine bad ?_ _ _; simp_all [Pr.head, Pr.sym]; done)
      | (exfalso; clear ok bad k1' k2' e1' s1' s2' o1' o2' o3' hk; simp_all; done)
      | skip
     refine ⟨(), _, Wk.pick (k2' _ _).1 (by simp [go_sem]), ok ?_, k2' _ _, ?_, ?_, ?_⟩
     ·clear ok bad k1' k2' e1' s1' s2' o1' o2' o3' hk
      simp_all [Pr.head, Pr.sym]
     ·rw [List.getElem?_append_left (by simpa using aX o1), aN (by omega)]; exact o1
     ·rw [List.getElem?_append_left (by simpa using aX o2), aL o2, bK hlt, List.map_append]
      have := tabO_snoc ((p.procs.take j).map Pr.sym) p.procs[j].sym
      have hj' : min j p.procs.length = j := by omega
      simp only [List.length_map, List.length_take, hj', List.map_cons, List.map_nil] at this ⊢
      rw [<- this]; rfl
     ·rw [List.getElem?_append_left (by simpa using aX o3), aN (by omega)]; exact o3
    ·rw [hi] at hm
     have hlt' := idx_get hi
     have e : (encIx ((p.procs.take j).map Pr.sym).length).getD i .any = .i i := by rw [encIx, List.getD, List.getElem?_map, List.getElem?_range hlt']; rfl
     repeat' (first | simp -implicitDefEqProofs only [go_sem, *] | with_reducible refine aU (fun _ => ?_) (fun _ => ?_) | with_reducible refine aV (fun _ => ?_) (fun _ => ?_) | with_reducible refine aG (fun _ => ?_) (fun _ => ?_) | with_reducible refine aD ?_ ?_ | ((with_reducible apply aC hC); (exact q229)) | ((with_reducible apply aC hC); (exact q25)) | ((with_reducible refine And.intro ?bnd ?_); (case bnd => decide)) | fail)
     refine bad ?_ _ _
     simp only [Pr.head, Pr.sym, <- hm]; rfl
   ·have hge := aK hlt
    rw [aQ hge] at hI o2
    have s1' := fun o l => aJ (l := l) o1 o
    have e1' : ∀ o, (h2.set (h.length + 1) o)[h.length + 1]? = some o := fun o => aL o1
    have k1' : ∀ o, Keep All h (h2.set (h.length + 1) o) := fun o => hk.trans' (K' := fun i _ => i = h.length + 1) (Keep.set o o1 rfl) fun i o' hi e => by have := aX hi; omega
    have e2' : ∀ o, (h2.set (h.length + 1) o)[h.length + 2]? = some (tabO (p.procs.map Pr.sym)) := fun o => by rw [aN (by omega)]; exact o2
    simp -implicitDefEqProofs only [go_sem, hlt, o3, o1, e1']
    exact aS (k1' _).1 ⟨h.length + 2, by rw [hall, hI]; rfl, k1' _, fun _ => e2' _⟩
def okClauses (l more : List Sym) (q : Pr) : Bool := q.clauses.all fun c => c.ok q.arity && okCalls l more c.body
structure Pg.fits (p : Pg) : Prop where
 l : p.procs.length < 2 ^ 40
 n : ∀ q ∈ p.procs, q.name.length < 2 ^ 30
 c : ∀ q ∈ p.procs, q.clauses.length < 2 ^ 40
 t : ∀ q ∈ p.procs, ∀ c ∈ q.clauses, sizes c.parts < 2 ^ 30 /\ strss c.parts
theorem tW (c : Cl) : c.body.length <= sizes c.parts := by
 have := aM c.body
 simp only [Cl.parts, cF]; omega
theorem h198 (p : Pg) (hp : p.fits) (l : List Sym) (k : Nat) (h : List AObj) (hk : h[k]? = some (tabO l)) : Adds (PC GLs) 198 [tabV k, encPg p] h (.b (p.procs.all (okClauses l []))) := by
 have h4 := hp.l
 refine k198.gives (by simp) ?_
 simp -implicitDefEqProofs only [go_sem, c198, r198, encPg, tabV, aW, List.append_assoc]
 refine aZ hC (fun i _ => [(12, .i i), (10, .sl 3 (p.procs.map encPr)), (11, .i p.procs.length), (2, .ref h.length 0)])
  (fun i (_ : Unit) h' => (p.procs.take i).all (okClauses l []) = true /\ Keep All h h' /\ h'[h.length]? = some (.cells 151 [.mp k, .v (.map none)])) p.procs.length ?_ ?_
 ·exact ⟨(), _, Wk.pick (by simp) (by simp [go_sem]), rfl, Keep.app _ _ _, by rw [iJ]; rfl⟩
 ·rintro i - h2 hi ⟨hI, hk2, o1⟩
  simp -implicitDefEqProofs only [go_sem]
  refine aG (fun hlt => ?_) (fun hlt => ?_)
  ·have hlt := aI hlt
   have w5 : IntKind.i64.wrap ((i : Int) + 1) = (i : Int) + 1 := aF _ (by omega)
   have hm := List.getElem_mem hlt
   have hcl := hp.c _ hm
   have hct := hp.t _ hm
   generalize hq : p.procs[i] = q at *
   simp -implicitDefEqProofs only [go_sem, hlt, aP, hq, encPr]
   refine aZ hC (fun j _ => [(19, .i j), (17, .sl 5 (q.clauses.map encCl)), (18, .i q.clauses.length), (6, .ref h2.length 0), (2, .ref h.length 0), (12, .i i), (10, .sl 3 (p.procs.map encPr)), (11, .i p.procs.length)])
    (fun j (_ : Unit) h' => (q.clauses.take j).all (fun c => c.ok q.arity && okCalls l [] c.body) = true /\ Keep All h h' /\ h'[h.length]? = some (.cells 151 [.mp k, .v (.map none)]) /\ h'[h2.length]? = some (.cells 60 [.str q.name, .i q.arity, .sl 5 (q.clauses.map encCl)])) q.clauses.length ?_ ?_
   ·exact ⟨(), _, Wk.pick (by have := hk2.1; simp; omega) (by simp [go_sem]), rfl, hk2.trans (Keep.app _ _ _), aE o1, by rw [iJ]; rfl⟩
   ·rintro j - h3 hj ⟨hJ, hk3, o3, o4⟩
    have o3' := fun l => aE (l := l) o3
    have o4' := fun l => aE (l := l) o4
    simp -implicitDefEqProofs only [go_sem]
    refine aG (fun hlt2 => ?_) (fun hlt2 => ?_)
    ·have hlt2 := aI hlt2
     have w6 : IntKind.i64.wrap ((j : Int) + 1) = (j : Int) + 1 := aF _ (by omega)
     have hm2 := List.getElem_mem hlt2
     have hs := hct _ hm2
     have hbl := tW q.clauses[j]
     have q143 := h143 q.clauses[j] q.arity hs.1 hs.2
     have hall : (q.clauses[j].ok q.arity && okCalls l [] q.clauses[j].body) = false -> p.procs.all (okClauses l []) = false := fun e =>
      List.all_eq_false.2 ⟨q, hm, by simp only [okClauses, Bool.not_eq_true]; exact List.all_eq_false.2 ⟨_, hm2, by simp [e]⟩⟩
     simp only [encCl] at q143
     simp -implicitDefEqProofs only [go_sem, hlt2, aP, encCl, o4']
     refine aC hC q143 ?_
     have q220 := fun h' (hk' : Keep All h h') => h220 (GL := GLs) l q.clauses[j].body k h' (by omega) (hk'.got hk)
     simp only [tabV] at q220
     rcases hok : q.clauses[j].ok q.arity with _ | _
     ·have e := hall (by rw [hok]; rfl)
      simp -implicitDefEqProofs only [go_sem]
      exact aS (by have := hk3.1; simp; omega) ⟨by rw [e], hk3.trans (Keep.app _ _ _)⟩
     ·simp -implicitDefEqProofs only [go_sem, Bool.not_true, o3']
      refine eS hC (q220 _ (hk3.trans (Keep.app _ _ _))) fun h5 hk5 => ?_
      have hk6 := hk3.trans hk5.left
      rcases hoc : okCalls l [] q.clauses[j].body with _ | _
      ·have e := hall (by rw [hok, hoc]; rfl)
       simp -implicitDefEqProofs only [go_sem, Bool.not_false]
       exact aS hk6.1 ⟨by rw [e], hk6⟩
      ·simp -implicitDefEqProofs only [go_sem, Bool.not_true]
       exact ⟨(), h5, Wk.pick hk6.1 (by simp [go_sem, w6]), by rw [cT hlt2, hJ, hok, hoc]; rfl, hk6, hk5.got (o3' _), hk5.got (o4' _)⟩
    ·have hge2 := aK hlt2
     rw [aQ hge2] at hJ
     simp -implicitDefEqProofs only [go_sem, hlt2]
     exact ⟨(), h3, Wk.pick hk3.1 (by simp [go_sem, w5]), by rw [cT hlt, hI, hq, okClauses, hJ]; rfl, hk3, o3⟩
  ·have hge := aK hlt
   rw [aQ hge] at hI
   simp -implicitDefEqProofs only [go_sem, hlt]
   exact aS hk2.1 ⟨by rw [hI], hk2⟩
def Pg.ok (p : Pg) : Bool := p.tabled && p.procs.all (okClauses p.syms [])
def okE (b : Bool) : Int := if b then 0 else 5
theorem h116 (p : Pg) (hp : p.fits) (h : List AObj) : Gives (PC GLs) 116 [encPg p] h fun x h' => ∃ y, x = .tup [y, .i (okE p.ok)] /\ Keep All h h' /\
  ((p.ok = true /\ ∃ k, y = .agg [.sl 3 (p.procs.map encPr), .mp k, .v (.map none)] /\ h'[k]? = some (tabO p.syms)) ∨ (p.ok = false /\ y = .agg [.v (.slice none 0 0), .v (.map none), .v (.map none)])) := by
 have q197 := fun h' => h197 (GL := GLs) p hp.l hp.n h'
 have q198 := fun k h' (hk : h'[k]? = some (tabO p.syms)) => h198 p hp p.syms k h' hk
 have hok : p.ok = (p.tabled && p.procs.all (okClauses p.syms [])) := rfl
 simp only [encPg] at q197 q198
 refine k116.gives (by simp) ?_
 simp -implicitDefEqProofs only [go_sem, c116, r116, encPg, List.append_assoc]
 refine aR hC (q197 _) fun x h1 ⟨k, hx, hk1, hkt⟩ => ?_
 subst hx
 have o1 := hk1.got (i := h.length) (by rw [iJ]; rfl)
 have o2 := hk1.got (i := h.length + 1) (aW h _ 1)
 have o1_g := fun l => aE (l := l) o1
 have o1_s := fun o l => aJ (l := l) o1 o
 have o1_e := fun o l => aH (o := o) (l := l) o1
 have o1_h := fun o => aL (o := o) o1
 have o2_g := fun l => aE (l := l) o2
 have o2_s := fun o l => aJ (l := l) o2 o
 have o2_e := fun o l => aH (o := o) (l := l) o2
 have o2_h := fun o => aL (o := o) o2
 have hk0 : Keep All h h1 := hk1.left
 have bad : p.ok = false -> ∀ (h3 l : List AObj) o o', Keep All h h3 -> h3[h.length + 1]? = some o' -> ∃ y h', Wk GLs h.length [(0, .tup [.agg [.v (.slice none 0 0), .v (.map none), .v (.map none)], .v (.int .i64 5)])] (h3.set (h.length + 1) o ++ l) [(0, y)] h' /\
   ∃ x, ARes.val y = ARes.val x /\ ∃ y, x = .tup [y, .i (okE p.ok)] /\ Keep All h h' /\ ((p.ok = true /\ ∃ k, y = .agg [.sl 3 (p.procs.map encPr), .mp k, .v (.map none)] /\ h'[k]? = some (tabO p.syms)) ∨ (p.ok = false /\ y = .agg [.v (.slice none 0 0), .v (.map none), .v (.map none)])) :=
  fun e h3 l o o' e1 e2 => by
   have kf := (e1.turn o e2 (Nat.le_add_right _ _)).trans (Keep.app All _ l)
   exact aS kf.1 ⟨_, by rw [e]; rfl, kf, .inr ⟨e, rfl⟩⟩
 rcases ht : p.tabled with _ | _
 ·have e := hok
  rw [ht, Bool.false_and] at e
  simp -implicitDefEqProofs only [go_sem, tabV, o2_g, o2_s, o2_e, Bool.not_false]
  exact bad e h1 _ _ _ hk0 o2
 ·rw [ht, Bool.true_and] at hok
  have o3 := hkt ht
  simp -implicitDefEqProofs only [go_sem, tabV, o1_g, Bool.not_true]
  have q := q198 k (h1 ++ [.cells 151 [.mp k, .v (.map none)]]) (aE o3)
  simp only [tabV] at q
  refine eS hC q fun h2 hk2 => ?_
  have o4 := hk2.got (o1_g _)
  have o5 := hk2.got (o2_g _)
  have o6 := hk2.got (i := h1.length) (by rw [iJ]; rfl)
  have hk3 := hk0.trans hk2.left
  have o4_g := fun l => aE (l := l) o4
  have o4_s := fun o l => aJ (l := l) o4 o
  have o4_e := fun o l => aH (o := o) (l := l) o4
  have o4_h := fun o => aL (o := o) o4
  have o5_g := fun l => aE (l := l) o5
  have o5_s := fun o l => aJ (l := l) o5 o
  have o5_e := fun o l => aH (o := o) (l := l) o5
  have o5_h := fun o => aL (o := o) o5
  have o6_g := fun l => aE (l := l) o6
  have o6_s := fun o l => aJ (l := l) o6 o
  have o6_e := fun o l => aH (o := o) (l := l) o6
  have o6_h := fun o => aL (o := o) o6
  rcases hs : p.procs.all (okClauses p.syms []) with _ | _
  ·rw [hs] at hok
   simp -implicitDefEqProofs only [go_sem, o5, o5_h, Bool.not_false]
   have := bad hok h2 [] (.cells 153 [.v (.slice none 0 0), .v (.map none), .v (.map none)]) _ hk3 o5
   rwa [List.append_nil] at this
  ·rw [hs] at hok
   simp -implicitDefEqProofs only [go_sem, o4, o5, o5_h, o6, Bool.not_true]
   have kf := hk3.turn (.cells 153 [.sl 3 (p.procs.map encPr), .mp k, .v (.map none)]) o5 (Nat.le_add_right _ _)
   have hne : h.length + 1 ≠ k := by rintro rfl; rw [o2] at o3; cases o3
   exact aS kf.1 ⟨_, by rw [hok]; rfl, kf, .inl ⟨hok, k, rfl, by rw [aN hne]; exact hk2.got (aE o3)⟩⟩
theorem h32 (p : Pg) (hp : p.fits) : Pure (PC GLs) 32 [encPg p] (.i (okE p.ok)) := by
 have q := fun h => h116 p hp h
 simp only [encPg] at q
 refine k32.pure (by simp) (by simp [go_sem]) (by simp [go_sem]) ?_
 simp -implicitDefEqProofs only [go_sem, c32, r32, encPg]
 refine aR hC (q _) fun x h1 ⟨y, hx, hk1, hy⟩ => ?_
 subst hx
 rcases hy with ⟨hy, k, rfl, hk⟩ | ⟨hy, rfl⟩
 ·simp -implicitDefEqProofs only [go_sem]
  refine aD ?_ ?_ <;> simp [go_sem]
 ·simp -implicitDefEqProofs only [go_sem]
  refine aD ?_ ?_ <;> simp [go_sem]
def Qy.ok (q : Qy) : Bool := decide ((q.goals.length : Int) <= 16) && (termsOk q.goals && (decide ((sizes q.goals : Int) <= 400) && (decide (q.vars <= 64) && (normT q.goals q.vars && !(q.goals.any fun t => t.goal.1 == 0)))))
structure Qy.fits (q : Qy) : Prop where
 s : sizes q.goals < 2 ^ 30
 t : strss q.goals
theorem uS {s : Sym} {l : List Sym} {j : Nat} (hj : j < l.length) (h1 : s ∉ l.take j) (h2 : s = l[j]) : idxS s l = some j := by
 induction l generalizing j with
 | nil => simp at hj
 | cons k r ih =>
  cases j with
  | zero => simp at h2; simp [idxS, h2]
  | succ j =>
   simp only [List.take_succ_cons, List.mem_cons, not_or] at h1
   simp only [List.getElem_cons_succ] at h2
   simp only [List.length_cons, Nat.add_lt_add_iff_right] at hj
   simp [idxS, h1.1, ih hj h1.2 h2]
theorem sym_eq (q : Pr) (a : List UInt8) (n : Int) : (q.name == a && q.arity == n) = decide (q.sym = ⟨a, n⟩) := by
 rw [Bool.eq_iff_iff]; simp [Pr.sym]
theorem h123 (p : Pg) (hl : p.procs.length < 2 ^ 40) (s : Sym) : Pure (PC GL) 123 [encPg p, encSym s] (.i (findS s p.syms)) := by
 obtain ⟨a, n⟩ := s
 refine k123.pure (by simp) (by simp [go_sem]) (by simp [go_sem]) ?_
 simp -implicitDefEqProofs only [go_sem, c123, r123, encPg, encSym]
 refine bX hC (fun j => Sym.mk a n ∉ p.syms.take j) (fun j => [(5, .i j)]) [2, 3] p.procs.length (by simp) ?_ ?_
 ·exact Wk.pick (by simp) (by simp [go_sem])
 ·intro j hj hI
  simp -implicitDefEqProofs only [go_sem]
  refine aG (fun hlt => ?_) (fun hlt => ?_)
  ·have hlt := aI hlt
   have hlt' : j < p.syms.length := by simpa [Pg.syms] using hlt
   have w5 : IntKind.i64.wrap ((j : Int) + 1) = (j : Int) + 1 := aF _ (by omega)
   have e := sym_eq p.procs[j] a n
   simp -implicitDefEqProofs only [go_sem, hlt, aP, encPr]
   have cont : decide (p.procs[j].sym = ⟨a, n⟩) = false -> Sym.mk a n ∉ p.syms.take (j + 1) := fun hx => by
    rw [bK hlt', List.mem_append, List.mem_singleton]
    rintro (h | h)
    ·exact hI h
    ·refine of_decide_eq_false hx ?_
     simp only [Pg.syms, List.getElem_map] at h
     exact h.symm
   have hit : decide (p.procs[j].sym = ⟨a, n⟩) = true -> findS ⟨a, n⟩ p.syms = j := fun hx => by
    rw [findS, uS hlt' hI (by simp only [Pg.syms, List.getElem_map]; exact (of_decide_eq_true hx).symm)]
   rw [<- e] at cont hit
   rcases h1 : p.procs[j].name == a with _ | _
   ·rw [h1] at cont
    simp -implicitDefEqProofs only [go_sem]
    exact ⟨cont rfl, Wk.slots (by simp) (by simp [go_sem, w5]) (by simp [go_sem])⟩
   ·simp -implicitDefEqProofs only [go_sem, hlt, aP, encPr]
    rcases h2 : p.procs[j].arity == n with _ | _
    ·rw [h1, h2] at cont
     simp -implicitDefEqProofs only [go_sem]
     exact ⟨cont rfl, Wk.slots (by simp) (by simp [go_sem, w5]) (by simp [go_sem])⟩
    ·rw [h1, h2] at hit
     simp -implicitDefEqProofs only [go_sem]
     refine aD ?_ ?_ <;> simp [go_sem, hit rfl]
  ·have hge := aK hlt
   rw [aQ (by simpa [Pg.syms] using hge)] at hI
   simp -implicitDefEqProofs only [go_sem, hlt]
   refine aD ?_ ?_ <;> simp [go_sem, findS, gD hI]
theorem qS {t : Tm} (h : t.gkind ≠ 0) : t.isSym = true := by
 unfold Tm.gkind at h
 rcases hs : t.isSym with _ | _
 ·simp [hs] at h
 ·rfl
theorem goal_sym {t : Tm} (h : (t.goal.1 == 1) = true) : t.goal.2.2.isSym = true := by
 have h : t.goal.1 = 1 := by simpa using h
 unfold Tm.goal at h ⊢
 split at h
 ·rename_i g p h1 h2
  split at h
  ·simp at h
  ·rename_i hn
   rw [if_neg hn]
   exact qS fun e => hn (.inr (.inr (.inr e)))
 ·simp at h
 ·split at h
  ·simp at h
  ·rename_i hn
   rw [if_neg hn]
   exact qS hn
theorem h221 (t : Tm) : Pure (PC GL) 221 [enc t] (.tup [encSym (match t.callee with | some s => s | none => .zero), .b t.callee.isSome]) := by
 have q98 := h98 (GL := GL) t
 simp only [encG] at q98
 have q202 := h202 (GL := GL) t.goal.2.2
 rcases hx : t.goal.1 == 1 with _ | _
 ·have e : t.callee = none := by simp only [Tm.callee, hx]; rfl
  have e1 : (t.goal.1 != 1) = true := by simp [bne, hx]
  rw [e]
  refine k221.pure (by simp) (by simp [go_sem]) (by simp [go_sem]) ?_
  simp -implicitDefEqProofs only [c221, r221, go_sem]
  refine aC hC q98 ?_
  simp -implicitDefEqProofs only [go_sem, e1]
  refine aD ?_ ?_ <;> simp [go_sem, Sym.zero, encSym]
 ·have e : t.callee = some t.goal.2.2.sym := by simp only [Tm.callee, hx, if_true]
  have e1 : (t.goal.1 != 1) = false := by simp [bne, hx]
  rw [goal_sym hx, if_pos rfl] at q202
  rw [e]
  refine k221.pure (by simp) (by simp [go_sem]) (by simp [go_sem]) ?_
  simp -implicitDefEqProofs only [c221, r221, go_sem]
  refine aC hC q98 ?_
  simp -implicitDefEqProofs only [go_sem, e1]
  refine aC hC q202 ?_
  simp -implicitDefEqProofs only [go_sem, encSym]
  refine aD ?_ ?_ <;> simp [go_sem]
theorem h146 (p : Pg) (hl : p.procs.length < 2 ^ 40) (goals : List Tm) (hg : goals.length < 2 ^ 40) (more : List Sym) (hm : more.length < 2 ^ 30) : Pure (PC GL) 146 [encPg p, .sl 4 (goals.map enc), .sl 2 (more.map encSym)] (.b (okCalls p.syms more goals)) := by
 refine k146.pure (by simp) (by simp [go_sem]) (by simp [go_sem]) ?_
 simp -implicitDefEqProofs only [go_sem, c146, r146, encPg]
 refine bX hC (fun j => okCalls p.syms more (goals.take j) = true) (fun j => [(7, .i j)]) [1, 2, 3] goals.length rfl ?_ ?_
 ·exact Wk.pick (by simp) (by simp [go_sem])
 ·intro j hj hI
  simp -implicitDefEqProofs only [go_sem]
  refine aG (fun hlt => ?_) (fun hlt => ?_)
  ·have hlt := aI hlt
   have w5 : IntKind.i64.wrap ((j : Int) + 1) = (j : Int) + 1 := aF _ (by omega)
   have hs := cT hlt fun t => okOpt (fun s => decide (s ∈ p.syms) || decide (s ∈ more)) t.callee
   have q221 := h221 (GL := GL) goals[j]
   simp -implicitDefEqProofs only [go_sem, hlt, aP]
   refine aC hC q221 ?_
   rcases hc : goals[j].callee with _ | s
   ·rw [hc] at hs
    simp -implicitDefEqProofs only [go_sem, encSym, Option.isSome_none]
    exact ⟨by unfold okCalls at hI ⊢; rw [hs, hI]; rfl, Wk.slots (by simp) (by simp [go_sem, w5]) (by simp [go_sem])⟩
   ·rw [hc] at hs
    have q123 := h123 (GL := GL) p hl s
    have q105 := h105 (GL := GL) more s hm
    have hn := findS_neg s p.syms
    simp only [encPg, encSym] at q123 q105
    simp -implicitDefEqProofs only [go_sem, encSym, Option.isSome_some]
    refine aC hC q123 ?_
    simp -implicitDefEqProofs only [go_sem, hn]
    rcases h1 : decide (s ∈ p.syms) with _ | _
    ·simp -implicitDefEqProofs only [go_sem, Bool.not_false]
     refine aC hC q105 ?_
     rcases h2 : decide (s ∈ more) with _ | _
     ·have : okCalls p.syms more goals = false := List.all_eq_false.2 ⟨_, List.getElem_mem hlt, by simp [hc, okOpt, h1, h2]⟩
      simp -implicitDefEqProofs only [go_sem, Bool.not_false]
      refine aD ?_ ?_ <;> simp [go_sem, this]
     ·simp -implicitDefEqProofs only [go_sem, Bool.not_true]
      exact ⟨by unfold okCalls at hI ⊢; rw [hs, hI]; simp [okOpt, h2], Wk.slots (by simp) (by simp [go_sem, w5]) (by simp [go_sem])⟩
    ·simp -implicitDefEqProofs only [go_sem, Bool.not_true]
     exact ⟨by unfold okCalls at hI ⊢; rw [hs, hI]; simp [okOpt, h1], Wk.slots (by simp) (by simp [go_sem, w5]) (by simp [go_sem])⟩
  ·have hge := aK hlt
   rw [aQ hge] at hI
   simp -implicitDefEqProofs only [go_sem, hlt]
   refine aD ?_ ?_ <;> simp [go_sem, hI]
end Go.Rip
