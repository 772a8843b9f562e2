/- Lists of numbers. -/
import Derived.Test.YtndcajdameofjaaGreatDoorRipAP
import Derived.Test.YtndcajdameofjaaGreatDoorRipAT
import Derived.Test.YtndcajdameofjaaGreatDoorRipAI
namespace Go.Rip
open Go Go.Proofs
variable {GL : Glob}
attribute [local irreducible] Pure
theorem h134 (l : List Int) (s : Int) (hl : l.length < 2 ^ 47) : Pure (PC GL) 134 [.sl 1 (l.map encI), .i s] (.i (idxF (fun x => s == x) l)) := by
 refine k134.pure (by simp) (by simp [go_sem]) (by simp [go_sem]) ?_
 simp -implicitDefEqProofs only [go_sem, c134, r134]
 refine cZ hC (fun j => (l.take j).any (fun x => s == x) = false) (fun j => [(8, .i j)]) [7, 0, 1] l.length rfl ?_ ?_
 ·refine Wk.slots (by simp) ?_ ?_ <;> simp [go_sem]
 ·rintro j hj hI
  simp -implicitDefEqProofs only [go_sem]
  refine aJ (fun hlt => ?_) (fun hlt => ?_)
  ·have hlt := aM hlt
   have g1 := any_snoc hlt (fun x => s == x)
   have w5 : IntKind.i64.wrap ((j : Int) + 1) = (j : Int) + 1 := aD _ (by omega)
   simp -implicitDefEqProofs only [go_sem, hlt, aW, encI]
   refine aJ (fun hx => ?_) (fun hx => ?_)
   ·simp -implicitDefEqProofs only [go_sem, hx]
    refine aF ?_ ?_ <;> simp [go_sem, idxF_hit hlt hI hx]
   ·simp -implicitDefEqProofs only [go_sem, hx]
    exact ⟨by rw [g1, hI, hx]; rfl, Wk.slots (by simp) (by simp [go_sem, w5]) (by simp [go_sem])⟩
  ·have hge := aN hlt
   rw [aV hge] at hI
   simp -implicitDefEqProofs only [go_sem, hlt]
   refine aF ?_ ?_ <;> simp [go_sem, idxF_none hI]
theorem h43 (l : List Int) (s : Int) (hl : l.length < 2 ^ 47) : Pure (PC GL) 43 [.sl 1 (l.map encI), .i s] (.b (l.any fun x => s == x)) := by
 have h := h134 (GL := GL) l s hl
 refine k43.pure (by simp) (by simp [go_sem]) (by simp [go_sem]) ?_
 simp -implicitDefEqProofs only [go_sem, c43, r43]
 repeat' (first | simp -implicitDefEqProofs only [go_sem, *, idxF_ge] | with_reducible refine aZ (fun _ => ?_) (fun _ => ?_) | with_reducible refine bA (fun _ => ?_) (fun _ => ?_) | with_reducible refine aJ (fun _ => ?_) (fun _ => ?_) | with_reducible refine aF ?_ ?_ | ((with_reducible apply aC hC); (exact h)) | ((with_reducible refine And.intro ?bnd ?_); (case bnd => decide)) | fail)
 all_goals simp_all [go_sem]
theorem fin_same {GL : Glob} {x v : AV} {h : List AObj} (e : x = v) : ∃ y h', Wk GL h.length [(0, x)] h [(0, y)] h' /\ h' = h /\ ARes.val y = ARes.val v := ⟨v, h, by rw [e]; exact Wk.refl (Nat.le_refl _), rfl, rfl⟩
theorem h248 (t : Tm) (ht : t.size < 2 ^ 30) : Pure (PC GL) 248 [enc t] (.tup [.i t.size, .i t.deep]) := by
 induction t using dK with
 | _ t ih =>
 rw [cC] at ht
 refine k248.pure (by simp) (by simp [go_sem]) (by simp [go_sem]) ?_
 simp -implicitDefEqProofs only [c248, r248, go_sem]
 refine cZ hC (fun _ => True) (fun j => [(13, .i j), (4, .i (1 + sizes (t.l.take j) : Nat)), (5, .i (deeps (t.l.take j) : Nat))]) [11, 12] t.l.length trivial ?_ ?_
 ·refine Wk.slots (by simp) ?_ ?_ <;> simp [go_sem, sizes, deeps]
 ·intro j hj _
  simp -implicitDefEqProofs only [go_sem]
  refine aJ (fun hlt => ?_) (fun hlt => ?_)
  ·have hlt := aM hlt
   simp -implicitDefEqProofs only [go_sem, hlt, aW]
   have h1 := bO hlt
   refine aC hC (ih _ (List.getElem_mem hlt) (by omega)) ?_
   simp -implicitDefEqProofs only [go_sem]
   have h2 := bG t.l j
   have h4 := aX t.l
   have h3 := deeps_sizes (t.l.take j)
   refine Wk.slots (by simp) ?_ ?_ <;> simp (disch := omega) [go_sem, aD, bK hlt, cP hlt, imax_nat]
   omega
  ·have hge := aN hlt
   have h3 := deeps_sizes t.l
   simp -implicitDefEqProofs only [go_sem, hlt]
   refine aF ?_ ?_ <;> simp (disch := omega) [go_sem, aD, aV hge, cC, deep_eq]
   omega
theorem h203 (l : List Tm) (hl : sizes l < 2 ^ 30) : Pure (PC GL) 203 [.sl 4 (l.map enc)] (.i (sizes l)) := by
 have h4 := aX l
 refine k203.pure (by simp) (by simp [go_sem]) (by simp [go_sem]) ?_
 simp -implicitDefEqProofs only [c203, r203, go_sem]
 refine cZ hC (fun _ => True) (fun j => [(10, .i j), (3, .i (sizes (l.take j) : Nat))]) [8, 9] l.length trivial ?_ ?_
 ·refine Wk.slots (by simp) ?_ ?_ <;> simp [go_sem, sizes]
 ·intro j hj _
  simp -implicitDefEqProofs only [go_sem]
  refine aJ (fun hlt => ?_) (fun hlt => ?_)
  ·have hlt := aM hlt
   simp -implicitDefEqProofs only [go_sem, hlt, aW]
   have h1 := bO hlt
   have h2 := bG l j
   refine aC hC (h248 _ (by omega)) ?_
   simp -implicitDefEqProofs only [go_sem]
   refine Wk.slots (by simp) ?_ ?_ <;> simp (disch := omega) [go_sem, aD, bK hlt]
  ·have hge := aN hlt
   simp -implicitDefEqProofs only [go_sem, hlt]
   refine aF ?_ ?_ <;> simp (disch := omega) [go_sem, aV hge]
theorem h150 (l : List Int) (f : FuncId) (cap : List AV) (p : Int -> Bool) (h : List AObj) (hl : l.length < 2 ^ 47) (hf : ∀ x ∈ l, PureOn (PC GL) f (.i x :: cap) (.b (p x)) h) : PureOn (PC GL) 150 [.sl 1 (l.map encI), .fn (.func f) [] cap] (.i (idxF p l)) h := by
 refine k150.call (by simp) ?_
 simp -implicitDefEqProofs only [go_sem, c150, r150]
 refine cZ hC (fun j => (l.take j).any p = false) (fun j => [(8, .i j)]) [7, 0, 1] l.length rfl ?_ ?_
 ·exact Wk.pick (Nat.le_refl _) (by simp [go_sem])
 ·rintro j hj hI
  simp -implicitDefEqProofs only [go_sem]
  refine aJ (fun hlt => ?_) (fun hlt => ?_)
  ·have hlt := aM hlt
   have g1 := any_snoc hlt p
   have w5 : IntKind.i64.wrap ((j : Int) + 1) = (j : Int) + 1 := aD _ (by omega)
   simp -implicitDefEqProofs only [go_sem, hlt, aW, encI]
   refine cF hC (hf _ (List.getElem_mem hlt)) ?_
   simp -implicitDefEqProofs only [go_sem]
   refine aJ (fun hx => ?_) (fun hx => ?_)
   ·simp -implicitDefEqProofs only [go_sem, hx]
    exact fin_same (by rw [idxF_hit hlt hI hx])
   ·simp -implicitDefEqProofs only [go_sem, hx]
    exact ⟨by rw [g1, hI, hx]; rfl, Wk.pick (Nat.le_refl _) (by simp [go_sem, w5])⟩
  ·have hge := aN hlt
   rw [aV hge] at hI
   simp -implicitDefEqProofs only [go_sem, hlt]
   exact fin_same (by rw [idxF_none hI])
theorem h61 (l : List Int) (f : FuncId) (cap : List AV) (p : Int -> Bool) (h : List AObj) (hl : l.length < 2 ^ 47) (hf : ∀ x ∈ l, PureOn (PC GL) f (.i x :: cap) (.b (p x)) h) : PureOn (PC GL) 61 [.sl 1 (l.map encI), .fn (.func f) [] cap] (.b (l.any p)) h := by
 refine k61.call (by simp) ?_
 simp -implicitDefEqProofs only [go_sem, c61, r61]
 refine cF hC (h150 l f cap p h hl hf) ?_
 simp -implicitDefEqProofs only [go_sem, idxF_ge]
 exact fin_same rfl
theorem h253 (n : Nat) (hn : n < 2 ^ 40) (h : List AObj) : Gives (PC GL) 253 [.v (.slice none 0 0), .i n] h fun x h' => (n = 0 /\ x = .v (.slice none 0 0) /\ h' = h) ∨ (0 < n /\ ∃ k, x = .own k 4 [] /\ h'[k]? = some (.spare 24 4) /\ Keep All h h') := by
 refine k253.gives (by simp) ?_
 simp -implicitDefEqProofs only [go_sem, c253, r253]
 have e0 : decide ((n : Int) < 0) = false := by simp
 have w0 : IntKind.i64.wrap (0 - ((0 : Nat) : Int)) = 0 := by decide
 have w1 : IntKind.i64.wrap (n : Int) = n := aD _ (by omega)
 simp -implicitDefEqProofs only [go_sem, e0, w0, w1, Int.sub_zero]
 refine aJ (fun hlt => ?_) (fun hlt => ?_)
 ·have hn0 : 0 < n := by have := of_decide_eq_true hlt; omega
  simp -implicitDefEqProofs only [go_sem, hlt]
  refine ⟨⟨by omega, by omega⟩, ⟨by simp, by simp, by simp⟩, ?_⟩
  refine aK (by simp) (.inr ⟨hn0, _, rfl, ?_, ?_⟩)
  ·rw [List.append_assoc]; exact aE h _ 1
  ·rw [List.append_assoc]; exact Keep.app _ _ _
 ·have hn0 : n = 0 := by have := of_decide_eq_false hlt; omega
  simp -implicitDefEqProofs only [go_sem, hlt]
  exact aK (Nat.le_refl _) (.inl ⟨hn0, rfl, rfl⟩)
theorem flatT_take (ls : List (List Tm)) (j : Nat) : (ls.take j).flatten.length <= ls.flatten.length := by
 conv => rhs; rw [<- List.take_append_drop j ls, List.flatten_append, List.length_append]
 omega
theorem flat_snoc {ls : List (List Tm)} {j : Nat} (h : j < ls.length) : (ls.take (j + 1)).flatten = (ls.take j).flatten ++ ls[j] := by
 rw [bH h, List.flatten_append]; simp
def encT (l : List Tm) : AV := .sl 4 (l.map enc)
theorem free_encT : Free encT := ⟨fun κ a => by simp only [encT, ren, rens_encs], fun n a => by simp only [encT, bd, bds_encs]⟩
theorem h218 (ls : List (List Tm)) (hl : ls.flatten.length < 2 ^ 40) (hl2 : ls.length < 2 ^ 40) : Pure (PC GL) 218 [.sl 1 (ls.map encT)] (encT ls.flatten) := by
 have r1 := fun κ => free_encT.rens κ ls
 have r2 := fun n => free_encT.bds n ls
 refine k218.pure (by simp) (by simp [go_sem, r2]) (by rw [free_encT.2]; trivial) ?_
 simp -implicitDefEqProofs only [go_sem, c218, r218]
 refine cZ hC (fun _ => True) (fun j => [(11, .i j), (3, .i ((ls.take j).flatten.length : Nat))]) [0, 9, 10] ls.length trivial ?_ ?_
 ·exact Wk.pick (by simp) (by simp [go_sem])
 ·intro j hj _
  have hf := flatT_take ls j
  simp -implicitDefEqProofs only [go_sem]
  refine aJ (fun hlt => ?_) (fun hlt => ?_)
  ·have hlt := aM hlt
   have hf2 := flatT_take ls (j + 1)
   have hs := flat_snoc hlt
   rw [hs, List.length_append] at hf2
   have w5 : IntKind.i64.wrap ((j : Int) + 1) = (j : Int) + 1 := aD _ (by omega)
   have w6 : IntKind.i64.wrap (((ls.take j).flatten.length : Int) + (ls[j].length : Int)) = ((ls.take (j + 1)).flatten.length : Int) := by rw [aD _ (by omega), hs, List.length_append]; omega
   have w7 : decide (((ls.take (j + 1)).flatten.length : Int) < 0) = false := by simp
   simp -implicitDefEqProofs only [go_sem, hlt, aW, encT, w6, w7, w5]
   exact Wk.pick (by simp) (by simp [go_sem])
  ·have hge := aN hlt
   simp -implicitDefEqProofs only [go_sem, hlt, aV hge]
   refine aH hC (h253 _ (by omega) _) fun x h' hx => ?_
   simp -implicitDefEqProofs only [go_sem]
   refine bB hC (fun j a => [(27, .i j), (25, .sl 1 (ls.map encT)), (26, .i ls.length), (6, .own a 4 ((ls.take j).flatten.map enc))]) (fun _ a h => h[a]? = some (.spare 24 4)) ls.length ?_ ?_
   ·rcases hx with ⟨hn, rfl, rfl⟩ | ⟨hn, k, rfl, hk, hK⟩
    ·refine ⟨0, [.spare 24 4], (Wk.own_nil (h := []) 24 4 6 (by simp [go_sem]) (Nat.zero_le _)).trans (Wk.pick (Nat.zero_le _) ?_), rfl⟩
     simp [go_sem]
    ·exact ⟨k, h', Wk.pick (Nat.zero_le _) (by simp [go_sem]), hk⟩
   ·intro j a h'' hj ha
    have hf := flatT_take ls j
    simp -implicitDefEqProofs only [go_sem]
    refine aJ (fun hlt => ?_) (fun hlt => ?_)
    ·have hlt := aM hlt
     have hf2 := flatT_take ls (j + 1)
     have hs := flat_snoc hlt
     rw [hs, List.length_append] at hf2
     have w5 : IntKind.i64.wrap ((j : Int) + 1) = (j : Int) + 1 := aD _ (by omega)
     simp -implicitDefEqProofs only [go_sem, hlt, aW, encT, ha, w5]
     refine ⟨by show _ <= _; omega, ?_⟩
     exact ⟨_, _, Wk.pick (Nat.zero_le _) (by simp [go_sem, hs]; rfl), by simp [go_sem]⟩
    ·have hge := aN hlt
     simp -implicitDefEqProofs only [go_sem, hlt, aV hge]
     refine aF (by simp [go_sem, encT]) (by rw [free_encT.2]; trivial)
def Cl.parts (c : Cl) : List Tm := c.head ++ (c.guard ++ c.body)
theorem h140 (c : Cl) (hl : c.parts.length < 2 ^ 40) : Pure (PC GL) 140 [encCl c] (.sl 4 (c.parts.map enc)) := by
 have h := h218 (GL := GL) [c.head, c.guard, c.body] (by simpa [Cl.parts] using hl) (by simp)
 refine k140.pure (by simp) (by simp [go_sem]) (by simp [go_sem]) ?_
 simp -implicitDefEqProofs only [go_sem, c140, r140, encCl]
 refine call_fz h ?_ ?_
 ·simp [fzs, fzGs, fzG, encT, fzGs_encs, <- encs_map]
 simp -implicitDefEqProofs only [go_sem]
 refine aF ?_ (by simp [go_sem])
 simp [go_sem, encT, Cl.parts]
theorem h260 (r : Int) : Pure (PC GL) 260 [.v (.int .i32 r)] (.b (decide (r < 32) || decide (126 < r))) := by
 refine k260.pure (by simp) (by simp [go_sem]) (by simp [go_sem]) ?_
 simp -implicitDefEqProofs only [c260, r260, go_sem]
 repeat' (first | simp -implicitDefEqProofs only [go_sem, *] | with_reducible refine aZ (fun _ => ?_) (fun _ => ?_) | with_reducible refine bA (fun _ => ?_) (fun _ => ?_) | with_reducible refine aJ (fun _ => ?_) (fun _ => ?_) | with_reducible refine aF ?_ ?_ | ((with_reducible refine And.intro ?bnd ?_); (case bnd => decide)) | fail)
 all_goals simp_all
theorem h315x (s : List UInt8) (f : FuncId) (_hs : s.length < 2 ^ 30) (hf : ∀ r, Pure (PC GL) f [.v (.int .i32 r)] (.b (decide (r < 32) || decide (126 < r)))) : Pure (PC GL) 315 [.str s, .fn (.func f) [] [], .b true] (.i (firstBad s)) := by
 refine k315.pure (by simp) (by simp [go_sem]) (by simp [go_sem]) ?_
 simp -implicitDefEqProofs only [go_sem, c315, r315]
 refine s_for hC (fun j => (s.take j).all byteOk = true) (fun _ => [(10, .ref 0 0), (0, .str s), (1, .fn (.func f) [] []), (2, .b true)]) (fun j => [.siter ⟨s.toArray⟩ j]) s.length (by simp) ?_ ?_
 ·refine Wk.slots (by simp) ?_ ?_ <;> simp [go_sem]
 ·intro j hj hI
  simp -implicitDefEqProofs only [go_sem]
  refine nxO_and (fun hlt => ?_) (fun hlt => ?_)
  ·rw [size_mk] at hlt
   have hlt : j < s.length := Nat.le_of_ble_eq_true hlt
   by_cases hb : byteOk s[j] = true
   ·simp -implicitDefEqProofs only [go_sem, decode_ok hlt hb]
    refine aC hC (hf _) ?_
    have hb' := hb
    simp only [byteOk, Bool.and_eq_true, decide_eq_true_eq] at hb'
    have e : (decide (((s[j]).toNat : Int) < 32) || decide (126 < ((s[j]).toNat : Int))) = false := by simp; omega
    simp -implicitDefEqProofs only [go_sem, e]
    refine ⟨hlt, by rw [all_snoc hlt, hI, hb]; rfl, Wk.slots (by simp) ?_ ?_⟩ <;> simp [go_sem]
   ·have hb : byteOk s[j] = false := by simpa using hb
    have hd := decode_bad hlt hb
    simp -implicitDefEqProofs only [go_sem]
    refine aC hC (hf _) ?_
    have e : (decide (((Utf8.decode ⟨s.toArray⟩ j).1 : Int) < 32) || decide (126 < ((Utf8.decode ⟨s.toArray⟩ j).1 : Int))) = true := by simp; omega
    simp -implicitDefEqProofs only [go_sem, e]
    refine aF ?_ ?_ <;> simp [go_sem, firstBad_some hlt hI hb]
  ·rw [size_mk] at hlt
   have hge : s.length <= j := by
    rcases Nat.lt_or_ge j s.length with h | h
    ·rw [show Nat.blt j s.length = true from Nat.ble_eq_true_of_le h] at hlt; cases hlt
    ·exact h
   rw [aV hge] at hI
   simp -implicitDefEqProofs only [go_sem]
   refine aF ?_ ?_ <;> simp [go_sem, firstBad_none hI]
theorem h301x (s : List UInt8) (f : FuncId) (_hs : s.length < 2 ^ 30) (h : Pure (PC GL) 315 [.str s, .fn (.func f) [] [], .b true] (.i (firstBad s))) : Pure (PC GL) 301 [.str s, .fn (.func f) [] []] (.i (firstBad s)) := by
 refine k301.pure (by simp) (by simp [go_sem]) (by simp [go_sem]) ?_
 simp -implicitDefEqProofs only [c301, r301, go_sem]
 repeat' (first | simp -implicitDefEqProofs only [go_sem, *] | with_reducible refine aZ (fun _ => ?_) (fun _ => ?_) | with_reducible refine bA (fun _ => ?_) (fun _ => ?_) | with_reducible refine aJ (fun _ => ?_) (fun _ => ?_) | with_reducible refine aF ?_ ?_ | ((with_reducible apply aC hC); (exact h)) | ((with_reducible refine And.intro ?bnd ?_); (case bnd => decide)) | fail)
 all_goals simp_all [go_sem]
theorem h259 (s : List UInt8) (hs : s.length < 2 ^ 30) : Pure (PC GL) 259 [.str s, .fn (.func 260) [] []] (.b (!s.all byteOk)) := by
 have h := h315x (GL := GL) s 260 hs h260
 have h1 := h301x (GL := GL) s 260 hs h
 have e : decide (firstBad s >= 0) = !s.all byteOk := by
  rw [<- firstBad_neg, Bool.eq_iff_iff]; simp
 refine k259.pure (by simp) (by simp [go_sem]) (by simp [go_sem]) ?_
 simp -implicitDefEqProofs only [c259, r259, go_sem]
 repeat' (first | simp -implicitDefEqProofs only [go_sem, *] | with_reducible refine aZ (fun _ => ?_) (fun _ => ?_) | with_reducible refine bA (fun _ => ?_) (fun _ => ?_) | with_reducible refine aJ (fun _ => ?_) (fun _ => ?_) | with_reducible refine aF ?_ ?_ | ((with_reducible apply aC hC); (exact h1)) | ((with_reducible refine And.intro ?bnd ?_); (case bnd => decide)) | fail)
 all_goals simp_all [go_sem]
theorem h229 (s : List UInt8) (hs : s.length < 2 ^ 30) : Pure (PC GL) 229 [.str s] (.b (nameOk s)) := by
 have h := h259 (GL := GL) s hs
 refine k229.pure (by simp) (by simp [go_sem]) (by simp [go_sem]) ?_
 simp -implicitDefEqProofs only [go_sem, c229, r229, dge]
 repeat' (first | simp -implicitDefEqProofs only [go_sem, *, dle] | with_reducible refine aZ (fun _ => ?_) (fun _ => ?_) | with_reducible refine bA (fun _ => ?_) (fun _ => ?_) | with_reducible refine aJ (fun _ => ?_) (fun _ => ?_) | with_reducible refine aF ?_ ?_ | ((with_reducible apply aC hC); (exact h)) | ((with_reducible refine And.intro ?bnd ?_); (case bnd => decide)) | fail)
 all_goals simp_all [go_sem, nameOk]
 all_goals (intros; omega)
mutual
def Tm.pre : Tm -> List Tm
 | .mk k n s l => .mk k n s l :: pres l
def pres : List Tm -> List Tm
 | [] => []
 | t :: r => t.pre ++ pres r
end
theorem pre_eq (t : Tm) : t.pre = t :: pres t.l := by cases t; rfl
theorem pres_app : ∀ a b, pres (a ++ b) = pres a ++ pres b
 | [], b => rfl
 | x :: r, b => by simp only [List.cons_append, pres, pres_app r b, List.append_assoc]
theorem pres_snoc {l : List Tm} {j : Nat} (h : j < l.length) : pres (l.take (j + 1)) = pres (l.take j) ++ l[j].pre := by
 rw [bH h, pres_app]; simp [pres]
mutual
theorem pre_length : ∀ t : Tm, t.pre.length = t.size
 | .mk _ _ _ l => by simp only [Tm.pre, Tm.size, List.length_cons, pres_length l]
theorem pres_length : ∀ l, (pres l).length = sizes l
 | [] => rfl
 | t :: r => by simp only [pres, sizes, List.length_append, pre_length t, pres_length r]
end
def addV (l : List Int) (t : Tm) : List Int := if t.kind = 1 /\ (l.any fun x => x == t.n) = false then l ++ [t.n] else l
def varsOf (ts : List Tm) : List Int := (pres ts).foldl addV []
theorem addV_len (l : List Int) (t : Tm) : l.length <= (addV l t).length /\ (addV l t).length <= l.length + 1 := by
 unfold addV; split <;> simp
theorem foldV_len : ∀ (ts : List Tm) (l : List Int), (ts.foldl addV l).length <= l.length + ts.length
 | [], l => by simp
 | t :: r, l => by
  have := foldV_len r (addV l t)
  have := addV_len l t
  simp only [List.foldl_cons, List.length_cons]; omega
theorem h257 {Φ : List Tm -> List AObj -> Prop} {K : Nat -> AObj -> Prop} (happ : ∀ v h l, Φ v h -> Φ v (h ++ l)) (hK : ∀ v h, Φ v h -> ∀ i cs, h.length <= i -> ¬ K i (.cells 24 cs)) (k N : Nat)
  (hY : ∀ v x h, v.length < N -> Φ v h -> PC GL (.yld k) [enc x] h fun r h' => r = .val (.b true) /\ Φ (v ++ [x]) h' /\ Keep K h h') (t : Tm) (ht : t.size < 2 ^ 30) :
  ∀ v h, v.length + t.size <= N -> Φ v h -> Gives (PC GL) 257 [enc t, .yld k] h fun x h' => x = .b true /\ Φ (v ++ t.pre) h' /\ Keep K h h' := by
 induction t using dK with
 | _ t ih =>
 intro v h hN hv
 have hs := cC t
 have h4 := aX t.l
 refine k257.gives (by simp) ?_
 simp -implicitDefEqProofs only [go_sem, c257, r257]
 refine call_any hC (hY v t _ (by omega) (happ _ _ _ hv)) fun r h1 ⟨hr, hv1, hk1⟩ => ?_
 subst hr
 have hb : h1[h.length]? = some (.cells 24 (enc t).cells) := hk1.get (by simp [go_sem]) (hK v h hv _ _ (Nat.le_refl _))
 have hk0 : Keep K h h1 := hk1.left
 simp -implicitDefEqProofs only [go_sem, hb]
 refine bB hC (fun j _ => [(14, .i j), (12, .sl 4 (t.l.map enc)), (13, .i t.l.length), (1, .yld k)]) (fun j (_ : Unit) h' => Φ (v ++ (t :: pres (t.l.take j))) h' /\ Keep K h h') t.l.length ?_ ?_
 ·exact ⟨(), h1, Wk.pick hk0.1 (by simp [go_sem]), by simpa [pres] using hv1, hk0⟩
 ·rintro j - h2 hj ⟨hv2, hk2⟩
  simp -implicitDefEqProofs only [go_sem]
  refine aJ (fun hlt => ?_) (fun hlt => ?_)
  ·have hlt := aM hlt
   have g1 := bO hlt
   have g2 := bG t.l (j + 1)
   have g3 := bK hlt
   have w5 : IntKind.i64.wrap ((j : Int) + 1) = (j : Int) + 1 := aD _ (by omega)
   simp -implicitDefEqProofs only [go_sem, hlt, aW]
   refine aH hC (ih _ (List.getElem_mem hlt) (by omega) (v ++ (t :: pres (t.l.take j))) _ (by simp only [List.length_append, List.length_cons, pres_length]; omega) (happ _ _ _ hv2)) fun x h3 ⟨hx, hv3, hk3⟩ => ?_
   subst hx
   have hk4 : Keep K h h3 := hk2.trans hk3.left
   simp -implicitDefEqProofs only [go_sem]
   exact ⟨(), h3, Wk.pick hk4.1 (by simp [go_sem, w5]), by rw [pres_snoc hlt]; simpa using hv3, hk4⟩
  ·have hge := aN hlt
   rw [aV hge] at hv2
   simp -implicitDefEqProofs only [go_sem, hlt]
   exact aK hk2.1 ⟨rfl, by rw [pre_eq]; exact hv2, hk2⟩
theorem g256 {Φ : List Tm -> List AObj -> Prop} {K : Nat -> AObj -> Prop} (happ : ∀ v h l, Φ v h -> Φ v (h ++ l)) (hK : ∀ v h, Φ v h -> ∀ i cs, h.length <= i -> ¬ K i (.cells 24 cs)) (k N : Nat)
  (hY : ∀ v x h, v.length < N -> Φ v h -> PC GL (.yld k) [enc x] h fun r h' => r = .val (.b true) /\ Φ (v ++ [x]) h' /\ Keep K h h') (t : Tm) (ht : t.size < 2 ^ 30)
  (v : List Tm) (h : List AObj) (b : Nat) (hN : v.length + t.size <= N) (hv : Φ v h) (hb : h[b]? = some (.cells 24 (enc t).cells)) : PC GL (.gen 256) [.yld k, .ref b 0] h fun r h' => (∃ x, r = .val x) /\ Φ (v ++ t.pre) h' /\ Keep K h h' := by
 refine k256.gen (by simp) ?_
 simp -implicitDefEqProofs only [go_sem, c256, r256, hb]
 refine aH hC (h257 happ hK k N hY t ht v _ hN hv) fun x h3 ⟨hx, hv3, hk3⟩ => ?_
 simp -implicitDefEqProofs only [go_sem]
 exact ⟨_, h3, Wk.refl hk3.1, ⟨_, rfl⟩, hv3, hk3⟩
theorem h223 (t : Tm) (h : List AObj) : Gives (PC GL) 223 [enc t] h fun x h' => x = .fn (.func 256) [] [.ref h.length 0] /\ h' = h ++ [.cells 24 (enc t).cells] := by
 refine k223.gives (by simp) ?_
 simp -implicitDefEqProofs only [go_sem, c223, r223]
 exact aK (by simp) ⟨rfl, rfl⟩
def VarsAt (v : List Tm) (h : List AObj) : Prop := ∃ cv, h[0]? = some (.cells 61 [cv]) /\ h[1]? = some (.map ((v.foldl addV []).map encI) ((v.foldl addV []).map fun _ => .b true)) /\ h[2]? = some (.cells 288 [.mp 1]) /\
 ((v.foldl addV [] = [] /\ cv = .v (.slice none 0 0)) ∨ ∃ j, 2 < j /\ cv = .own j 1 ((v.foldl addV []).map encI) /\ h[j]? = some (.spare 3 1))
def VarsK (i : Nat) (o : AObj) : Prop := i < 2 ∨ o = .spare 3 1
def idxI (s : Int) : List Int -> Option Nat
 | [] => none
 | k :: r => if s = k then some 0 else (idxI s r).map (· + 1)
theorem find_int (s : Int) : ∀ ks : List Int, findA (.one (.int .i64)) (.v (.int .i64 s)) (ks.map encI) = some (idxI s ks)
 | [] => by simp [findA, eqKQ, eqAV, idxI]
 | k :: r => by
  simp only [List.map_cons, findA, find_int s r, idxI, encI, eqKQ, eqAV, and_self, if_true]
  by_cases h : s = k
  ·simp [h]
  ·have : (s == k) = false := by simpa using h
   simp [h, this]
theorem idxI_none {s : Int} : ∀ {ks : List Int}, (ks.any fun x => x == s) = false -> idxI s ks = none
 | [], _ => rfl
 | k :: r, h => by
  simp only [List.any_cons, Bool.or_eq_false_iff, beq_eq_false_iff_ne] at h
  simp [idxI, Ne.symm h.1, idxI_none h.2]
theorem idxI_some {s : Int} : ∀ {ks : List Int}, (ks.any fun x => x == s) = true -> ∃ i, idxI s ks = some i /\ i < ks.length
 | k :: r, h => by
  by_cases he : s = k
  ·exact ⟨0, by simp [idxI, he], by simp⟩
  ·simp only [List.any_cons, Bool.or_eq_true, beq_iff_eq] at h
   obtain ⟨i, h1, h2⟩ := idxI_some (h.resolve_left (Ne.symm he))
   exact ⟨i + 1, by simp [idxI, he, h1], by simpa using h2⟩
theorem VarsAt.app {v : List Tm} {h l : List AObj} (hv : VarsAt v h) : VarsAt v (h ++ l) := by
 obtain ⟨cv, h0, h1, h2, h3⟩ := hv
 refine ⟨cv, aG h0, aG h1, aG h2, ?_⟩
 rcases h3 with h3 | ⟨j, a, b, c⟩
 ·exact .inl h3
 ·exact .inr ⟨j, a, b, aG c⟩
theorem foldV_snoc (v : List Tm) (x : Tm) : (v ++ [x]).foldl addV [] = addV (v.foldl addV []) x := by simp
theorem y249 {τ : List (Nat × AV)} (h3 : tget τ 3 = .ref 0 0) (h4 : tget τ 4 = .ref 2 0) (k : Nat) (hk : 2 < k) (v : List Tm) (x : Tm) (h : List AObj) (hN : v.length < 2 ^ 32) (hv : VarsAt v h)
  (hl : h[k]? = some (.loop τ 38 [17] (rfAt Tryz.prog Tryz.f249 0).1 (rfAt Tryz.prog Tryz.f249 0).2 .ready none)) :
  PC GL (.yld k) [enc x] h fun r h' => r = .val (.b true) /\ VarsAt (v ++ [x]) h' /\ Keep VarsK h h' := by
 obtain ⟨cv, o0, o1, o2, o3⟩ := hv
 have hn := foldV_len v []
 refine ayieldP hl kra249_0 krb249_0 rfl rfl rfl rfl ?_
 have hl' := fun l => aG (l := l) hl
 simp -implicitDefEqProofs only [go_sem, ra249_0, hl']
 rw [aR hl]
 generalize hB : h.set k (AObj.loop τ 38 [17] (rfAt Tryz.prog Tryz.f249 0).1 (rfAt Tryz.prog Tryz.f249 0).2 LoopState.busy none) = hb
 have q0 : hb[0]? = some (.cells 61 [cv]) := by rw [<- hB, aT (by omega)]; exact o0
 have q1 : hb[1]? = some (.map ((v.foldl addV []).map encI) ((v.foldl addV []).map fun _ => .b true)) := by rw [<- hB, aT (by omega)]; exact o1
 have q2 : hb[2]? = some (.cells 288 [.mp 1]) := by rw [<- hB, aT (by omega)]; exact o2
 have qk : hb[k]? = some (.loop τ 38 [17] (rfAt Tryz.prog Tryz.f249 0).1 (rfAt Tryz.prog Tryz.f249 0).2 .busy none) := by rw [<- hB]; exact aL hl
 have hlen : h.length = hb.length := by rw [<- hB]; simp
 have q0' := fun l => aG (l := l) q0
 have q1' := fun l => aG (l := l) q1
 have q2' := fun l => aG (l := l) q2
 have qk' := fun l => aG (l := l) qk
 rw [hlen]
 have hv0 : VarsAt v h := ⟨cv, o0, o1, o2, o3⟩
 have l0 := aQ q0
 have l1 := aQ q1
 have l2 := aQ q2
 have lk := aQ qk
 -- nothing is added
 have same : ∀ cs, (v ++ [x]).foldl addV [] = v.foldl addV [] -> ∃ h', Wk GL hb.length [] ((hb ++ [AObj.cells 24 cs]).set k (AObj.loop τ 38 [17] (rfAt Tryz.prog Tryz.f249 0).1 (rfAt Tryz.prog Tryz.f249 0).2 LoopState.ready none)) [] h' /\
   VarsAt (v ++ [x]) h' /\ Keep VarsK h h' := fun cs e1 => by
  refine ⟨_, Wk.refl (by simp), ?_⟩
  rw [aR qk, <- hB, set_back hl]
  refine ⟨?_, Keep.app _ _ _⟩
  have := hv0.app (l := [AObj.cells 24 cs])
  unfold VarsAt at this ⊢
  rw [e1]; exact this
 by_cases hx : x.kind = 1
 ·have e : (x.kind == 1) = true := by simpa using hx
  rcases hb2 : (v.foldl addV []).any fun y => y == x.n with _ | _
  ·have hi := idxI_none hb2
   have e1 : (v ++ [x]).foldl addV [] = v.foldl addV [] ++ [x.n] := by rw [foldV_snoc, addV, if_pos ⟨hx, hb2⟩]
   have ne1 : ¬ (1 = k) := by omega
   have ne0 : ¬ (0 = k) := by omega
   have kh : ∀ (M C o1 o2 : AObj) (l : List AObj) (i : Nat) (o : AObj), h[i]? = some o -> ¬ VarsK i o -> ((((hb.set 1 M).set 0 C).set k (AObj.loop τ 38 [17] (rfAt Tryz.prog Tryz.f249 0).1 (rfAt Tryz.prog Tryz.f249 0).2 LoopState.ready none)) ++ l)[i]? = some o := fun M C o1 o2 l i o hio hn => by
    have hi := aQ hio
    rw [hlen] at hi
    rw [List.getElem?_append_left (by simpa using hi)]
    by_cases e : k = i
    ·subst e
     rw [hl] at hio
     cases hio
     rw [List.getElem?_set_self (by simpa using hi)]
    ·rw [List.getElem?_set_ne e, List.getElem?_set_ne (by rintro rfl; exact hn (.inl (by omega))), List.getElem?_set_ne (by rintro rfl; exact hn (.inl (by omega))), <- hB, List.getElem?_set_ne e]
     exact hio
   rcases o3 with ⟨ov, rfl⟩ | ⟨j, hj, rfl, oj⟩
   ·simp -implicitDefEqProofs only [go_sem, rb249_0, e, h3, h4, q0, q1, q2, qk, find_int, hi, set_lt, get_lt, get_ge, List.getElem?_set_ne, List.length_set, Nat.sub_self, Nat.le_refl, ne_eq, not_false_eq_true, l0, l1, l2, lk, ne1, ne0, Nat.one_ne_zero, blt01, List.append_assoc]
    refine ⟨by decide, _, Wk.refl (by simp), ?_, by simp; omega, kh _ _ .dead .dead _⟩
    unfold VarsAt
    rw [e1, ov]
    have ne2 : ¬ (k = 2) := by omega
    have ne1' : ¬ (k = 1) := by omega
    have ne0' : ¬ (k = 0) := by omega
    refine ⟨.own (hb.length + 2) 1 [.i x.n], ?_, ?_, ?_, .inr ⟨hb.length + 2, by omega, rfl, ?_⟩⟩
    ·simp [List.length_set, ne_eq, not_false_eq_true, l0, ne0']
    ·simp [List.length_set, ne_eq, not_false_eq_true, l1, ne1', encI]
    ·rw [get_lt (by simpa using l2), aT ne2, aT (by omega), aT (by omega)]; exact q2
    ·simp [List.length_set, Nat.add_sub_cancel_left, Nat.le_add_right]
   ·have jk : ¬ (j = k) := by rintro rfl; rw [hl] at oj; cases oj
    have kj : ¬ (k = j) := fun e => jk e.symm
    have qj : hb[j]? = some (.spare 3 1) := by rw [<- hB, aT kj]; exact oj
    have lj := aQ qj
    have n1j : ¬ (1 = j) := by omega
    have nj1 : ¬ (j = 1) := by omega
    have nj0 : ¬ (j = 0) := by omega
    have n2j : ¬ (j = 2) := by omega
    simp -implicitDefEqProofs only [go_sem, rb249_0, e, h3, h4, q0, q1, q2, qk, qj, find_int, hi, set_lt, get_lt, get_ge, List.getElem?_set_ne, List.length_set, Nat.sub_self, Nat.le_refl, ne_eq, not_false_eq_true, l0, l1, l2, lk, lj, n1j, nj0, jk, ne1, ne0, Nat.one_ne_zero, blt01, List.append_assoc]
    have hn' := hn
    simp only [List.length_nil, Nat.zero_add] at hn'
    refine ⟨by omega, _, Wk.refl (by simp), ?_, by simp; omega, fun i o hio hno => ?_⟩
    ·unfold VarsAt
     rw [e1]
     have ne2 : ¬ (k = 2) := by omega
     have ne1' : ¬ (k = 1) := by omega
     have ne0' : ¬ (k = 0) := by omega
     refine ⟨.own (hb.length + 2) 1 ((v.foldl addV [] ++ [x.n]).map encI), ?_, ?_, ?_, .inr ⟨hb.length + 2, by omega, rfl, ?_⟩⟩
     ·simp [List.length_set, ne_eq, not_false_eq_true, l0, ne0', encI]
     ·simp [List.length_set, ne_eq, not_false_eq_true, l1, ne1', nj1, encI]
     ·rw [get_lt (by simpa using l2), aT ne2, aT (by omega), aT n2j, aT (by omega)]; exact q2
     ·simp [List.length_set, Nat.add_sub_cancel_left, Nat.le_add_right]
    ·have ji : ¬ (j = i) := by rintro rfl; rw [oj] at hio; cases hio; exact hno (.inr rfl)
     have hi := aQ hio
     rw [hlen] at hi
     rw [List.getElem?_append_left (by simpa using hi)]
     by_cases e : k = i
     ·subst e
      rw [hl] at hio
      cases hio
      rw [List.getElem?_set_self (by simpa using hi)]
     ·rw [List.getElem?_set_ne e, List.getElem?_set_ne (by rintro rfl; exact hno (.inl (by omega))), List.getElem?_set_ne ji, List.getElem?_set_ne (by rintro rfl; exact hno (.inl (by omega))), <- hB, List.getElem?_set_ne e]
      exact hio
  ·obtain ⟨i, hi, hi2⟩ := idxI_some hb2
   have e1 : (v ++ [x]).foldl addV [] = v.foldl addV [] := by rw [foldV_snoc, addV, if_neg (by simp [hb2])]
   have e2 : ((v.foldl addV []).map fun _ => AV.b true).getD i .any = .b true := by simp [List.getD, hi2]
   simp -implicitDefEqProofs only [go_sem, rb249_0, e, h4, q1', q2', find_int, hi, e2, qk']
   exact same _ e1
 ·have e : (x.kind == 1) = false := by simpa using hx
  have e1 : (v ++ [x]).foldl addV [] = v.foldl addV [] := by rw [foldV_snoc, addV, if_neg (by simp [hx])]
  simp -implicitDefEqProofs only [go_sem, rb249_0, e, qk']
  exact same _ e1
theorem VarsAt.kill {v : List Tm} {h : List AObj} (hv : VarsAt v h) {k : Nat} {o : AObj} (hk : 2 < k) (ho : h[k]? = some o) (hn : o ≠ .spare 3 1) : VarsAt v (h.set k .dead) := by
 obtain ⟨cv, h0, h1, h2, h3⟩ := hv
 refine ⟨cv, by rw [aT (by omega)]; exact h0, by rw [aT (by omega)]; exact h1, by rw [aT (by omega)]; exact h2, ?_⟩
 rcases h3 with h3 | ⟨j, a, b, c⟩
 ·exact .inl h3
 ·refine .inr ⟨j, a, b, ?_⟩
  rw [aT (by rintro rfl; rw [ho] at c; exact hn (Option.some.inj c))]
  exact c
theorem range249 (τ : List (Nat × AV)) (h3 : tget τ 3 = .ref 0 0) (h4 : tget τ 4 = .ref 2 0) (t : Tm) (ht : t.size < 2 ^ 30) (h : List AObj) (v : List Tm) (c : AObj) (hl : 2 < h.length) (hv : VarsAt v h) (hN : v.length + t.size <= 2 ^ 32) {R : ARes -> List AObj -> Prop}
  (hR : ∀ x h', VarsAt (v ++ t.pre) h' -> h'[h.length + 2]? = some (.loop τ 38 [17] (rfAt Tryz.prog Tryz.f249 0).1 (rfAt Tryz.prog Tryz.f249 0).2 .ready none) -> R (.val x) h') :
  PC GL (.gen 256) [.yld (h.length + 2), .ref (h.length + 1) 0] (h ++ [c, .cells 24 [.v (.int .i64 t.kind), .v (.int .i64 t.n), .str t.s, .sl 4 (t.l.map enc)], .loop τ 38 [17] (rfAt Tryz.prog Tryz.f249 0).1 (rfAt Tryz.prog Tryz.f249 0).2 .ready none]) R := by
 refine call_any hC (g256 (Φ := fun v h' => VarsAt v h' /\ h'[h.length + 2]? = some (.loop τ 38 [17] (rfAt Tryz.prog Tryz.f249 0).1 (rfAt Tryz.prog Tryz.f249 0).2 .ready none)) (K := fun i o => (i < 2 ∨ o = .spare 3 1)) (fun v h' l' e => ⟨e.1.app, aG e.2⟩)
  ?_ (h.length + 2) (2 ^ 32) (fun v x h' hN e => call_any hC (y249 h3 h4 (h.length + 2) (by omega) v x h' hN e.1 e.2) fun r h'' q => ⟨q.1, ⟨q.2.1, q.2.2.get e.2 ?_⟩, q.2.2⟩) t ht v _ (h.length + 1) hN ⟨hv.app, ?_⟩ ?_) fun r h2 q => ?_
 ·rintro v h' ⟨⟨cv, q0, q1, q2, q3⟩, q4⟩ i cs hi (e | e)
  ·have := aQ q2; omega
  ·cases e
 ·rintro (e | e)
  ·omega
  ·cases e
 ·exact aE h _ 2
 ·rw [enc_cells]; exact aE h _ 1
 ·obtain ⟨⟨x, rfl⟩, ⟨hv2, hl2⟩, -⟩ := q
  exact hR x h2 hv2 hl2
theorem h249 (l : List Tm) (hl : sizes l < 2 ^ 30) : Pure (PC GL) 249 [.sl 4 (l.map enc)] (.sl 1 ((varsOf l).map encI)) := by
 have h4 := aX l
 refine k249.pure (by simp) (by simp [go_sem]) (by simp [go_sem]) ?_
 simp -implicitDefEqProofs only [c249, r249, go_sem]
 refine bB hC (fun j _ => [(11, .i j), (9, .sl 4 (l.map enc)), (10, .i l.length), (3, .ref 0 0), (4, .ref 2 0)]) (fun j (_ : Unit) h => VarsAt (pres (l.take j)) h) l.length ?_ ?_
 ·refine ⟨(), _, Wk.pick (Nat.zero_le _) (by simp [go_sem]), ?_⟩
  exact ⟨.v (.slice none 0 0), rfl, rfl, rfl, .inl ⟨rfl, rfl⟩⟩
 ·rintro j - h hj hv
  have h2l : 2 < h.length := by obtain ⟨_, _, _, q, _⟩ := hv; exact aQ q
  have hv3 := hv
  obtain ⟨cv, o0, o1, o2, o3⟩ := hv3
  simp -implicitDefEqProofs only [go_sem]
  refine aJ (fun hlt => ?_) (fun hlt => ?_)
  ·have hlt := aM hlt
   have g1 := bO hlt
   have g2 := bG l (j + 1)
   have g3 := bK hlt
   have w5 : IntKind.i64.wrap ((j : Int) + 1) = (j : Int) + 1 := aD _ (by omega)
   simp -implicitDefEqProofs only [go_sem, hlt, aW]
   refine aH hC (h223 _ _) fun x h1 ⟨hx, hh⟩ => ?_
   subst hx; subst hh
   simp -implicitDefEqProofs only [go_sem, List.append_assoc]
   refine range249 _ (by simp [go_sem]) (by simp [go_sem]) l[j] (by omega) h (pres (l.take j)) _ h2l hv (by rw [pres_length]; omega) fun x h2 hv2 hl2 => ?_
   simp -implicitDefEqProofs only [go_sem, hl2]
   exact ⟨(), _, Wk.pick (Nat.zero_le _) (by simp [go_sem, w5]), by rw [pres_snoc hlt]; exact hv2.kill (by omega) hl2 (by simp)⟩
  ·have hge := aN hlt
   rw [aV hge] at hv
   obtain ⟨cv, o0, o1, o2, o3⟩ := hv
   simp -implicitDefEqProofs only [go_sem, hlt, o0]
   refine aF ?_ (by simp [go_sem])
   rcases o3 with ⟨ov, rfl⟩ | ⟨k, -, rfl, -⟩
   ·rw [varsOf, ov]; simp [go_sem]
   ·simp [go_sem, varsOf]
def isRange (l : List Int) : Bool := decide (∀ i, i < l.length -> l[i]? = some (i : Int))
def normT (l : List Tm) (vars : Int) : Bool := isRange (varsOf l) && ((varsOf l).length : Int) == vars
theorem varsOf_len (l : List Tm) : (varsOf l).length <= sizes l := by
 have := foldV_len (pres l) []
 rw [pres_length] at this
 simpa [varsOf] using this
theorem h211 (l : List Tm) (ht : sizes l < 2 ^ 30) (hs : strss l) : Pure (PC GL) 211 [.sl 4 (l.map enc)] (.tup [if termsOk l then .sl 1 ((varsOf l).map encI) else .v (.slice none 0 0), .i (if termsOk l then 0 else 3)]) := by
 have h1 := h181 (GL := GL) l ht hs
 have h2 := h249 (GL := GL) l ht
 rcases hc : termsOk l with _ | _
 ·simp only [hc, Bool.false_eq_true, if_false] at h1 ⊢
  refine k211.pure (by simp) (by simp [go_sem]) (by simp [go_sem]) ?_
  simp -implicitDefEqProofs only [c211, r211, go_sem]
  repeat' (first | simp -implicitDefEqProofs only [go_sem, *] | with_reducible refine aZ (fun _ => ?_) (fun _ => ?_) | with_reducible refine bA (fun _ => ?_) (fun _ => ?_) | with_reducible refine aJ (fun _ => ?_) (fun _ => ?_) | with_reducible refine aF ?_ ?_ | ((with_reducible apply aC hC); (exact h1)) | ((with_reducible refine And.intro ?bnd ?_); (case bnd => decide)) | fail)
  all_goals simp_all [go_sem]
 ·simp only [hc, if_true] at h1 ⊢
  refine k211.pure (by simp) (by simp [go_sem]) (by simp [go_sem]) ?_
  simp -implicitDefEqProofs only [c211, r211, go_sem]
  repeat' (first | simp -implicitDefEqProofs only [go_sem, *] | with_reducible refine aZ (fun _ => ?_) (fun _ => ?_) | with_reducible refine bA (fun _ => ?_) (fun _ => ?_) | with_reducible refine aJ (fun _ => ?_) (fun _ => ?_) | with_reducible refine aF ?_ ?_ | ((with_reducible apply aC hC); (exact h1)) | ((with_reducible apply aC hC); (exact h2)) | ((with_reducible refine And.intro ?bnd ?_); (case bnd => decide)) | fail)
  all_goals simp_all [go_sem]
theorem h211v (l : List Tm) (ht : sizes l < 2 ^ 30) (hs : strss l) (hok : termsOk l = true) : Pure (PC GL) 211 [.sl 4 (l.map enc)] (.tup [.sl 1 ((varsOf l).map encI), .i 0]) := by
 have h1 := h211 (GL := GL) l ht hs
 simpa only [hok, if_true] using h1
theorem h204 (l : List Tm) (vars : Int) (ht : sizes l < 2 ^ 30) (hs : strss l) (hok : termsOk l = true) : Pure (PC GL) 204 [.sl 4 (l.map enc), .i vars] (.b (normT l vars)) := by
 have h1 := h211v (GL := GL) l ht hs hok
 have hn := varsOf_len l
 unfold normT
 generalize varsOf l = own at *
 refine k204.pure (by simp) (by simp [go_sem]) (by simp [go_sem]) ?_
 simp -implicitDefEqProofs only [go_sem, c204, r204]
 refine aC hC h1 ?_
 simp -implicitDefEqProofs only [go_sem]
 refine cZ hC (fun j => ∀ i, i < j -> own[i]? = some (i : Int)) (fun j => [(16, .i j)]) [14, 15, 5, 1] own.length (by simp) ?_ ?_
 ·exact Wk.pick (by simp) (by simp [go_sem])
 ·intro j hj hI
  simp -implicitDefEqProofs only [go_sem]
  refine aJ (fun hlt => ?_) (fun hlt => ?_)
  ·have hlt := aM hlt
   have w5 : IntKind.i64.wrap ((j : Int) + 1) = (j : Int) + 1 := aD _ (by omega)
   simp -implicitDefEqProofs only [go_sem, hlt, aW, encI]
   by_cases hx : own[j] = (j : Int)
   ·have e : (own[j] != (j : Int)) = false := by simp [hx]
    simp -implicitDefEqProofs only [go_sem, e]
    refine ⟨fun i hi => ?_, Wk.pick (by simp) (by simp [go_sem, w5])⟩
    rcases Nat.lt_or_eq_of_le (Nat.le_of_lt_succ hi) with h | rfl
    ·exact hI i h
    ·rw [List.getElem?_eq_getElem hlt, hx]
   ·have e : (own[j] != (j : Int)) = true := by simp [hx]
    have : isRange own = false := by
     simp only [isRange, decide_eq_false_iff_not]
     intro h
     have := h j hlt
     rw [List.getElem?_eq_getElem hlt] at this
     exact hx (Option.some.inj this)
    simp -implicitDefEqProofs only [go_sem, e]
    refine aF ?_ ?_ <;> simp [go_sem, this]
  ·have hge := aN hlt
   have : isRange own = true := by
    simp only [isRange, decide_eq_true_eq]
    exact fun i hi => hI i (by omega)
   simp -implicitDefEqProofs only [go_sem, hlt]
   refine aF ?_ ?_ <;> simp [go_sem, this]
theorem is_call {P : Program} {GL : Glob} {c : CId} {args : List AV} {h : List AObj} {R : ARes -> List AObj -> Prop} (g : AC P GL c args h R) : AC P GL c args h R := g
theorem h215 (heads : List Int) (v : Int) (k : Nat) (h : List AObj) (hl : heads.length < 2 ^ 47) (hk : h[k]? = some (.cells 61 [.sl 1 (heads.map encI)])) : PureOn (PC GL) 215 [.i v, .ref k 0] (.b (!(heads.any fun x => v == x))) h := by
 refine k215.call (by simp) ?_
 simp -implicitDefEqProofs only [go_sem, c215, r215, hk]
 refine aC hC (h43 heads v hl) ?_
 simp -implicitDefEqProofs only [go_sem]
 exact fin_same rfl
theorem h216 (t : Tm) (ht : t.size < 2 ^ 30) : Pure (PC GLs) 216 [enc t] (.b (!t.test)) := by
 have h1 := h101 t ht
 refine k216.pure (by simp) (by simp [go_sem]) (by simp [go_sem]) ?_
 simp -implicitDefEqProofs only [c216, r216, go_sem]
 refine aC hC h1 ?_
 simp -implicitDefEqProofs only [go_sem]
 refine aF ?_ ?_ <;> simp [go_sem]
theorem h217 (t : Tm) : Pure (PC GL) 217 [enc t] (.b (t.goal.1 == 0)) := by
 have h1 := h96 (GL := GL) t
 simp only [encG] at h1
 refine k217.pure (by simp) (by simp [go_sem]) (by simp [go_sem]) ?_
 simp -implicitDefEqProofs only [c217, r217, go_sem]
 refine aC hC h1 ?_
 simp -implicitDefEqProofs only [go_sem]
 refine aF ?_ ?_ <;> simp [go_sem]
def Cl.bad (c : Cl) (ar : Int) : Bool := decide (c.mark < 0) || (decide (c.mark > 2) || (((c.head.length : Int) != ar) || (decide ((c.guard.length : Int) > 8) || decide ((c.body.length : Int) > 16))))
def Cl.shaped (c : Cl) (ar : Int) : Bool :=
 !c.bad ar && (termsOk c.parts && (!decide ((sizes c.parts : Int) > 400) && (decide (((varsOf c.parts).length : Int) <= 64) && (!((varsOf c.guard).any fun v => !((varsOf c.head).any fun x => v == x)) &&
  (!(c.guard.any fun t => !t.test) && !(c.body.any fun t => t.goal.1 == 0))))))
theorem strss_app : ∀ a b, strss (a ++ b) ↔ strss a /\ strss b
 | [], b => by simp [strss]
 | x :: r, b => by simp only [List.cons_append, strss, strss_app r b, and_assoc]
theorem termsOk_sub {a b c : List Tm} (h : termsOk (a ++ (b ++ c)) = true) : termsOk a = true /\ termsOk b = true /\ termsOk c = true := by
 simp only [termsOk, dL, deeps_app, dD, Bool.and_eq_true, decide_eq_true_eq] at h ⊢
 obtain ⟨⟨h1, h2, h3⟩, h4, h5⟩ := h
 exact ⟨⟨h1, by omega, by omega⟩, ⟨h2, by omega, by omega⟩, h3, by omega, by omega⟩
theorem h139 (c : Cl) (ar : Int) (ht : sizes c.parts < 2 ^ 30) (hs : strss c.parts) : Pure (PC GLs) 139 [encCl c, .i ar] (.b (c.shaped ar)) := by
 have hlen : c.parts.length < 2 ^ 40 := by have := aX c.parts; omega
 have hp : sizes c.parts = sizes c.head + (sizes c.guard + sizes c.body) := by simp [Cl.parts, dD]
 have hs' := hs
 simp only [Cl.parts, strss_app] at hs'
 have hlg := aX c.guard
 have hlb := aX c.body
 have vg := varsOf_len c.guard
 have vh := varsOf_len c.head
 have q140 := h140 (GL := GLs) c hlen
 have q181 := h181 (GL := GLs) c.parts ht hs
 have q203 := h203 (GL := GLs) c.parts ht
 have q188g := h188 (GL := GLs) c.guard 216 (fun t => !t.test) (by omega) (fun x hx => h216 x (by obtain ⟨j, hj, rfl⟩ := List.mem_iff_getElem.1 hx; have := bO hj; omega))
 have q188b := h188 (GL := GLs) c.body 217 (fun t => t.goal.1 == 0) (by omega) (fun x _ => h217 x)
 simp only [encCl] at q140
 rcases hok : termsOk c.parts with _ | _
 ·simp only [hok, Bool.false_eq_true, if_false] at q181
  refine k139.pure (by simp) (by simp [go_sem]) (by simp [go_sem]) ?_
  simp -implicitDefEqProofs only [go_sem, c139, r139, encCl]
  repeat' (first | simp -implicitDefEqProofs only [go_sem, *] | with_reducible refine aZ (fun _ => ?_) (fun _ => ?_) | with_reducible refine bA (fun _ => ?_) (fun _ => ?_) | with_reducible refine aJ (fun _ => ?_) (fun _ => ?_) | with_reducible refine aF ?_ ?_ | ((with_reducible apply aC hC); (exact q140)) | ((with_reducible apply aC hC); (exact q181)) | ((with_reducible refine And.intro ?bnd ?_); (case bnd => decide)) | fail)
  all_goals simp_all [go_sem, Cl.shaped, Cl.bad]
 ·simp only [hok, if_true] at q181
  obtain ⟨o1, o2, o3⟩ := termsOk_sub hok
  have q211p := h211v (GL := GLs) c.parts ht hs hok
  have q211h := h211v (GL := GLs) c.head (by omega) hs'.1 o1
  have q211g := h211v (GL := GLs) c.guard (by omega) hs'.2.1 o2
  have q61 : ∀ h : List AObj, h[1]? = some (.cells 61 [.sl 1 ((varsOf c.head).map encI)]) -> PureOn (PC GLs) 61 [.sl 1 ((varsOf c.guard).map encI), .fn (.func 215) [] [.ref 1 0]] (.b ((varsOf c.guard).any fun v => !((varsOf c.head).any fun x => v == x))) h :=
   fun h hk => h61 (varsOf c.guard) 215 [.ref 1 0] (fun v => !((varsOf c.head).any fun x => v == x)) h (by omega) fun x _ => h215 (varsOf c.head) x 1 h (by omega) hk
  unfold Cl.shaped
  rw [hok]
  generalize ((varsOf c.guard).any fun v => !((varsOf c.head).any fun x => v == x)) = b1 at q61 ⊢
  generalize (c.guard.any fun t => !t.test) = b2 at q188g ⊢
  generalize (c.body.any fun t => t.goal.1 == 0) = b3 at q188b ⊢
  refine k139.pure (by simp) (by simp [go_sem]) (by simp [go_sem]) ?_
  simp -implicitDefEqProofs only [go_sem, c139, r139, encCl]
  repeat' (first | simp -implicitDefEqProofs only [go_sem, *] | with_reducible refine aZ (fun _ => ?_) (fun _ => ?_) | with_reducible refine bA (fun _ => ?_) (fun _ => ?_) | with_reducible refine aJ (fun _ => ?_) (fun _ => ?_) | with_reducible refine aF ?_ ?_ | ((with_reducible apply aC hC); (exact q140)) | ((with_reducible apply aC hC); (exact q181)) | ((with_reducible apply aC hC); (exact q203)) | ((with_reducible apply aC hC); (exact q211p)) | ((with_reducible apply aC hC); (exact q211h)) | ((with_reducible apply aC hC); (exact q211g)) | ((with_reducible refine And.intro ?bnd ?_); (case bnd => decide)) | fail)
  all_goals first
   | with_reducible refine is_call ?_
   | (simp_all [go_sem, Cl.bad]; done)
   | (simp_all [go_sem, Cl.bad]; intros; omega)
  refine cF hC (q61 _ rfl) ?_
  simp -implicitDefEqProofs only [go_sem]
  repeat' (first | simp -implicitDefEqProofs only [go_sem, *] | with_reducible refine aZ (fun _ => ?_) (fun _ => ?_) | with_reducible refine bA (fun _ => ?_) (fun _ => ?_) | with_reducible refine aJ (fun _ => ?_) (fun _ => ?_) | with_reducible refine aF ?_ ?_ | ((with_reducible apply aC hC); (exact q188g)) | ((with_reducible apply aC hC); (exact q188b)) | ((with_reducible refine And.intro ?bnd ?_); (case bnd => decide)) | fail)
  all_goals first
   | (simp_all [go_sem, Cl.bad]; done)
   | (simp_all [go_sem, Cl.bad]; intros; omega)
def Cl.ok (c : Cl) (ar : Int) : Bool := c.shaped ar && normT c.parts c.vars
theorem h143 (c : Cl) (ar : Int) (ht : sizes c.parts < 2 ^ 30) (hs : strss c.parts) : Pure (PC GLs) 143 [encCl c, .i ar] (.b (c.ok ar)) := by
 have hlen : c.parts.length < 2 ^ 40 := by have := aX c.parts; omega
 have q139 := h139 c ar ht hs
 have q140 := h140 (GL := GLs) c hlen
 rcases hsh : c.shaped ar with _ | _
 ·rw [hsh] at q139
  simp only [encCl] at q139 q140
  refine k143.pure (by simp) (by simp [go_sem]) (by simp [go_sem]) ?_
  simp -implicitDefEqProofs only [go_sem, c143, r143, encCl]
  repeat' (first | simp -implicitDefEqProofs only [go_sem, *] | with_reducible refine aZ (fun _ => ?_) (fun _ => ?_) | with_reducible refine bA (fun _ => ?_) (fun _ => ?_) | with_reducible refine aJ (fun _ => ?_) (fun _ => ?_) | with_reducible refine aF ?_ ?_ | ((with_reducible apply aC hC); (exact q139)) | ((with_reducible refine And.intro ?bnd ?_); (case bnd => decide)) | fail)
  all_goals simp_all [go_sem, Cl.ok]
 ·rw [hsh] at q139
  have hok : termsOk c.parts = true := by
   simp only [Cl.shaped, Bool.and_eq_true] at hsh
   exact hsh.2.1
  have q204 := h204 (GL := GLs) c.parts c.vars ht hs hok
  simp only [encCl] at q139 q140
  refine k143.pure (by simp) (by simp [go_sem]) (by simp [go_sem]) ?_
  simp -implicitDefEqProofs only [go_sem, c143, r143, encCl]
  repeat' (first | simp -implicitDefEqProofs only [go_sem, *] | with_reducible refine aZ (fun _ => ?_) (fun _ => ?_) | with_reducible refine bA (fun _ => ?_) (fun _ => ?_) | with_reducible refine aJ (fun _ => ?_) (fun _ => ?_) | with_reducible refine aF ?_ ?_ | ((with_reducible apply aC hC); (exact q139)) | ((with_reducible apply aC hC); (exact q140)) | ((with_reducible apply aC hC); (exact q204)) | ((with_reducible refine And.intro ?bnd ?_); (case bnd => decide)) | fail)
  all_goals simp_all [go_sem, Cl.ok]
end Go.Rip
