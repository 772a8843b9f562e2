/- What is a term: the program's way, its end. -/
import Derived.Test.YtndcajdameofjaaGreatDoorRipAM
namespace Go.Rip
open Go Go.Proofs
variable {GL : Glob}
theorem kB : Nat.blt 0 1 = true := rfl
theorem gX {f : FuncId} {args args' : List AV} {v : AV} {h : List AObj} (hp : Pure (PC GL) f args' v) (e : fzs args = args') {R : ARes -> List AObj -> Prop} (hR : R (.val v) h) : PC GL (.fn f) args h R := by
 subst e
 exact ACall.fzArgs (ACall.mono _ _ _ _ _ (fun r h' e => by rw [e.1, e.2]; exact hR) (hp h))
mutual
theorem fzG_enc (φ : Nat -> Nat -> Nat -> AV) : ∀ t, fzG φ (enc t) = enc t
 | .mk k n s l => by simp only [enc, fzG, fzGs, dZ φ l]
theorem dZ (φ : Nat -> Nat -> Nat -> AV) : ∀ l, fzGs φ (encs l) = encs l
 | [] => rfl
 | t :: r => by simp only [encs, fzGs, fzG_enc φ t, dZ φ r]
end
def termsOk (l : List Tm) : Bool := nodesOks l && (decide (deeps l <= 600) && decide (sizes l <= 4000))
theorem h181 (l : List Tm) (ht : sizes l < 2 ^ 30) (hs : strss l) : Pure (PC GL) 181 [.sl 4 (l.map enc)] (.i (if termsOk l then 0 else 3)) := by
 have h4 := aM l
 refine k181.pure (by simp) (by simp [go_sem]) (by simp [go_sem]) ?_
 simp -implicitDefEqProofs only [go_sem, c181, r181]
 refine h243 _ ?_
 simp -implicitDefEqProofs only [go_sem, frmH, frmV]
 refine bX hC (fun j => nodesOks (l.take j) = true /\ deeps (l.take j) <= 600 /\ sizes (l.take j) <= 4000) (fun j => [(11, .i j), (3, .i (4000 - sizes (l.take j)))]) [10, 9, 4, 2] l.length ⟨rfl, by simp [deeps], by simp [sizes]⟩ ?_ ?_
 ·refine Wk.slots (by simp) ?_ ?_ <;> simp [go_sem, sizes]
 ·rintro j hj ⟨hI1, hI2, hI3⟩
  simp -implicitDefEqProofs only [go_sem]
  refine aG (fun hlt => ?_) (fun hlt => ?_)
  ·have hlt := aI hlt
   have g1 := bA hlt
   have g2 := bF l (j + 1)
   have g3 := bH hlt
   have g4 := gR hlt
   have g5 := fP hlt
   simp -implicitDefEqProofs only [go_sem, hlt, aP]
   refine dU hC (eL (h1 := frmH) (by simp [bd]) (by simp [bds, bd, frmV, frmH, go_sem]) fO (h244 _ (cW hs _ (List.getElem_mem hlt)) (by omega) (4000 - (sizes (l.take j) : Int)) 600 (by omega) (by omega)) _) ?_
   simp -implicitDefEqProofs only [go_sem]
   by_cases hx : (l[j]).nodesOk = true /\ ((l[j]).deep : Int) <= 600 /\ ((l[j]).size : Int) <= 4000 - (sizes (l.take j) : Int)
   ·have e5 : countR l[j] (4000 - (sizes (l.take j) : Int)) 600 = (l[j]).size := by rw [countR, if_pos hx]
    obtain ⟨x1, x2, x3⟩ := hx
    have e6 : decide (((l[j]).size : Int) > 4000 - (sizes (l.take j) : Int)) = false := by simp; omega
    have w4 : IntKind.i64.wrap (4000 - (sizes (l.take j) : Int) - (l[j]).size) = 4000 - (sizes (l.take (j + 1)) : Int) := by rw [aF _ (by omega)]; omega
    have w5 : IntKind.i64.wrap ((j : Int) + 1) = ((j + 1 : Nat) : Int) := by rw [aF _ (by omega)]; omega
    simp -implicitDefEqProofs only [go_sem, e5, e6, w4, w5, frmH]
    refine ⟨⟨by rw [g5, hI1, x1]; rfl, by omega, by omega⟩, Wk.slots (by simp) ?_ ?_⟩ <;> simp [go_sem]
   ·have e5 : countR l[j] (4000 - (sizes (l.take j) : Int)) 600 = 4000 - (sizes (l.take j) : Int) + 1 := by rw [countR, if_neg hx]
    have e6 : decide (4000 - (sizes (l.take j) : Int) + 1 > 4000 - (sizes (l.take j) : Int)) = true := by simp; omega
    have hb : termsOk l = false := by
     rw [Bool.eq_false_iff]; intro h
     simp only [termsOk, Bool.and_eq_true, decide_eq_true_eq] at h
     have := iZ (List.getElem_mem hlt)
     exact hx ⟨eO h.1 (List.getElem_mem hlt), by omega, by omega⟩
    simp -implicitDefEqProofs only [go_sem, e5, e6, frmH]
    refine aD ?_ ?_ <;> simp [go_sem, hb]
  ·have hge := aK hlt
   rw [aQ hge] at hI1 hI2 hI3
   have hb : termsOk l = true := by simp [termsOk, hI1, hI2, hI3]
   simp -implicitDefEqProofs only [go_sem, hlt]
   refine aD ?_ ?_ <;> simp [go_sem, hb]
theorem h95 (t : Tm) (ht : t.size < 2 ^ 30) (hs : t.strs) : Pure (PC GL) 95 [enc t] (.i (if t.ok then 0 else 3)) := by
 have e : termsOk [t] = t.ok := by
  rw [Bool.eq_iff_iff]
  rw [termsOk, Tm.ok]
  simp only [Bool.and_eq_true, decide_eq_true_eq]
  simp only [nodesOks, deeps, sizes, Bool.and_true]
  constructor
  ·rintro ⟨a, b, c⟩; exact ⟨by omega, by omega, a⟩
  ·rintro ⟨a, b, c⟩; exact ⟨c, by omega, by omega⟩
 refine k95.pure (by simp) (by simp [go_sem]) (by simp [go_sem]) ?_
 simp -implicitDefEqProofs only [c95, r95, go_sem]
 simp -implicitDefEqProofs only [go_sem, kB]
 refine gX (h181 [t] (by simpa [sizes] using ht) (by simpa [strss] using hs)) ?_ ?_
 ·simp [fzs, fzGs, fzG, fzG_enc]
 simp -implicitDefEqProofs only [go_sem, e]
 refine aD ?_ ?_ <;> simp [go_sem]
theorem free_str : Free AV.str := ⟨fun κ a => by simp only [ren], fun n a => by simp only [bd]⟩
@[go_sem] theorem rens_strs (κ : Nat -> Nat) (l : List (List UInt8)) : rens κ (l.map .str) = l.map .str := free_str.rens κ l
@[go_sem] theorem bds_strs (n : Nat) (l : List (List UInt8)) : bds n (l.map .str) = True := free_str.bds n l
def idxF {α : Type} (p : α -> Bool) (l : List α) : Int := if l.any p then (l.findIdx p : Nat) else -1
theorem fV {α : Type} {l : List α} {j : Nat} (h : j < l.length) (p : α -> Bool) : (l.take (j + 1)).any p = ((l.take j).any p || p l[j]) := by rw [bK h, List.any_append]; simp
theorem fX {α : Type} {p : α -> Bool} {l : List α} (h : l.any p = false) : idxF p l = -1 := by rw [idxF, h]; rfl
theorem iS {α : Type} {p : α -> Bool} {l : List α} {j : Nat} (hj : j < l.length) (h1 : (l.take j).any p = false) (h2 : p l[j] = true) : idxF p l = j := by
 have ha : l.any p = true := List.any_eq_true.2 ⟨_, List.getElem_mem hj, h2⟩
 rw [idxF, ha]
 have : l.findIdx p = j := by
  refine (List.findIdx_eq hj).2 ⟨h2, fun i hi => ?_⟩
  have := (List.any_eq_false.1 h1) l[i] (List.mem_take_iff_getElem.2 ⟨i, by omega, rfl⟩)
  simpa using this
 simp [this]
theorem kZ {α : Type} (p : α -> Bool) (l : List α) : decide (idxF p l >= 0) = l.any p := by
 rw [idxF]; cases l.any p <;> simp
theorem h187 (l : List (List UInt8)) (s : List UInt8) (hl : l.length < 2 ^ 30) : Pure (PC GL) 187 [.sl 1 (l.map .str), .str s] (.i (idxF (fun x => s == x) l)) := by
 refine k187.pure (by simp) (by simp [go_sem]) (by simp [go_sem]) ?_
 simp -implicitDefEqProofs only [go_sem, c187, r187]
 refine bX hC (fun j => (l.take j).any (fun x => s == x) = false) (fun j => [(8, .i j)]) [7, 0, 1] l.length rfl ?_ ?_
 ·refine Wk.slots (by simp) ?_ ?_ <;> simp [go_sem]
 ·rintro j hj hI
  simp -implicitDefEqProofs only [go_sem]
  refine aG (fun hlt => ?_) (fun hlt => ?_)
  ·have hlt := aI hlt
   have g1 := fV hlt (fun x => s == x)
   have w5 : IntKind.i64.wrap ((j : Int) + 1) = (j : Int) + 1 := aF _ (by omega)
   simp -implicitDefEqProofs only [go_sem, hlt, aP]
   refine aG (fun hx => ?_) (fun hx => ?_)
   ·simp -implicitDefEqProofs only [go_sem, hx]
    refine aD ?_ ?_ <;> simp [go_sem, iS hlt hI hx]
   ·simp -implicitDefEqProofs only [go_sem, hx]
    exact ⟨by rw [g1, hI, hx]; rfl, Wk.slots (by simp) (by simp [go_sem, w5]) (by simp [go_sem])⟩
  ·have hge := aK hlt
   rw [aQ hge] at hI
   simp -implicitDefEqProofs only [go_sem, hlt]
   refine aD ?_ ?_ <;> simp [go_sem, fX hI]
theorem h110 (l : List Tm) (f : FuncId) (p : Tm -> Bool) (hl : l.length < 2 ^ 30) (hf : ∀ x ∈ l, Pure (PC GL) f [enc x] (.b (p x))) : Pure (PC GL) 110 [.sl 4 (l.map enc), .fn (.func f) [] []] (.i (idxF p l)) := by
 refine k110.pure (by simp) (by simp [go_sem]) (by simp [go_sem]) ?_
 simp -implicitDefEqProofs only [go_sem, c110, r110]
 refine bX hC (fun j => (l.take j).any p = false) (fun j => [(8, .i j)]) [7, 0, 1] l.length rfl ?_ ?_
 ·refine Wk.slots (by simp) ?_ ?_ <;> simp [go_sem]
 ·rintro j hj hI
  simp -implicitDefEqProofs only [go_sem]
  refine aG (fun hlt => ?_) (fun hlt => ?_)
  ·have hlt := aI hlt
   have g1 := fV hlt p
   have w5 : IntKind.i64.wrap ((j : Int) + 1) = (j : Int) + 1 := aF _ (by omega)
   simp -implicitDefEqProofs only [go_sem, hlt, aP]
   refine aC hC (hf _ (List.getElem_mem hlt)) ?_
   simp -implicitDefEqProofs only [go_sem]
   refine aG (fun hx => ?_) (fun hx => ?_)
   ·simp -implicitDefEqProofs only [go_sem, hx]
    refine aD ?_ ?_ <;> simp [go_sem, iS hlt hI hx]
   ·simp -implicitDefEqProofs only [go_sem, hx]
    exact ⟨by rw [g1, hI, hx]; rfl, Wk.slots (by simp) (by simp [go_sem, w5]) (by simp [go_sem])⟩
  ·have hge := aK hlt
   rw [aQ hge] at hI
   simp -implicitDefEqProofs only [go_sem, hlt]
   refine aD ?_ ?_ <;> simp [go_sem, fX hI]
theorem h188 (l : List Tm) (f : FuncId) (p : Tm -> Bool) (hl : l.length < 2 ^ 30) (hf : ∀ x ∈ l, Pure (PC GL) f [enc x] (.b (p x))) : Pure (PC GL) 188 [.sl 4 (l.map enc), .fn (.func f) [] []] (.b (l.any p)) := by
 refine k188.pure (by simp) (by simp [go_sem]) (by simp [go_sem]) ?_
 simp -implicitDefEqProofs only [go_sem, c188, r188]
 refine aC hC (h110 l f p hl hf) ?_
 simp -implicitDefEqProofs only [go_sem, kZ]
 refine aD ?_ ?_ <;> simp [go_sem]
def calcS (s : List UInt8) : Bool := s == [43] || (s == [45] || (s == [42] || (s == [47] || s == [109, 111, 100])))
mutual
def Tm.expr : Tm -> Bool
 | .mk k _ s l => (k == 2 || k == 1) || (k == 5 && (calcS s && ((l.length == 2 || (l.length == 1 && s == [45])) && exprs l)))
def exprs : List Tm -> Bool
 | [] => true
 | t :: r => t.expr && exprs r
end
theorem nF (t : Tm) : t.expr = ((t.kind == 2 || t.kind == 1) || (t.kind == 5 && (calcS t.s && ((t.l.length == 2 || (t.l.length == 1 && t.s == [45])) && exprs t.l)))) := by cases t; rfl
theorem qJ : ∀ l, exprs l = !l.any fun x => !x.expr
 | [] => rfl
 | t :: r => by simp only [exprs, List.any_cons, Bool.not_or, Bool.not_not, qJ r]
theorem h189 (x : Tm) (h : Pure (PC GLs) 99 [enc x] (.b x.expr)) : Pure (PC GLs) 189 [enc x] (.b (!x.expr)) := by
 refine k189.pure (by simp) (by simp [go_sem]) (by simp [go_sem]) ?_
 simp -implicitDefEqProofs only [go_sem, c189, r189]
 refine aC hC h ?_
 simp -implicitDefEqProofs only [go_sem]
 refine aD ?_ ?_ <;> simp [go_sem]
theorem gget_GLs : gget GLs 0 = .pel [.str [43], .str [45], .str [42], .str [47], .str [109, 111, 100], .str [45]] := rfl
theorem h187c (s : List UInt8) : Pure (PC GL) 187 [.sl 1 [.str [43], .str [45], .str [42], .str [47], .str [109, 111, 100]], .str s] (.i (idxF (fun x => s == x) [[43], [45], [42], [47], [109, 111, 100]])) :=
 h187 [[43], [45], [42], [47], [109, 111, 100]] s (by simp)
theorem deq (n : Nat) (k : Nat) : ((n : Int) == (k : Int)) = (n == k) := by rw [Bool.eq_iff_iff]; simp; omega
theorem deq2 (n : Nat) : ((n : Int) == 2) = (n == 2) := deq n 2
theorem deq1 (n : Nat) : ((n : Int) == 1) = (n == 1) := deq n 1
theorem h99 (t : Tm) (ht : t.size < 2 ^ 30) : Pure (PC GLs) 99 [enc t] (.b t.expr) := by
 induction t using bY with
 | _ t ih =>
 rw [bC] at ht
 have h4 := aM t.l
 have e1 := nF t
 have e2 := qJ t.l
 have h8 := h188 (GL := GLs) t.l 189 (fun x => !x.expr) (by omega) (fun x hx => h189 x (ih x hx (by have := rC hx; rw [bC t] at this; omega)))
 refine k99.pure (by simp) (by simp [go_sem]) (by simp [go_sem]) ?_
 simp -implicitDefEqProofs only [go_sem, c99, r99]
 repeat' (first | simp -implicitDefEqProofs only [go_sem, *, kZ, deq1, deq2, gget_GLs, Int.reduceToNat, Nat.reduceSub, List.drop_zero, List.take_succ_cons] | with_reducible refine aU (fun _ => ?_) (fun _ => ?_) | with_reducible refine aV (fun _ => ?_) (fun _ => ?_) | with_reducible refine aG (fun _ => ?_) (fun _ => ?_) | with_reducible refine aD ?_ ?_ | (refine aC hC (h187c _) ?_) | (refine aC hC (id h8) ?_) | ((with_reducible refine And.intro ?bnd ?_); (case bnd => decide)) | fail)
 all_goals simp_all [go_sem, calcS]
def Tm.funR (t : Tm) (s : List UInt8) (n : Int) : Bool := if n = 0 then t.isAtom s else t.isFun s n
theorem h121 (t : Tm) (s : List UInt8) (n : Int) : Pure (PC GL) 121 [enc t, .str s, .i n] (.b (t.funR s n)) := by
 refine k121.pure (by simp) (by simp [go_sem]) (by simp [go_sem]) ?_
 simp -implicitDefEqProofs only [c121, r121, go_sem]
 repeat' (first | simp -implicitDefEqProofs only [go_sem, *] | with_reducible refine aU (fun _ => ?_) (fun _ => ?_) | with_reducible refine aV (fun _ => ?_) (fun _ => ?_) | with_reducible refine aG (fun _ => ?_) (fun _ => ?_) | with_reducible refine aD ?_ ?_ | ((with_reducible refine And.intro ?bnd ?_); (case bnd => decide)) | fail)
 all_goals simp_all [Tm.funR, Tm.isFun, Tm.isAtom]
theorem qF (t : Tm) (s : List UInt8) : t.funR s 0 = t.isAtom s := rfl
theorem kD (t : Tm) (s : List UInt8) : t.funR s 1 = t.isFun s 1 := rfl
theorem gY (t : Tm) (s : List UInt8) : t.funR s 2 = t.isFun s 2 := rfl
theorem nM (k n : Int) (s : List UInt8) (l : List Tm) (x : List UInt8) (m : Int) : (Tm.mk k n s l).isFun x m = (k == 5 && (s == x && (l.length : Int) == m)) := rfl
theorem len31 (n : Nat) : (((n + 1 + 1 + 1 : Nat) : Int) == 1) = false := by simp; omega
theorem len32 (n : Nat) : (((n + 1 + 1 + 1 : Nat) : Int) == 2) = false := by simp; omega
theorem jM (k n : Int) (s : List UInt8) (l : List Tm) (x : List UInt8) (m : Int) : Pure (PC GL) 121 [.agg [.v (.int .i64 k), .v (.int .i64 n), .str s, .sl 4 (l.map enc)], .str x, .i m] (.b ((Tm.mk k n s l).funR x m)) := by
 rw [<- eJ]; exact h121 _ _ _
theorem h100 (t : Tm) : Pure (PC GL) 100 [enc t] (.b t.expr) := by
 induction t using bY with
 | _ t ih =>
 obtain ⟨k, n, s, l⟩ := t
 have e1 := nF (.mk k n s l)
 refine k100.pure (by simp) (by simp [go_sem]) (by simp [go_sem]) ?_
 rcases l with _ | ⟨a, _ | ⟨b, _ | ⟨c, r⟩⟩⟩
 ·have q := jM (GL := GL) k n s []
  simp -implicitDefEqProofs only [go_sem, c100, r100, Tm.kind_mk, Tm.n_mk, Tm.s_mk, Tm.l_mk]
  repeat' (first | simp -implicitDefEqProofs only [go_sem, *, kD, gY, nM, Tm.kind_mk, Tm.s_mk, Tm.l_mk, Int.reduceToNat, Nat.reduceAdd, bQ] | with_reducible refine aU (fun _ => ?_) (fun _ => ?_) | with_reducible refine aV (fun _ => ?_) (fun _ => ?_) | with_reducible refine aG (fun _ => ?_) (fun _ => ?_) | with_reducible refine aD ?_ ?_ | (refine aC hC (q _ _) ?_) | ((with_reducible refine And.intro ?bnd ?_); (case bnd => decide)) | fail)
  all_goals simp_all [go_sem, Tm.kind_mk, Tm.s_mk, Tm.l_mk, calcS, exprs]
 ·have ia := ih a (by simp [Tm.l])
  have q := jM (GL := GL) k n s [a]
  simp -implicitDefEqProofs only [go_sem, c100, r100, Tm.kind_mk, Tm.n_mk, Tm.s_mk, Tm.l_mk]
  repeat' (first | simp -implicitDefEqProofs only [go_sem, *, kD, gY, nM, Tm.kind_mk, Tm.s_mk, Tm.l_mk, Int.reduceToNat, Nat.reduceAdd, List.getD_cons_zero, List.getD_cons_succ, bQ] | with_reducible refine aU (fun _ => ?_) (fun _ => ?_) | with_reducible refine aV (fun _ => ?_) (fun _ => ?_) | with_reducible refine aG (fun _ => ?_) (fun _ => ?_) | with_reducible refine aD ?_ ?_ | (refine aC hC (q _ _) ?_) | (refine aC hC (id ia) ?_) | ((with_reducible refine And.intro ?bnd ?_); (case bnd => decide)) | fail)
  all_goals simp_all [go_sem, Tm.kind_mk, Tm.s_mk, Tm.l_mk, calcS, exprs]
 ·have ia := ih a (by simp [Tm.l])
  have ib := ih b (by simp [Tm.l])
  have q := jM (GL := GL) k n s [a, b]
  simp -implicitDefEqProofs only [go_sem, c100, r100, Tm.kind_mk, Tm.n_mk, Tm.s_mk, Tm.l_mk]
  repeat' (first | simp -implicitDefEqProofs only [go_sem, *, kD, gY, nM, Tm.kind_mk, Tm.s_mk, Tm.l_mk, Int.reduceToNat, Nat.reduceAdd, List.getD_cons_zero, List.getD_cons_succ, bQ] | with_reducible refine aU (fun _ => ?_) (fun _ => ?_) | with_reducible refine aV (fun _ => ?_) (fun _ => ?_) | with_reducible refine aG (fun _ => ?_) (fun _ => ?_) | with_reducible refine aD ?_ ?_ | (refine aC hC (q _ _) ?_) | (refine aC hC (id ia) ?_) | (refine aC hC (id ib) ?_) | ((with_reducible refine And.intro ?bnd ?_); (case bnd => decide)) | fail)
  all_goals simp_all [go_sem, Tm.kind_mk, Tm.s_mk, Tm.l_mk, calcS, exprs]
  intro h1 h2; simp_all
 ·have q := jM (GL := GL) k n s (a :: b :: c :: r)
  simp -implicitDefEqProofs only [go_sem, c100, r100, Tm.kind_mk, Tm.n_mk, Tm.s_mk, Tm.l_mk]
  repeat' (first | simp -implicitDefEqProofs only [go_sem, *, kD, gY, nM, len31, len32, List.length_cons, Tm.kind_mk, Tm.s_mk, Tm.l_mk, Nat.reduceAdd, Bool.and_false] | with_reducible refine aU (fun _ => ?_) (fun _ => ?_) | with_reducible refine aV (fun _ => ?_) (fun _ => ?_) | with_reducible refine aG (fun _ => ?_) (fun _ => ?_) | with_reducible refine aD ?_ ?_ | (refine aC hC (q _ _) ?_) | ((with_reducible refine And.intro ?bnd ?_); (case bnd => decide)) | fail)
  all_goals simp_all [go_sem, Tm.kind_mk, Tm.s_mk, Tm.l_mk, calcS, exprs]
def tstL : List (List UInt8 × Int) := [([119, 97, 105, 116], 1), ([105, 110, 116, 101, 103, 101, 114], 1), ([97, 116, 111, 109], 1), ([115, 116, 114, 105, 110, 103], 1), ([118, 101, 99, 116, 111, 114], 1), ([108, 105, 115, 116], 1), ([61, 61], 2), ([92, 61, 61], 2)]
def cmpL : List (List UInt8 × Bool) := [([61, 58, 61], true), ([61, 92, 61], true), ([60], true), ([61, 60], true), ([62], true), ([62, 61], true)]
def isLit {α : Type} (L : List (List UInt8 × α)) (g : α -> AV) : Option (ARes × List AObj) -> Bool
 | some (.val x, h) => beqAV x (.mp 0) && (match h with | [.map ks vs] => beqAVs ks (L.map fun p => .str p.1) && beqAVs vs (L.map fun p => g p.2) | _ => false)
 | _ => false
theorem map_lit {f : FuncId} {α : Type} (L : List (List UInt8 × α)) (g : α -> AV) (hg : Free g)
  (he : isLit L g (evCall GL (mkT Tryz.prog) (mkKC Tryz.prog) (withD Tryz.prog GL NoN) 30 (.fn f) [] []) = true) (h : List AObj) {R : ARes -> List AObj -> Prop} (hR : R (.val (.mp h.length)) (h ++ [.map (L.map fun p => .str p.1) (L.map fun p => g p.2)])) : PC GL (.fn f) [] h R := by
 have h0 : ACall Tryz.prog GL f [] [] fun r h' => r = .val (.mp 0) /\ h' = [.map (L.map fun p => .str p.1) (L.map fun p => g p.2)] := by
  unfold isLit at he
  split at he
  ·rename_i x h1 hx
   simp only [Bool.and_eq_true] at he
   have h2 := fA he.1
   have h3 := he.2
   split at h3
   ·simp only [Bool.and_eq_true] at h3
    exact qX oX hx ⟨by rw [h2], by rw [bT h3.1, bT h3.2]⟩
   ·cases h3
  ·cases he
 have h1 := nT (h := h) (by simp [bds]) h0
 refine ACall.mono _ _ _ _ _ ?_ h1
 rintro r h' ⟨r0, h0, ⟨rfl, rfl⟩, rfl, rfl⟩
 have e1 : ∀ l : List (List UInt8 × α), rens (· + h.length) (l.map fun p => AV.str p.1) = l.map fun p => AV.str p.1 := by
  intro l; induction l with
  | nil => rfl
  | cons x r ih => simp only [List.map_cons, rens, ren, ih]
 have e2 : ∀ l : List (List UInt8 × α), rens (· + h.length) (l.map fun p => g p.2) = l.map fun p => g p.2 := by
  intro l; induction l with
  | nil => rfl
  | cons x r ih => simp only [List.map_cons, rens, hg.1, ih]
 simpa [renR, ren, renO, e1, e2] using hR
theorem free_int : Free fun n => AV.v (.int .i64 n) := ⟨fun _ _ => by simp only [ren], fun _ _ => by simp only [bd]⟩
theorem free_bool : Free fun n => AV.v (.bool n) := ⟨fun _ _ => by simp only [ren], fun _ _ => by simp only [bd]⟩
theorem e191 : isLit tstL (fun n => .v (.int .i64 n)) (evCall GL (mkT Tryz.prog) (mkKC Tryz.prog) (withD Tryz.prog GL NoN) 30 (.fn 191) [] []) = true := by kernel_rfl
theorem e192 : isLit cmpL (fun n => .v (.bool n)) (evCall GL (mkT Tryz.prog) (mkKC Tryz.prog) (withD Tryz.prog GL NoN) 30 (.fn 192) [] []) = true := by kernel_rfl
theorem h191 (h : List AObj) {R : ARes -> List AObj -> Prop} (hR : R (.val (.mp h.length)) (h ++ [.map (tstL.map fun p => .str p.1) (tstL.map fun p => .v (.int .i64 p.2))])) : PC GL (.fn 191) [] h R := map_lit tstL (fun n => .v (.int .i64 n)) free_int e191 h hR
theorem h192 (h : List AObj) {R : ARes -> List AObj -> Prop} (hR : R (.val (.mp h.length)) (h ++ [.map (cmpL.map fun p => .str p.1) (cmpL.map fun p => .v (.bool p.2))])) : PC GL (.fn 192) [] h R := map_lit cmpL (fun n => .v (.bool n)) free_bool e192 h hR
def Tm.test (t : Tm) : Bool := t.isAtom [116, 114, 117, 101] || (t.kind == 5 && (match getT t.s tstL with
 | some n => (t.l.length : Int) == n
 | none => (getT t.s cmpL).isSome && (t.l.length == 2 && exprs t.l)))
theorem cmp_true (s : List UInt8) (b : Bool) (h : getT s cmpL = some b) : b = true := by
 simp only [cmpL, getT] at h
 repeat' (split at h; simp_all)
 simp at h
theorem h101 (t : Tm) (ht : t.size < 2 ^ 30) : Pure (PC GLs) 101 [enc t] (.b t.test) := by
 have hx : ∀ x ∈ t.l, Pure (PC GLs) 99 [enc x] (.b x.expr) := fun x hx => h99 x (by have := rC hx; omega)
 refine k101.pure (by simp) (by simp [go_sem]) (by simp [go_sem]) ?_
 simp -implicitDefEqProofs only [go_sem, c101, r101]
 refine aC hC (h190 _ _) ?_
 simp -implicitDefEqProofs only [go_sem]
 refine aG (fun h1 => ?_) (fun h1 => ?_)
 ·simp -implicitDefEqProofs only [go_sem, h1]
  refine aD ?_ ?_ <;> simp [go_sem, Tm.test, h1]
 simp -implicitDefEqProofs only [go_sem, h1]
 refine aG (fun h2 => ?_) (fun h2 => ?_)
 ·simp -implicitDefEqProofs only [go_sem, h2]
  refine aD ?_ ?_ <;> simp_all [go_sem, Tm.test]
 simp -implicitDefEqProofs only [go_sem, h2]
 refine h191 _ ?_
 simp -implicitDefEqProofs only [go_sem, iN]
 have h3 : t.kind = 5 := by simpa using h2
 rcases fH t.s (fun n => AV.v (.int .i64 n)) tstL with ⟨i1, i2⟩ | ⟨j, m, i1, i2, i3⟩
 ·simp -implicitDefEqProofs only [go_sem, i1]
  refine h192 _ ?_
  simp -implicitDefEqProofs only [go_sem, iN]
  rcases fH t.s (fun n => AV.v (.bool n)) cmpL with ⟨j1, j2⟩ | ⟨j, m, j1, j2, j3⟩
  ·simp -implicitDefEqProofs only [go_sem, j1]
   refine aD ?_ ?_ <;> simp [go_sem, Tm.test, h1, h3, i2, j2]
  ·have := cmp_true _ _ j2
   subst this
   simp -implicitDefEqProofs only [go_sem, j1, j3]
   obtain ⟨k, n, s, l⟩ := t
   simp only [Tm.kind_mk, Tm.l_mk, Tm.s_mk] at *
   rcases l with _ | ⟨a, _ | ⟨b, _ | ⟨c, r⟩⟩⟩
   ·repeat' (first | simp -implicitDefEqProofs only [go_sem, *, Int.reduceToNat, deq2] | with_reducible refine aU (fun _ => ?_) (fun _ => ?_) | with_reducible refine aV (fun _ => ?_) (fun _ => ?_) | with_reducible refine aG (fun _ => ?_) (fun _ => ?_) | with_reducible refine aD ?_ ?_ | ((with_reducible refine And.intro ?bnd ?_); (case bnd => decide)) | fail)
    all_goals simp_all [go_sem, Tm.test, Tm.kind_mk, Tm.s_mk, Tm.l_mk]
   ·repeat' (first | simp -implicitDefEqProofs only [go_sem, *, Int.reduceToNat, Nat.reduceAdd, List.getD_cons_zero, deq2] | with_reducible refine aU (fun _ => ?_) (fun _ => ?_) | with_reducible refine aV (fun _ => ?_) (fun _ => ?_) | with_reducible refine aG (fun _ => ?_) (fun _ => ?_) | with_reducible refine aD ?_ ?_ | ((with_reducible refine And.intro ?bnd ?_); (case bnd => decide)) | fail)
    all_goals simp_all [go_sem, Tm.test, Tm.kind_mk, Tm.s_mk, Tm.l_mk]
   ·have ia := hx a (by simp)
    have ib := hx b (by simp)
    repeat' (first | simp -implicitDefEqProofs only [go_sem, *, Int.reduceToNat, Nat.reduceAdd, List.getD_cons_zero, List.getD_cons_succ, deq2, bQ] | with_reducible refine aU (fun _ => ?_) (fun _ => ?_) | with_reducible refine aV (fun _ => ?_) (fun _ => ?_) | with_reducible refine aG (fun _ => ?_) (fun _ => ?_) | with_reducible refine aD ?_ ?_ | (refine aC hC (id ia) ?_) | (refine aC hC (id ib) ?_) | ((with_reducible refine And.intro ?bnd ?_); (case bnd => decide)) | fail)
    all_goals simp_all [go_sem, Tm.test, Tm.kind_mk, Tm.s_mk, Tm.l_mk, exprs]
   ·repeat' (first | simp -implicitDefEqProofs only [go_sem, *, Int.reduceToNat, Nat.reduceAdd, List.getD_cons_zero, deq2, List.length_cons] | with_reducible refine aU (fun _ => ?_) (fun _ => ?_) | with_reducible refine aV (fun _ => ?_) (fun _ => ?_) | with_reducible refine aG (fun _ => ?_) (fun _ => ?_) | with_reducible refine aD ?_ ?_ | ((with_reducible refine And.intro ?bnd ?_); (case bnd => decide)) | fail)
    all_goals simp_all [go_sem, Tm.test, Tm.kind_mk, Tm.s_mk, Tm.l_mk]
 ·simp -implicitDefEqProofs only [go_sem, i1, i3]
  refine aD ?_ ?_ <;> simp [go_sem, Tm.test, h1, h3, i2]
end Go.Rip
