/- What is a term: the program's way, its end. -/
import Derived.Test.YtndcajdameofjaaGreatDoorRipAM
namespace Go.Rip
open Go Go.Proofs
variable {GL : Glob}
theorem cP : Nat.blt 0 1 = true := rfl
theorem dC {f : FuncId} {args args' : List AV} {v : AV} {h : List AObj} (hp : Pure (PC GL) f args' v) (e : fzs args = args') {R : ARes -> List AObj -> Prop} (hR : R (.val v) h) : PC GL (.fn f) args h R := by
 subst e
 exact ACall.fzArgs (ACall.mono _ _ _ _ _ (fun r h' e => by rw [e.1, e.2]; exact hR) (hp h))
mutual
theorem gC (φ : Nat -> Nat -> Nat -> AV) : ∀ t, fzG φ (enc t) = enc t
 | .mk k n s l => by simp only [enc, fzG, fzGs, cY φ l]
theorem cY (φ : Nat -> Nat -> Nat -> AV) : ∀ l, fzGs φ (encs l) = encs l
 | [] => rfl
 | t :: r => by simp only [encs, fzGs, gC φ t, cY φ r]
end
def termsOk (l : List Tm) : Bool := nodesOks l && (decide (deeps l <= 600) && decide (sizes l <= 4000))
theorem h181 (l : List Tm) (ht : sizes l < 2 ^ 30) (hs : strss l) : Pure (PC GL) 181 [.sl 4 (l.map enc)] (.i (if termsOk l then 0 else 3)) := by
 have h4 := aQ l
 refine k181.pure (by simp) (by simp [go_sem]) (by simp [go_sem]) ?_
 simp -implicitDefEqProofs only [go_sem, c181, r181]
 refine h243 _ ?_
 simp -implicitDefEqProofs only [go_sem, frmH, frmV]
 refine eN hC (fun j => nodesOks (l.take j) = true /\ deeps (l.take j) <= 600 /\ sizes (l.take j) <= 4000) (fun j => [(11, .i j), (3, .i (4000 - sizes (l.take j)))]) [10, 9, 4, 2] l.length ⟨rfl, by simp [deeps], by simp [sizes]⟩ ?_ ?_
 ·refine Wk.slots (by simp) ?_ ?_ <;> simp [go_sem, sizes]
 ·rintro j hj ⟨hI1, hI2, hI3⟩
  simp -implicitDefEqProofs only [go_sem]
  refine aK (fun hlt => ?_) (fun hlt => ?_)
  ·have hlt := aM hlt
   have g1 := bK hlt
   have g2 := cD l (j + 1)
   have g3 := cN hlt
   have g4 := jU hlt
   have g5 := iW hlt
   simp -implicitDefEqProofs only [go_sem, hlt, aS]
   refine dN hC (eB (h1 := frmH) (by simp [bd]) (by simp [bds, bd, frmV, frmH, go_sem]) eZ (h244 _ (bJ hs _ (List.getElem_mem hlt)) (by omega) (4000 - (sizes (l.take j) : Int)) 600 (by omega) (by omega)) _) ?_
   simp -implicitDefEqProofs only [go_sem]
   by_cases hx : (l[j]).nodesOk = true /\ ((l[j]).deep : Int) <= 600 /\ ((l[j]).size : Int) <= 4000 - (sizes (l.take j) : Int)
   ·have e5 : countR l[j] (4000 - (sizes (l.take j) : Int)) 600 = (l[j]).size := by rw [countR, if_pos hx]
    obtain ⟨x1, x2, x3⟩ := hx
    have e6 : decide (((l[j]).size : Int) > 4000 - (sizes (l.take j) : Int)) = false := by simp; omega
    have w4 : IntKind.i64.wrap (4000 - (sizes (l.take j) : Int) - (l[j]).size) = 4000 - (sizes (l.take (j + 1)) : Int) := by rw [aP _ (by omega)]; omega
    have w5 : IntKind.i64.wrap ((j : Int) + 1) = ((j + 1 : Nat) : Int) := by rw [aP _ (by omega)]; omega
    simp -implicitDefEqProofs only [go_sem, e5, e6, w4, w5, frmH]
    refine ⟨⟨by rw [g5, hI1, x1]; rfl, by omega, by omega⟩, Wk.slots (by simp) ?_ ?_⟩ <;> simp [go_sem]
   ·have e5 : countR l[j] (4000 - (sizes (l.take j) : Int)) 600 = 4000 - (sizes (l.take j) : Int) + 1 := by rw [countR, if_neg hx]
    have e6 : decide (4000 - (sizes (l.take j) : Int) + 1 > 4000 - (sizes (l.take j) : Int)) = true := by simp; omega
    have hb : termsOk l = false := by
     rw [Bool.eq_false_iff]; intro h
     simp only [termsOk, Bool.and_eq_true, decide_eq_true_eq] at h
     have := lG (List.getElem_mem hlt)
     exact hx ⟨fU h.1 (List.getElem_mem hlt), by omega, by omega⟩
    simp -implicitDefEqProofs only [go_sem, e5, e6, frmH]
    refine aI ?_ ?_ <;> simp [go_sem, hb]
  ·have hge := aL hlt
   rw [aT hge] at hI1 hI2 hI3
   have hb : termsOk l = true := by simp [termsOk, hI1, hI2, hI3]
   simp -implicitDefEqProofs only [go_sem, hlt]
   refine aI ?_ ?_ <;> simp [go_sem, hb]
theorem h95 (t : Tm) (ht : t.size < 2 ^ 30) (hs : t.strs) : Pure (PC GL) 95 [enc t] (.i (if t.ok then 0 else 3)) := by
 have e : termsOk [t] = t.ok := by
  rw [Bool.eq_iff_iff]
  rw [termsOk, Tm.ok]
  simp only [Bool.and_eq_true, decide_eq_true_eq]
  simp only [nodesOks, deeps, sizes, Bool.and_true]
  constructor
  ·rintro ⟨a, b, c⟩; exact ⟨by omega, by omega, a⟩
  ·rintro ⟨a, b, c⟩; exact ⟨c, by omega, by omega⟩
 refine k95.pure (by simp) (by simp [go_sem]) (by simp [go_sem]) ?_
 simp -implicitDefEqProofs only [c95, r95, go_sem]
 simp -implicitDefEqProofs only [go_sem, cP]
 refine dC (h181 [t] (by simpa [sizes] using ht) (by simpa [strss] using hs)) ?_ ?_
 ·simp [fzs, fzGs, fzG, gC]
 simp -implicitDefEqProofs only [go_sem, e]
 refine aI ?_ ?_ <;> simp [go_sem]
theorem free_str : Free AV.str := ⟨fun κ a => by simp only [ren], fun n a => by simp only [bd]⟩
@[go_sem] theorem rens_strs (κ : Nat -> Nat) (l : List (List UInt8)) : rens κ (l.map .str) = l.map .str := free_str.rens κ l
@[go_sem] theorem bds_strs (n : Nat) (l : List (List UInt8)) : bds n (l.map .str) = True := free_str.bds n l
def idxF {α : Type} (p : α -> Bool) (l : List α) : Int := if l.any p then (l.findIdx p : Nat) else -1
theorem fO {α : Type} {l : List α} {j : Nat} (h : j < l.length) (p : α -> Bool) : (l.take (j + 1)).any p = ((l.take j).any p || p l[j]) := by rw [bD h, List.any_append]; simp
theorem fI {α : Type} {p : α -> Bool} {l : List α} (h : l.any p = false) : idxF p l = -1 := by rw [idxF, h]; rfl
theorem gX {α : Type} {p : α -> Bool} {l : List α} {j : Nat} (hj : j < l.length) (h1 : (l.take j).any p = false) (h2 : p l[j] = true) : idxF p l = j := by
 have ha : l.any p = true := List.any_eq_true.2 ⟨_, List.getElem_mem hj, h2⟩
 rw [idxF, ha]
 have : l.findIdx p = j := by
  refine (List.findIdx_eq hj).2 ⟨h2, fun i hi => ?_⟩
  have := (List.any_eq_false.1 h1) l[i] (List.mem_take_iff_getElem.2 ⟨i, by omega, rfl⟩)
  simpa using this
 simp [this]
theorem kA {α : Type} (p : α -> Bool) (l : List α) : decide (idxF p l >= 0) = l.any p := by
 rw [idxF]; cases l.any p <;> simp
theorem h187 (l : List (List UInt8)) (s : List UInt8) (hl : l.length < 2 ^ 30) : Pure (PC GL) 187 [.sl 1 (l.map .str), .str s] (.i (idxF (fun x => s == x) l)) := by
 refine k187.pure (by simp) (by simp [go_sem]) (by simp [go_sem]) ?_
 simp -implicitDefEqProofs only [go_sem, c187, r187]
 refine eN hC (fun j => (l.take j).any (fun x => s == x) = false) (fun j => [(8, .i j)]) [7, 0, 1] l.length rfl ?_ ?_
 ·refine Wk.slots (by simp) ?_ ?_ <;> simp [go_sem]
 ·rintro j hj hI
  simp -implicitDefEqProofs only [go_sem]
  refine aK (fun hlt => ?_) (fun hlt => ?_)
  ·have hlt := aM hlt
   have g1 := fO hlt (fun x => s == x)
   have w5 : IntKind.i64.wrap ((j : Int) + 1) = (j : Int) + 1 := aP _ (by omega)
   simp -implicitDefEqProofs only [go_sem, hlt, aS]
   refine aK (fun hx => ?_) (fun hx => ?_)
   ·simp -implicitDefEqProofs only [go_sem, hx]
    refine aI ?_ ?_ <;> simp [go_sem, gX hlt hI hx]
   ·simp -implicitDefEqProofs only [go_sem, hx]
    exact ⟨by rw [g1, hI, hx]; rfl, Wk.slots (by simp) (by simp [go_sem, w5]) (by simp [go_sem])⟩
  ·have hge := aL hlt
   rw [aT hge] at hI
   simp -implicitDefEqProofs only [go_sem, hlt]
   refine aI ?_ ?_ <;> simp [go_sem, fI hI]
theorem h110 (l : List Tm) (f : FuncId) (p : Tm -> Bool) (hl : l.length < 2 ^ 30) (hf : ∀ x ∈ l, Pure (PC GL) f [enc x] (.b (p x))) : Pure (PC GL) 110 [.sl 4 (l.map enc), .fn (.func f) [] []] (.i (idxF p l)) := by
 refine k110.pure (by simp) (by simp [go_sem]) (by simp [go_sem]) ?_
 simp -implicitDefEqProofs only [go_sem, c110, r110]
 refine eN hC (fun j => (l.take j).any p = false) (fun j => [(8, .i j)]) [7, 0, 1] l.length rfl ?_ ?_
 ·refine Wk.slots (by simp) ?_ ?_ <;> simp [go_sem]
 ·rintro j hj hI
  simp -implicitDefEqProofs only [go_sem]
  refine aK (fun hlt => ?_) (fun hlt => ?_)
  ·have hlt := aM hlt
   have g1 := fO hlt p
   have w5 : IntKind.i64.wrap ((j : Int) + 1) = (j : Int) + 1 := aP _ (by omega)
   simp -implicitDefEqProofs only [go_sem, hlt, aS]
   refine aG hC (hf _ (List.getElem_mem hlt)) ?_
   simp -implicitDefEqProofs only [go_sem]
   refine aK (fun hx => ?_) (fun hx => ?_)
   ·simp -implicitDefEqProofs only [go_sem, hx]
    refine aI ?_ ?_ <;> simp [go_sem, gX hlt hI hx]
   ·simp -implicitDefEqProofs only [go_sem, hx]
    exact ⟨by rw [g1, hI, hx]; rfl, Wk.slots (by simp) (by simp [go_sem, w5]) (by simp [go_sem])⟩
  ·have hge := aL hlt
   rw [aT hge] at hI
   simp -implicitDefEqProofs only [go_sem, hlt]
   refine aI ?_ ?_ <;> simp [go_sem, fI hI]
theorem h188 (l : List Tm) (f : FuncId) (p : Tm -> Bool) (hl : l.length < 2 ^ 30) (hf : ∀ x ∈ l, Pure (PC GL) f [enc x] (.b (p x))) : Pure (PC GL) 188 [.sl 4 (l.map enc), .fn (.func f) [] []] (.b (l.any p)) := by
 refine k188.pure (by simp) (by simp [go_sem]) (by simp [go_sem]) ?_
 simp -implicitDefEqProofs only [go_sem, c188, r188]
 refine aG hC (h110 l f p hl hf) ?_
 simp -implicitDefEqProofs only [go_sem, kA]
 refine aI ?_ ?_ <;> simp [go_sem]
def calcS (s : List UInt8) : Bool := s == [43] || (s == [45] || (s == [42] || (s == [47] || s == [109, 111, 100])))
mutual
def Tm.expr : Tm -> Bool
 | .mk k _ s l => (k == 2 || k == 1) || (k == 5 && (calcS s && ((l.length == 2 || (l.length == 1 && s == [45])) && exprs l)))
def exprs : List Tm -> Bool
 | [] => true
 | t :: r => t.expr && exprs r
end
theorem expr_eq (t : Tm) : t.expr = ((t.kind == 2 || t.kind == 1) || (t.kind == 5 && (calcS t.s && ((t.l.length == 2 || (t.l.length == 1 && t.s == [45])) && exprs t.l)))) := by cases t; rfl
theorem qF : ∀ l, exprs l = !l.any fun x => !x.expr
 | [] => rfl
 | t :: r => by simp only [exprs, List.any_cons, Bool.not_or, Bool.not_not, qF r]
theorem h189 (x : Tm) (h : Pure (PC GLs) 99 [enc x] (.b x.expr)) : Pure (PC GLs) 189 [enc x] (.b (!x.expr)) := by
 refine k189.pure (by simp) (by simp [go_sem]) (by simp [go_sem]) ?_
 simp -implicitDefEqProofs only [go_sem, c189, r189]
 refine aG hC h ?_
 simp -implicitDefEqProofs only [go_sem]
 refine aI ?_ ?_ <;> simp [go_sem]
theorem gget_GLs : gget GLs 0 = .pel [.str [43], .str [45], .str [42], .str [47], .str [109, 111, 100], .str [45]] := rfl
theorem h187c (s : List UInt8) : Pure (PC GL) 187 [.sl 1 [.str [43], .str [45], .str [42], .str [47], .str [109, 111, 100]], .str s] (.i (idxF (fun x => s == x) [[43], [45], [42], [47], [109, 111, 100]])) :=
 h187 [[43], [45], [42], [47], [109, 111, 100]] s (by simp)
theorem deq (n : Nat) (k : Nat) : ((n : Int) == (k : Int)) = (n == k) := by rw [Bool.eq_iff_iff]; simp; omega
theorem deq2 (n : Nat) : ((n : Int) == 2) = (n == 2) := deq n 2
theorem deq1 (n : Nat) : ((n : Int) == 1) = (n == 1) := deq n 1
theorem h99 (t : Tm) (ht : t.size < 2 ^ 30) : Pure (PC GLs) 99 [enc t] (.b t.expr) := by
 induction t using cR with
 | _ t ih =>
 rw [bE] at ht
 have h4 := aQ t.l
 have e1 := expr_eq t
 have e2 := qF t.l
 have h8 := h188 (GL := GLs) t.l 189 (fun x => !x.expr) (by omega) (fun x hx => h189 x (ih x hx (by have := kL hx; rw [bE t] at this; omega)))
 refine k99.pure (by simp) (by simp [go_sem]) (by simp [go_sem]) ?_
 simp -implicitDefEqProofs only [go_sem, c99, r99]
 repeat' (first | simp -implicitDefEqProofs only [go_sem, *, kA, deq1, deq2, gget_GLs, Int.reduceToNat, Nat.reduceSub, List.drop_zero, List.take_succ_cons] | with_reducible refine aV (fun _ => ?_) (fun _ => ?_) | with_reducible refine aX (fun _ => ?_) (fun _ => ?_) | with_reducible refine aK (fun _ => ?_) (fun _ => ?_) | with_reducible refine aI ?_ ?_ | (refine aG hC (h187c _) ?_) | (refine aG hC (id h8) ?_) | ((with_reducible refine And.intro ?bnd ?_); (case bnd => decide)) | fail)
 all_goals simp_all [go_sem, calcS]
def tstL : List (List UInt8 × Int) := [([119, 97, 105, 116], 1), ([105, 110, 116, 101, 103, 101, 114], 1), ([97, 116, 111, 109], 1), ([115, 116, 114, 105, 110, 103], 1), ([118, 101, 99, 116, 111, 114], 1), ([108, 105, 115, 116], 1), ([61, 61], 2), ([92, 61, 61], 2)]
def cmpL : List (List UInt8 × Bool) := [([61, 58, 61], true), ([61, 92, 61], true), ([60], true), ([61, 60], true), ([62], true), ([62, 61], true)]
def isLit {α : Type} (L : List (List UInt8 × α)) (g : α -> AV) : Option (ARes × List AObj) -> Bool
 | some (.val x, h) => beqAV x (.mp 0) && (match h with | [.map ks vs] => beqAVs ks (L.map fun p => .str p.1) && beqAVs vs (L.map fun p => g p.2) | _ => false)
 | _ => false
theorem map_lit {f : FuncId} {α : Type} (L : List (List UInt8 × α)) (g : α -> AV) (hg : Free g)
  (he : isLit L g (evCall GL (mkT Tryz.prog) (mkKC Tryz.prog) (withD Tryz.prog GL NoN) 30 (.fn f) [] []) = true) (h : List AObj) {R : ARes -> List AObj -> Prop} (hR : R (.val (.mp h.length)) (h ++ [.map (L.map fun p => .str p.1) (L.map fun p => g p.2)])) : PC GL (.fn f) [] h R := by
 have h0 : ACall Tryz.prog GL f [] [] fun r h' => r = .val (.mp 0) /\ h' = [.map (L.map fun p => .str p.1) (L.map fun p => g p.2)] := by
  unfold isLit at he
  split at he
  ·rename_i x h1 hx
   simp only [Bool.and_eq_true] at he
   have h2 := eV he.1
   have h3 := he.2
   split at h3
   ·simp only [Bool.and_eq_true] at h3
    exact rD xL hx ⟨by rw [h2], by rw [bL h3.1, bL h3.2]⟩
   ·cases h3
  ·cases he
 have h1 := mG (h := h) (by simp [bds]) h0
 refine ACall.mono _ _ _ _ _ ?_ h1
 rintro r h' ⟨r0, h0, ⟨rfl, rfl⟩, rfl, rfl⟩
 have e1 : ∀ l : List (List UInt8 × α), rens (· + h.length) (l.map fun p => AV.str p.1) = l.map fun p => AV.str p.1 := by
  intro l; induction l with
  | nil => rfl
  | cons x r ih => simp only [List.map_cons, rens, ren, ih]
 have e2 : ∀ l : List (List UInt8 × α), rens (· + h.length) (l.map fun p => g p.2) = l.map fun p => g p.2 := by
  intro l; induction l with
  | nil => rfl
  | cons x r ih => simp only [List.map_cons, rens, hg.1, ih]
 simpa [renR, ren, renO, e1, e2] using hR
theorem free_int : Free fun n => AV.v (.int .i64 n) := ⟨fun _ _ => by simp only [ren], fun _ _ => by simp only [bd]⟩
theorem free_bool : Free fun n => AV.v (.bool n) := ⟨fun _ _ => by simp only [ren], fun _ _ => by simp only [bd]⟩
theorem e191 : isLit tstL (fun n => .v (.int .i64 n)) (evCall GL (mkT Tryz.prog) (mkKC Tryz.prog) (withD Tryz.prog GL NoN) 30 (.fn 191) [] []) = true := by kernel_rfl
theorem e192 : isLit cmpL (fun n => .v (.bool n)) (evCall GL (mkT Tryz.prog) (mkKC Tryz.prog) (withD Tryz.prog GL NoN) 30 (.fn 192) [] []) = true := by kernel_rfl
theorem h191 (h : List AObj) {R : ARes -> List AObj -> Prop} (hR : R (.val (.mp h.length)) (h ++ [.map (tstL.map fun p => .str p.1) (tstL.map fun p => .v (.int .i64 p.2))])) : PC GL (.fn 191) [] h R := map_lit tstL (fun n => .v (.int .i64 n)) free_int e191 h hR
theorem h192 (h : List AObj) {R : ARes -> List AObj -> Prop} (hR : R (.val (.mp h.length)) (h ++ [.map (cmpL.map fun p => .str p.1) (cmpL.map fun p => .v (.bool p.2))])) : PC GL (.fn 192) [] h R := map_lit cmpL (fun n => .v (.bool n)) free_bool e192 h hR
def Tm.test (t : Tm) : Bool := t.isAtom [116, 114, 117, 101] || (t.kind == 5 && (match getT t.s tstL with
 | some n => (t.l.length : Int) == n
 | none => (getT t.s cmpL).isSome && (t.l.length == 2 && exprs t.l)))
theorem cmp_true (s : List UInt8) (b : Bool) (h : getT s cmpL = some b) : b = true := by
 simp only [cmpL, getT] at h
 repeat' (split at h; simp_all)
 simp at h
theorem h101 (t : Tm) (ht : t.size < 2 ^ 30) : Pure (PC GLs) 101 [enc t] (.b t.test) := by
 have hx : ∀ x ∈ t.l, Pure (PC GLs) 99 [enc x] (.b x.expr) := fun x hx => h99 x (by have := kL hx; omega)
 refine k101.pure (by simp) (by simp [go_sem]) (by simp [go_sem]) ?_
 simp -implicitDefEqProofs only [go_sem, c101, r101]
 refine aG hC (h190 _ _) ?_
 simp -implicitDefEqProofs only [go_sem]
 refine aK (fun h1 => ?_) (fun h1 => ?_)
 ·simp -implicitDefEqProofs only [go_sem, h1]
  refine aI ?_ ?_ <;> simp [go_sem, Tm.test, h1]
 simp -implicitDefEqProofs only [go_sem, h1]
 refine aK (fun h2 => ?_) (fun h2 => ?_)
 ·simp -implicitDefEqProofs only [go_sem, h2]
  refine aI ?_ ?_ <;> simp_all [go_sem, Tm.test]
 simp -implicitDefEqProofs only [go_sem, h2]
 refine h191 _ ?_
 simp -implicitDefEqProofs only [go_sem, gK]
 have h3 : t.kind = 5 := by simpa using h2
 rcases eT t.s (fun n => AV.v (.int .i64 n)) tstL with ⟨i1, i2⟩ | ⟨j, m, i1, i2, i3⟩
 ·simp -implicitDefEqProofs only [go_sem, i1]
  refine h192 _ ?_
  simp -implicitDefEqProofs only [go_sem, gK]
  rcases eT t.s (fun n => AV.v (.bool n)) cmpL with ⟨j1, j2⟩ | ⟨j, m, j1, j2, j3⟩
  ·simp -implicitDefEqProofs only [go_sem, j1]
   refine aI ?_ ?_ <;> simp [go_sem, Tm.test, h1, h3, i2, j2]
  ·have := cmp_true _ _ j2
   subst this
   simp -implicitDefEqProofs only [go_sem, j1, j3]
   obtain ⟨k, n, s, l⟩ := t
   simp only [Tm.kind_mk, Tm.l_mk, Tm.s_mk] at *
   rcases l with _ | ⟨a, _ | ⟨b, _ | ⟨c, r⟩⟩⟩
   ·repeat' (first | simp -implicitDefEqProofs only [go_sem, *, Int.reduceToNat, deq2] | with_reducible refine aV (fun _ => ?_) (fun _ => ?_) | with_reducible refine aX (fun _ => ?_) (fun _ => ?_) | with_reducible refine aK (fun _ => ?_) (fun _ => ?_) | with_reducible refine aI ?_ ?_ | ((with_reducible refine And.intro ?bnd ?_); (case bnd => decide)) | fail)
    all_goals simp_all [go_sem, Tm.test, Tm.kind_mk, Tm.s_mk, Tm.l_mk]
   ·repeat' (first | simp -implicitDefEqProofs only [go_sem, *, Int.reduceToNat, Nat.reduceAdd, List.getD_cons_zero, deq2] | with_reducible refine aV (fun _ => ?_) (fun _ => ?_) | with_reducible refine aX (fun _ => ?_) (fun _ => ?_) | with_reducible refine aK (fun _ => ?_) (fun _ => ?_) | with_reducible refine aI ?_ ?_ | ((with_reducible refine And.intro ?bnd ?_); (case bnd => decide)) | fail)
    all_goals simp_all [go_sem, Tm.test, Tm.kind_mk, Tm.s_mk, Tm.l_mk]
   ·have ia := hx a (by simp)
    have ib := hx b (by simp)
    repeat' (first | simp -implicitDefEqProofs only [go_sem, *, Int.reduceToNat, Nat.reduceAdd, List.getD_cons_zero, List.getD_cons_succ, deq2, cS] | with_reducible refine aV (fun _ => ?_) (fun _ => ?_) | with_reducible refine aX (fun _ => ?_) (fun _ => ?_) | with_reducible refine aK (fun _ => ?_) (fun _ => ?_) | with_reducible refine aI ?_ ?_ | (refine aG hC (id ia) ?_) | (refine aG hC (id ib) ?_) | ((with_reducible refine And.intro ?bnd ?_); (case bnd => decide)) | fail)
    all_goals simp_all [go_sem, Tm.test, Tm.kind_mk, Tm.s_mk, Tm.l_mk, exprs]
   ·repeat' (first | simp -implicitDefEqProofs only [go_sem, *, Int.reduceToNat, Nat.reduceAdd, List.getD_cons_zero, deq2, List.length_cons] | with_reducible refine aV (fun _ => ?_) (fun _ => ?_) | with_reducible refine aX (fun _ => ?_) (fun _ => ?_) | with_reducible refine aK (fun _ => ?_) (fun _ => ?_) | with_reducible refine aI ?_ ?_ | ((with_reducible refine And.intro ?bnd ?_); (case bnd => decide)) | fail)
    all_goals simp_all [go_sem, Tm.test, Tm.kind_mk, Tm.s_mk, Tm.l_mk]
 ·simp -implicitDefEqProofs only [go_sem, i1, i3]
  refine aI ?_ ?_ <;> simp [go_sem, Tm.test, h1, h3, i2]
end Go.Rip
