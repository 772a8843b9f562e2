/- Expr, Test; goals, the reference's way. -/
import Derived.Test.YtndcajdameofjaaGreatDoorRipAO
import Derived.Test.YtndcajdameofjaaGreatDoorRipAI
import Derived.Test.YtndcajdameofjaaGreatDoorRipAJ
namespace Go.Rip
open Go Go.Proofs
variable {GL : Glob}
attribute [local irreducible] Pure
def Sym.zero : Sym := ⟨[], 0⟩
def Tm.zero : Tm := .mk 0 0 [] []
def Tm.goal (t : Tm) : Int × Int × Tm :=
 match t.isFun [64] 2, t.l with
 | true, [g, p] => if p.kind ≠ 2 ∨ p.n < 0 ∨ p.n > 15 ∨ g.gkind = 0 then (0, 0, .zero) else (g.gkind, p.n, g)
 | true, _ => (0, 0, .zero)
 | false, _ => if t.gkind = 0 then (0, 0, .zero) else (t.gkind, 0, t)
def encG (x : Int × Int × Tm) : AV := .tup [.i x.1, .i x.2.1, enc x.2.2]
theorem dH {t : Tm} {s : List UInt8} {n : Int} (h : t.isFun s n = true) : t = .mk 5 t.n s t.l /\ (t.l.length : Int) = n := by
 obtain ⟨k, m, x, l⟩ := t
 simp only [Tm.isFun, Tm.kind_mk, Tm.n_mk, Tm.s_mk, Tm.l_mk, Bool.and_eq_true, beq_iff_eq] at h ⊢
 obtain ⟨rfl, rfl, rfl⟩ := h
 exact ⟨rfl, rfl⟩
mutual
theorem wkr_enc : ∀ t, wkr (enc t) (enc t) = True
 | .mk k n s l => by simp only [enc, wkr, wkrs, and_self]
end
theorem h182k (k n : Int) (s : List UInt8) (l : List Tm) (x : List UInt8) (m : Int) : Pure (PC GL) 182 [.agg [.v (.int .i64 k), .v (.int .i64 n), .str s, .sl 4 (l.map enc)], .str x, .i m] (.b ((Tm.mk k n s l).isFun x m)) := by
 rw [<- eK]; exact h182 _ _ _
theorem sT : enc .zero = .agg [.v (.int .i64 0), .v (.int .i64 0), .str [], .sl 4 []] := rfl
theorem h96 (t : Tm) : Pure (PC GL) 96 [enc t] (encG t.goal) := by
 refine k96.pure (by simp) (by simp [go_sem]) (by simp [go_sem, encG]) ?_
 cases hf : t.isFun [64] 2
 ·have e1 : t.goal = if t.gkind = 0 then (0, 0, .zero) else (t.gkind, 0, t) := by simp only [Tm.goal, hf]
  have h1 := h182 (GL := GL) t [64] 2
  have h2 := h183 (GL := GL) t
  rw [hf] at h1
  simp -implicitDefEqProofs only [go_sem, c96, r96]
  repeat' (first | simp -implicitDefEqProofs only [go_sem, *] | with_reducible refine aV (fun _ => ?_) (fun _ => ?_) | with_reducible refine aX (fun _ => ?_) (fun _ => ?_) | with_reducible refine aK (fun _ => ?_) (fun _ => ?_) | with_reducible refine aI ?_ ?_ | ((with_reducible apply aG hC); (exact h1)) | ((with_reducible apply aG hC); (exact h2)) | ((with_reducible refine And.intro ?bnd ?_); (case bnd => decide)) | fail)
  all_goals simp_all [go_sem, encG, sT, wkr_enc]
 ·obtain ⟨h1, h2⟩ := dH hf
  obtain ⟨k, n, s, l⟩ := t
  simp only [Tm.n_mk, Tm.l_mk, Tm.mk.injEq] at h1 h2
  obtain ⟨rfl, -, rfl, -⟩ := h1
  have h3 : l.length = 2 := by omega
  obtain ⟨g, p, rfl⟩ : ∃ g p, l = [g, p] := by
   match l, h3 with
   | [g, p], _ => exact ⟨g, p, rfl⟩
  have h4 := h182k (GL := GL) 5 n [64] [g, p]
  have h5 := h183 (GL := GL) g
  have e1 : (Tm.mk 5 n [64] [g, p]).goal = if p.kind ≠ 2 ∨ p.n < 0 ∨ p.n > 15 ∨ g.gkind = 0 then (0, 0, .zero) else (g.gkind, p.n, g) := rfl
  simp -implicitDefEqProofs only [go_sem, c96, r96, Tm.kind_mk, Tm.n_mk, Tm.s_mk, Tm.l_mk]
  repeat' (first | simp -implicitDefEqProofs only [go_sem, *, Int.reduceToNat, Nat.reduceAdd, List.getD_cons_zero, List.getD_cons_succ, cS] | with_reducible refine aV (fun _ => ?_) (fun _ => ?_) | with_reducible refine aX (fun _ => ?_) (fun _ => ?_) | with_reducible refine aK (fun _ => ?_) (fun _ => ?_) | with_reducible refine aI ?_ ?_ | ((with_reducible apply aG hC); (exact h4 _ _)) | ((with_reducible apply aG hC); (exact h5)) | ((with_reducible refine And.intro ?bnd ?_); (case bnd => decide)) | fail)
  all_goals simp_all [go_sem, encG, sT]
  rw [if_neg (by omega)]
  simp [wkr_enc]
noncomputable def Tm.same (a b : Tm) : Bool := @decide (a = b) (Classical.propDecidable _)
theorem same_iff {a b : Tm} : a.same b = true ↔ a = b := by simp [Tm.same]
theorem fV {a b : Tm} (h : a ≠ b) : a.same b = false := by simpa [Tm.same] using h
theorem Tm.ext' {a b : Tm} (h1 : a.kind = b.kind) (h2 : a.n = b.n) (h3 : a.s = b.s) (h4 : a.l = b.l) : a = b := by
 obtain ⟨_, _, _, _⟩ := a
 obtain ⟨_, _, _, _⟩ := b
 simp only [Tm.kind_mk, Tm.n_mk, Tm.s_mk, Tm.l_mk] at h1 h2 h3 h4
 subst h1 h2 h3 h4
 rfl
theorem h24 (a : Tm) (hs : a.size < 2 ^ 30) (b : Tm) : Pure (PC GL) 24 [enc a, enc b] (.b (a.same b)) := by
 induction a using cR generalizing b with
 | _ a ih =>
 rw [bE] at hs
 have h4 := aQ a.l
 refine k24.pure (by simp) (by simp [go_sem]) (by simp [go_sem]) ?_
 by_cases he : a.kind = b.kind /\ a.n = b.n /\ a.s = b.s /\ a.l.length = b.l.length
 ·obtain ⟨q1, q2, q3, q4⟩ := he
  have hab : a.l = b.l -> a = b := Tm.ext' q1 q2 q3
  simp -implicitDefEqProofs only [go_sem, c24, r24, q1, q2, q3, q4, bne_self_eq_false, beq_self_eq_true, Bool.not_true]
  refine eN hC (fun j => a.l.take j = b.l.take j) (fun j => [(5, .i j)]) [2, 3, 4] b.l.length rfl ?_ ?_
  ·refine Wk.slots (by simp) ?_ ?_ <;> simp [go_sem]
  ·rintro j hj hI
   simp -implicitDefEqProofs only [go_sem]
   refine aK (fun hlt => ?_) (fun hlt => ?_)
   ·have hla := aM hlt
    have hlt : j < b.l.length := by omega
    have w5 : IntKind.i64.wrap ((j : Int) + 1) = (j : Int) + 1 := aP _ (by omega)
    have g1 := bK hla
    simp -implicitDefEqProofs only [go_sem, hlt, q4, aS hlt, aS hla]
    refine aG hC (ih _ (List.getElem_mem hla) (by omega) _) ?_
    by_cases hx : a.l[j] = b.l[j]
    ·have := same_iff.2 hx
     simp -implicitDefEqProofs only [go_sem, this, w5, Bool.not_true]
     refine ⟨by rw [bD hla, bD hlt, hI, hx], Wk.slots (by simp) (by simp [go_sem]) (by simp [go_sem])⟩
    ·have hn : a.same b = false := fV (by rintro rfl; exact hx rfl)
     simp -implicitDefEqProofs only [go_sem, fV hx, Bool.not_false]
     refine aI ?_ ?_ <;> simp [go_sem, hn]
   ·have hge := aL hlt
    rw [aT hge, aT (by omega)] at hI
    have hs : a.same b = true := same_iff.2 (hab hI)
    simp -implicitDefEqProofs only [go_sem, q4]
    refine aI ?_ ?_ <;> simp [go_sem, hs]
 ·have hn : a.same b = false := fV (by rintro rfl; exact he ⟨rfl, rfl, rfl, rfl⟩)
  simp -implicitDefEqProofs only [go_sem, c24, r24]
  repeat' (first | simp -implicitDefEqProofs only [go_sem, *] | with_reducible refine aV (fun _ => ?_) (fun _ => ?_) | with_reducible refine aX (fun _ => ?_) (fun _ => ?_) | with_reducible refine aK (fun _ => ?_) (fun _ => ?_) | with_reducible refine aI ?_ ?_ | ((with_reducible refine And.intro ?bnd ?_); (case bnd => decide)) | fail)
  any_goals (simp_all [go_sem]; done)
  all_goals
   exfalso
   clear hn ih
   simp only [bne_eq_false_iff_eq, Bool.not_eq_false', beq_iff_eq] at *
   simp_all
   omega
mutual
def Tm.cnt : Tm -> Int -> Int -> Bool × Int
 | .mk _ _ s l, left, deep => if left - 1 < 0 ∨ deep > 650 ∨ (s.length : Int) > 500 then (false, left - 1) else cnts l (left - 1) (deep + 1)
def cnts : List Tm -> Int -> Int -> Bool × Int
 | [], left, _ => (true, left)
 | t :: r, left, deep => match t.cnt left deep with
  | (true, x) => cnts r x deep
  | (false, x) => (false, x)
end
theorem cnt_eq (t : Tm) (left deep : Int) : t.cnt left deep = if left - 1 < 0 ∨ deep > 650 ∨ (t.s.length : Int) > 500 then (false, left - 1) else cnts t.l (left - 1) (deep + 1) := by cases t; rfl
theorem fM : ∀ (a b : List Tm) (left deep : Int), cnts (a ++ b) left deep = match cnts a left deep with
  | (true, x) => cnts b x deep
  | (false, x) => (false, x)
 | [], b, left, deep => by simp [cnts]
 | t :: r, b, left, deep => by
  simp only [List.cons_append, cnts]
  rcases t.cnt left deep with ⟨_ | _, x⟩
  ·simp
  ·simp only [fM r b]
theorem qO {l : List Tm} {j : Nat} (h : j < l.length) (left deep : Int) : cnts (l.take (j + 1)) left deep = match cnts (l.take j) left deep with
  | (true, x) => l[j].cnt x deep
  | (false, x) => (false, x) := by
 rw [bD h, fM]
 rcases cnts (l.take j) left deep with ⟨_ | _, x⟩
 ·rfl
 ·simp only [cnts]
  rcases l[j].cnt x deep with ⟨_ | _, y⟩ <;> rfl
theorem qV {l : List Tm} {j : Nat} {left deep x : Int} (h : cnts (l.take j) left deep = (false, x)) : cnts l left deep = (false, x) := by
 rw [<- List.take_append_drop j l, fM, h]
mutual
theorem cnt_true : ∀ (t : Tm) (left deep x : Int), t.cnt left deep = (true, x) -> 0 <= x /\ x = left - t.size /\ t.strs
 | .mk k n s l, left, deep, x, h => by
  rw [cnt_eq] at h
  split at h
  ·cases h
  ·rename_i hc
   have := dX l (left - 1) (deep + 1) x (by simp only [Tm.s_mk] at hc; omega) h
   simp only [Tm.s_mk] at hc
   refine ⟨this.1, ?_, ?_⟩
   ·rw [bE, Tm.l_mk]; omega
   ·rw [bS]
    exact ⟨by rw [Tm.s_mk]; omega, this.2.2⟩
theorem dX : ∀ (l : List Tm) (left deep x : Int), 0 <= left -> cnts l left deep = (true, x) -> 0 <= x /\ x = left - sizes l /\ strss l
 | [], left, deep, x, h0, h => by
  simp only [cnts, Prod.mk.injEq, true_and] at h
  subst h
  exact ⟨h0, by simp [sizes], trivial⟩
 | t :: r, left, deep, x, h0, h => by
  simp only [cnts] at h
  split at h
  ·rename_i y hy
   have h1 := cnt_true t left deep y hy
   have h2 := dX r y deep x h1.1 h
   refine ⟨h2.1, ?_, h1.2.2, h2.2.2⟩
   simp only [sizes]; omega
  ·cases h
end
theorem cnts_ge : ∀ (l : List Tm) (left deep : Int), 0 <= left -> (cnts l left deep).1 = true -> 0 <= (cnts l left deep).2 := by
 intro l left deep h0 h
 rcases hc : cnts l left deep with ⟨b, x⟩
 rw [hc] at h
 simp only at h
 subst h
 exact (dX l left deep x h0 hc).1
def cel (x : Int) : List AObj := [.cells 3 [.i x]]
theorem lH {x : Int} : ∀ (i : Nat) (o : AObj), (cel x)[i]? = some o -> bdO 1 o := by
 intro i o h
 cases i with
 | zero => simp [cel] at h; subst h; simp [bdO, bds, bd, go_sem]
 | succ i => simp [cel] at h
theorem sC {x v : AV} {n m : Int} {ex : List AObj} (hw : wkr x v) (hb : bd 0 v) (hn : n = m) : ∃ y h', Wk GL 1 [(0, x)] (.cells 3 [.v (.int .i64 n)] :: ex) [(0, y)] h' /\ h' = cel m /\ ARes.val y = ARes.val v := by
 subst hn
 exact dM (h1 := cel n) hw hb (Wk.slots (Nat.le_refl _) (by simp [SlotsOk]) (by simp [cel, ObjsOk, renO, rens, ren, wkO, wkrs, wkr, bdO, bds, bd]))
theorem h94 (t : Tm) (ht : t.wid) (left deep : Int) (hl : 0 <= left /\ left < 2 ^ 40) (hd : 0 <= deep /\ deep < 2 ^ 40) :
  PC GL (.fn 94) [enc t, .ref 0 0, .i deep] (cel left) fun r h' => h' = cel (t.cnt left deep).2 /\ r = .val (.b (t.cnt left deep).1) := by
 induction t using cR generalizing left deep with
 | _ t ih =>
 have h5 := cnt_eq t left deep
 obtain ⟨-, h6, h7⟩ := (wid_eq t).1 ht
 have w1 : IntKind.i64.wrap (left - 1) = left - 1 := aP _ (by omega)
 refine k94.call (by simp) ?_
 by_cases hc : left - 1 < 0 ∨ deep > 650 ∨ (t.s.length : Int) > 500
 ·rw [if_pos hc] at h5
  simp -implicitDefEqProofs only [go_sem, c94, r94, cel, w1, h5]
  repeat' (first | simp -implicitDefEqProofs only [go_sem, *] | with_reducible refine aV (fun _ => ?_) (fun _ => ?_) | with_reducible refine aX (fun _ => ?_) (fun _ => ?_) | with_reducible refine aK (fun _ => ?_) (fun _ => ?_) | with_reducible refine aI ?_ ?_ | ((with_reducible refine And.intro ?bnd ?_); (case bnd => decide)) | fail)
  any_goals (exfalso; simp only [decide_eq_false_iff_not, decide_eq_true_eq, Bool.not_eq_true', Bool.not_eq_false'] at *; omega)
  all_goals refine sC ?_ ?_ rfl <;> simp [go_sem]
 ·rw [if_neg hc] at h5
  have c1 : decide (left - 1 < 0) = false := by simp; omega
  have c2 : decide (deep > 650) = false := by simp; omega
  have c3 : decide ((t.s.length : Int) > 500) = false := by simp; omega
  simp -implicitDefEqProofs only [go_sem, c94, r94, cel, w1, h5, c1, c2, c3]
  refine wE hC (fun j => (cnts (t.l.take j) (left - 1) (deep + 1)).1 = true) (fun j => [(31, .i j)]) (fun j => .cells 3 [.i (cnts (t.l.take j) (left - 1) (deep + 1)).2] :: [.cells 24 [.i t.kind, .i t.n, .str t.s, .sl 4 (t.l.map enc)]]) [30, 29, 3, 1, 2, 6] t.l.length rfl ?_ ?_
  ·refine Wk.slots (by simp) ?_ ?_ <;> simp [go_sem, cnts]
  ·intro j hj hI
   have hge := cnts_ge _ _ _ (by omega) hI
   have hcj : cnts (t.l.take j) (left - 1) (deep + 1) = (true, (cnts (t.l.take j) (left - 1) (deep + 1)).2) := by rw [<- hI]
   have hle := (dX _ _ _ _ (by omega) hcj).2.1
   generalize hx : (cnts (t.l.take j) (left - 1) (deep + 1)).2 = x at *
   simp -implicitDefEqProofs only [go_sem]
   refine aK (fun hlt => ?_) (fun hlt => ?_)
   ·have hlt := aM hlt
    have g5 := qO hlt (left - 1) (deep + 1)
    rw [hcj] at g5
    simp only at g5
    have w2 : IntKind.i64.wrap (deep + 1) = deep + 1 := aP _ (by omega)
    have w5 : IntKind.i64.wrap ((j : Int) + 1) = (j : Int) + 1 := aP _ (by omega)
    simp -implicitDefEqProofs only [go_sem, hlt, aS, w2]
    refine call_to hC (qT (h1 := cel x) (h2 := cel (t.l[j].cnt x (deep + 1)).2) (by simp [bd]) (by simp [bds, bd, cel, go_sem]) lH lH rfl (ih _ (List.getElem_mem hlt) (kV h7 _ (List.getElem_mem hlt)) x (deep + 1) (by omega) (by omega)) _) ?_
    rcases hy : t.l[j].cnt x (deep + 1) with ⟨_ | _, y⟩
    ·rw [hy] at g5
     have := qV g5
     simp -implicitDefEqProofs only [go_sem, cel]
     refine sC ?_ ?_ ?_ <;> simp [go_sem, this]
    ·rw [hy] at g5
     simp -implicitDefEqProofs only [go_sem, cel, w5]
     refine ⟨by rw [g5], Wk.slots (by simp) ?_ ?_⟩ <;> simp [go_sem, g5]
   ·have hge := aL hlt
    rw [aT hge] at hcj
    simp -implicitDefEqProofs only [go_sem, hlt]
    refine sC ?_ ?_ ?_ <;> simp [go_sem, hcj]
def encL (l : List Tm) : AV := .sl 4 (l.map enc)
theorem free_encL : Free encL := ⟨fun κ a => by simp only [encL, ren, fG], fun n a => by simp only [encL, bd, iE]⟩
@[go_sem] theorem rens_encL (κ : Nat -> Nat) (l : List (List Tm)) : rens κ (l.map encL) = l.map encL := free_encL.rens κ l
@[go_sem] theorem bds_encL (n : Nat) (l : List (List Tm)) : bds n (l.map encL) = True := free_encL.bds n l
theorem xK (l : List Tm) : (encL l).cells = [.sl 4 (l.map enc)] := rfl
theorem rO {l : List Tm} {left deep x : Int} (h0 : 0 <= left) (h : cnts l left deep = (true, x)) : 0 <= x /\ x <= left := by
 have := dX l left deep x h0 h
 omega
theorem h17 (ls : List (List Tm)) (most : Int) (hw : ∀ l ∈ ls, wids l /\ l.length <= 2 ^ 47) (hl : ls.length <= 2 ^ 47) (hm : 0 <= most /\ most < 2 ^ 40) : Pure (PC GL) 17 [.i most, .sl 1 (ls.map encL)] (.b (cnts ls.flatten most 1).1) := by
 refine k17.pure (by simp) (by simp [go_sem]) (by simp [go_sem]) ?_
 simp -implicitDefEqProofs only [go_sem, c17, r17]
 refine wE hC (fun i => (cnts (ls.take i).flatten most 1).1 = true) (fun i => [(11, .i i)]) (fun i => [.cells 3 [.i (cnts (ls.take i).flatten most 1).2]]) [10, 9, 2, 4] ls.length rfl ?_ ?_
 ·refine Wk.slots (by simp) ?_ ?_ <;> simp [go_sem, cnts]
 ·intro i hi hI
  have hci : cnts (ls.take i).flatten most 1 = (true, (cnts (ls.take i).flatten most 1).2) := by rw [<- hI]
  generalize hx : (cnts (ls.take i).flatten most 1).2 = x at *
  obtain ⟨x0, x1⟩ := rO hm.1 hci
  simp -implicitDefEqProofs only [go_sem]
  refine aK (fun hlt => ?_) (fun hlt => ?_)
  ·have hlt := aM hlt
   have w5 : IntKind.i64.wrap ((i : Int) + 1) = (i : Int) + 1 := aP _ (by omega)
   obtain ⟨hw1, hw2⟩ := hw _ (List.getElem_mem hlt)
   have q1 : (ls.take (i + 1)).flatten = (ls.take i).flatten ++ ls[i] := by rw [bD hlt, List.flatten_append, List.flatten_cons, List.flatten_nil, List.append_nil]
   have q2 : cnts (ls.take (i + 1)).flatten most 1 = cnts ls[i] x 1 := by
    rw [q1, fM, hci]
   have q3 : ∀ y, cnts ls[i] x 1 = (false, y) -> cnts ls.flatten most 1 = (false, y) := by
    intro y hy
    have : ls = ls.take (i + 1) ++ ls.drop (i + 1) := (List.take_append_drop _ _).symm
    rw [this, List.flatten_append, fM, q2, hy]
   simp -implicitDefEqProofs only [go_sem, hlt, aS, xK]
   refine wE hC (fun j => (cnts (ls[i].take j) x 1).1 = true) (fun j => [(17, .i j)]) (fun j => [.cells 3 [.i (cnts (ls[i].take j) x 1).2]]) [16, 15, 11, 10, 9, 2, 4] ls[i].length rfl ?_ ?_
   ·refine Wk.slots (by simp) ?_ ?_ <;> simp [go_sem, cnts]
   ·intro j hj hJ
    have hcj : cnts (ls[i].take j) x 1 = (true, (cnts (ls[i].take j) x 1).2) := by rw [<- hJ]
    generalize hz : (cnts (ls[i].take j) x 1).2 = z at *
    obtain ⟨z0, z1⟩ := rO x0 hcj
    simp -implicitDefEqProofs only [go_sem]
    refine aK (fun hjt => ?_) (fun hjt => ?_)
    ·have hjt := aM hjt
     have w6 : IntKind.i64.wrap ((j : Int) + 1) = (j : Int) + 1 := aP _ (by omega)
     have g5 := qO hjt x 1
     rw [hcj] at g5
     simp only at g5
     simp -implicitDefEqProofs only [go_sem, hjt, aS]
     refine call_to hC (qT (h1 := cel z) (h2 := cel (ls[i][j].cnt z 1).2) (by simp [bd]) (by simp [bds, bd, cel, go_sem]) lH lH rfl (h94 _ (kV hw1 _ (List.getElem_mem hjt)) z 1 (by omega) (by omega)) _) ?_
     rcases hy : ls[i][j].cnt z 1 with ⟨_ | _, y⟩
     ·rw [hy] at g5
      have := q3 _ (qV g5)
      simp -implicitDefEqProofs only [go_sem, cel]
      refine aI ?_ ?_ <;> simp [go_sem, this]
     ·rw [hy] at g5
      simp -implicitDefEqProofs only [go_sem, cel, w6]
      refine ⟨by rw [g5], Wk.slots (by simp) ?_ ?_⟩ <;> simp [go_sem, g5]
    ·have hge := aL hjt
     rw [aT hge] at hcj
     rw [hcj] at q2
     simp -implicitDefEqProofs only [go_sem, hjt, w5]
     refine ⟨by rw [q2], Wk.slots (by simp) ?_ ?_⟩ <;> simp [go_sem, q2]
  ·have hge := aL hlt
   rw [aT hge] at hci
   simp -implicitDefEqProofs only [go_sem, hlt]
   refine aI ?_ ?_ <;> simp [go_sem, hci]
end Go.Rip
