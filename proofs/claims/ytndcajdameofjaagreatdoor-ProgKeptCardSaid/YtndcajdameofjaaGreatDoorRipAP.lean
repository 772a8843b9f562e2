/- Expr, Test; goals, the reference's way. -/
import Derived.Test.YtndcajdameofjaaGreatDoorRipAO
import Derived.Test.YtndcajdameofjaaGreatDoorRipAI
import Derived.Test.YtndcajdameofjaaGreatDoorRipAJ
namespace Go.Rip
open Go Go.Proofs
variable {GL : Glob}
attribute [local irreducible] Pure
def dataL : List Sym := [⟨[118, 101, 99, 116, 111, 114, 95, 110, 101, 119], 2⟩, ⟨[118, 101, 99, 116, 111, 114, 95, 115, 105, 122, 101], 3⟩, ⟨[118, 101, 99, 116, 111, 114, 95, 103, 101, 116], 4⟩, ⟨[118, 101, 99, 116, 111, 114, 95, 115, 101, 116], 4⟩,
 ⟨[115, 116, 114, 105, 110, 103, 95, 110, 101, 119], 2⟩, ⟨[115, 116, 114, 105, 110, 103, 95, 115, 105, 122, 101], 3⟩, ⟨[115, 116, 114, 105, 110, 103, 95, 103, 101, 116], 4⟩, ⟨[115, 116, 114, 105, 110, 103, 95, 115, 101, 116], 4⟩, ⟨[115, 116, 114, 105, 110, 103, 95, 106, 111, 105, 110], 3⟩]
theorem getT_mem {α : Type} {s : List UInt8} {v : α} : ∀ {L : List (List UInt8 × α)}, (L.map (·.1)).Nodup -> (getT s L = some v ↔ (s, v) ∈ L)
 | [], _ => by simp [getT]
 | (k, x) :: r, h => by
  simp only [List.map_cons, List.nodup_cons] at h
  simp only [getT, List.mem_cons, Prod.mk.injEq]
  by_cases e : s = k
  ·subst e
   simp only [if_true, Option.some.injEq, true_and]
   constructor
   ·rintro rfl; exact .inl rfl
   ·rintro (rfl | hm)
    ·rfl
    ·exact absurd (List.mem_map.2 ⟨_, hm, rfl⟩) h.1
  ·simp only [e, if_false, false_and, false_or]
   exact getT_mem h.2
theorem isOp_mem (s : Sym) : s.isOp = decide (s ∈ dataL) := by
 have h1 : (opsL.map (·.1)).Nodup := by decide
 have h2 : ∀ s ∈ dataL, (s.name, s.arity) ∈ opsL := by decide
 have h3 : ∀ p ∈ opsL, (⟨p.1, p.2⟩ : Sym) ∈ dataL := by decide
 rw [Bool.eq_iff_iff]
 simp only [Sym.isOp, decide_eq_true_eq, beq_iff_eq]
 rw [getT_mem h1]
 exact ⟨fun h => h3 _ h, fun h => h2 _ h⟩
def Sym.zero : Sym := ⟨[], 0⟩
def Tm.zero : Tm := .mk 0 0 [] []
def Tm.goal (t : Tm) : Int × Int × Tm :=
 match t.isFun [64] 2, t.l with
 | true, [g, p] => if p.kind ≠ 2 ∨ p.n < 0 ∨ p.n > 15 ∨ g.gkind = 0 then (0, 0, .zero) else (g.gkind, p.n, g)
 | true, _ => (0, 0, .zero)
 | false, _ => if t.gkind = 0 then (0, 0, .zero) else (t.gkind, 0, t)
def encG (x : Int × Int × Tm) : AV := .tup [.i x.1, .i x.2.1, enc x.2.2]
theorem isFun_inv {t : Tm} {s : List UInt8} {n : Int} (h : t.isFun s n = true) : t = .mk 5 t.n s t.l /\ (t.l.length : Int) = n := by
 obtain ⟨k, m, x, l⟩ := t
 simp only [Tm.isFun, Tm.kind_mk, Tm.n_mk, Tm.s_mk, Tm.l_mk, Bool.and_eq_true, beq_iff_eq] at h ⊢
 obtain ⟨rfl, rfl, rfl⟩ := h
 exact ⟨rfl, rfl⟩
mutual
theorem wkr_enc : ∀ t, wkr (enc t) (enc t) = True
 | .mk k n s l => by simp only [enc, wkr, wkrs, and_self]
end
theorem h182k (k n : Int) (s : List UInt8) (l : List Tm) (x : List UInt8) (m : Int) : Pure (PC GL) 182 [.agg [.v (.int .i64 k), .v (.int .i64 n), .str s, .sl 4 (l.map enc)], .str x, .i m] (.b ((Tm.mk k n s l).isFun x m)) := by
 rw [<- enc_mk]; exact h182 _ _ _
theorem enc_zero : enc .zero = .agg [.v (.int .i64 0), .v (.int .i64 0), .str [], .sl 4 []] := rfl
theorem h96 (t : Tm) : Pure (PC GL) 96 [enc t] (encG t.goal) := by
 refine k96.pure (by simp) (by simp [go_sem]) (by simp [go_sem, encG]) ?_
 cases hf : t.isFun [64] 2
 ·have e1 : t.goal = if t.gkind = 0 then (0, 0, .zero) else (t.gkind, 0, t) := by simp only [Tm.goal, hf]
  have h1 := h182 (GL := GL) t [64] 2
  have h2 := h183 (GL := GL) t
  rw [hf] at h1
  simp -implicitDefEqProofs only [go_sem, c96, r96]
  repeat' (first | simp -implicitDefEqProofs only [go_sem, *] | with_reducible refine aZ (fun _ => ?_) (fun _ => ?_) | with_reducible refine bA (fun _ => ?_) (fun _ => ?_) | with_reducible refine aJ (fun _ => ?_) (fun _ => ?_) | with_reducible refine aF ?_ ?_ | ((with_reducible apply aC hC); (exact h1)) | ((with_reducible apply aC hC); (exact h2)) | ((with_reducible refine And.intro ?bnd ?_); (case bnd => decide)) | fail)
  all_goals simp_all [go_sem, encG, enc_zero, wkr_enc]
 ·obtain ⟨h1, h2⟩ := isFun_inv hf
  obtain ⟨k, n, s, l⟩ := t
  simp only [Tm.n_mk, Tm.l_mk, Tm.mk.injEq] at h1 h2
  obtain ⟨rfl, -, rfl, -⟩ := h1
  have h3 : l.length = 2 := by omega
  obtain ⟨g, p, rfl⟩ : ∃ g p, l = [g, p] := by
   match l, h3 with
   | [g, p], _ => exact ⟨g, p, rfl⟩
  have h4 := h182k (GL := GL) 5 n [64] [g, p]
  have h5 := h183 (GL := GL) g
  have e1 : (Tm.mk 5 n [64] [g, p]).goal = if p.kind ≠ 2 ∨ p.n < 0 ∨ p.n > 15 ∨ g.gkind = 0 then (0, 0, .zero) else (g.gkind, p.n, g) := rfl
  simp -implicitDefEqProofs only [go_sem, c96, r96, Tm.kind_mk, Tm.n_mk, Tm.s_mk, Tm.l_mk]
  repeat' (first | simp -implicitDefEqProofs only [go_sem, *, Int.reduceToNat, Nat.reduceAdd, List.getD_cons_zero, List.getD_cons_succ, cO] | with_reducible refine aZ (fun _ => ?_) (fun _ => ?_) | with_reducible refine bA (fun _ => ?_) (fun _ => ?_) | with_reducible refine aJ (fun _ => ?_) (fun _ => ?_) | with_reducible refine aF ?_ ?_ | ((with_reducible apply aC hC); (exact h4 _ _)) | ((with_reducible apply aC hC); (exact h5)) | ((with_reducible refine And.intro ?bnd ?_); (case bnd => decide)) | fail)
  all_goals simp_all [go_sem, encG, enc_zero]
  rw [if_neg (by omega)]
  simp [wkr_enc]
noncomputable def Tm.same (a b : Tm) : Bool := @decide (a = b) (Classical.propDecidable _)
mutual
def Tm.cnt : Tm -> Int -> Int -> Bool × Int
 | .mk _ _ s l, left, deep => if left - 1 < 0 ∨ deep > 650 ∨ (s.length : Int) > 500 then (false, left - 1) else cnts l (left - 1) (deep + 1)
def cnts : List Tm -> Int -> Int -> Bool × Int
 | [], left, _ => (true, left)
 | t :: r, left, deep => match t.cnt left deep with
  | (true, x) => cnts r x deep
  | (false, x) => (false, x)
end
theorem cnt_eq (t : Tm) (left deep : Int) : t.cnt left deep = if left - 1 < 0 ∨ deep > 650 ∨ (t.s.length : Int) > 500 then (false, left - 1) else cnts t.l (left - 1) (deep + 1) := by cases t; rfl
theorem cnts_app : ∀ (a b : List Tm) (left deep : Int), cnts (a ++ b) left deep = match cnts a left deep with
  | (true, x) => cnts b x deep
  | (false, x) => (false, x)
 | [], b, left, deep => by simp [cnts]
 | t :: r, b, left, deep => by
  simp only [List.cons_append, cnts]
  rcases t.cnt left deep with ⟨_ | _, x⟩
  ·simp
  ·simp only [cnts_app r b]
theorem cnts_snoc {l : List Tm} {j : Nat} (h : j < l.length) (left deep : Int) : cnts (l.take (j + 1)) left deep = match cnts (l.take j) left deep with
  | (true, x) => l[j].cnt x deep
  | (false, x) => (false, x) := by
 rw [bH h, cnts_app]
 rcases cnts (l.take j) left deep with ⟨_ | _, x⟩
 ·rfl
 ·simp only [cnts]
  rcases l[j].cnt x deep with ⟨_ | _, y⟩ <;> rfl
theorem cnts_stop {l : List Tm} {j : Nat} {left deep x : Int} (h : cnts (l.take j) left deep = (false, x)) : cnts l left deep = (false, x) := by
 rw [<- List.take_append_drop j l, cnts_app, h]
mutual
theorem cnt_true : ∀ (t : Tm) (left deep x : Int), t.cnt left deep = (true, x) -> 0 <= x /\ x = left - t.size /\ t.strs
 | .mk k n s l, left, deep, x, h => by
  rw [cnt_eq] at h
  split at h
  ·cases h
  ·rename_i hc
   have := cnts_true l (left - 1) (deep + 1) x (by simp only [Tm.s_mk] at hc; omega) h
   simp only [Tm.s_mk] at hc
   refine ⟨this.1, ?_, ?_⟩
   ·rw [cC, Tm.l_mk]; omega
   ·rw [strs_eq]
    exact ⟨by rw [Tm.s_mk]; omega, this.2.2⟩
theorem cnts_true : ∀ (l : List Tm) (left deep x : Int), 0 <= left -> cnts l left deep = (true, x) -> 0 <= x /\ x = left - sizes l /\ strss l
 | [], left, deep, x, h0, h => by
  simp only [cnts, Prod.mk.injEq, true_and] at h
  subst h
  exact ⟨h0, by simp [sizes], trivial⟩
 | t :: r, left, deep, x, h0, h => by
  simp only [cnts] at h
  split at h
  ·rename_i y hy
   have h1 := cnt_true t left deep y hy
   have h2 := cnts_true r y deep x h1.1 h
   refine ⟨h2.1, ?_, h1.2.2, h2.2.2⟩
   simp only [sizes]; omega
  ·cases h
end
theorem cnts_ge : ∀ (l : List Tm) (left deep : Int), 0 <= left -> (cnts l left deep).1 = true -> 0 <= (cnts l left deep).2 := by
 intro l left deep h0 h
 rcases hc : cnts l left deep with ⟨b, x⟩
 rw [hc] at h
 simp only at h
 subst h
 exact (cnts_true l left deep x h0 hc).1
def cel (x : Int) : List AObj := [.cells 3 [.i x]]
theorem cel_bd {x : Int} : ∀ (i : Nat) (o : AObj), (cel x)[i]? = some o -> bdO 1 o := by
 intro i o h
 cases i with
 | zero => simp [cel] at h; subst h; simp [bdO, bds, bd, go_sem]
 | succ i => simp [cel] at h
theorem fin_cel {x v : AV} {n m : Int} {ex : List AObj} (hw : wkr x v) (hb : bd 0 v) (hn : n = m) : ∃ y h', Wk GL 1 [(0, x)] (.cells 3 [.v (.int .i64 n)] :: ex) [(0, y)] h' /\ h' = cel m /\ ARes.val y = ARes.val v := by
 subst hn
 exact bI (h1 := cel n) hw hb (Wk.slots (Nat.le_refl _) (by simp [SlotsOk]) (by simp [cel, ObjsOk, renO, rens, ren, wkO, wkrs, wkr, bdO, bds, bd]))
theorem h94 (t : Tm) (ht : t.wid) (left deep : Int) (hl : 0 <= left /\ left < 2 ^ 40) (hd : 0 <= deep /\ deep < 2 ^ 40) :
  PC GL (.fn 94) [enc t, .ref 0 0, .i deep] (cel left) fun r h' => h' = cel (t.cnt left deep).2 /\ r = .val (.b (t.cnt left deep).1) := by
 induction t using dK generalizing left deep with
 | _ t ih =>
 have h5 := cnt_eq t left deep
 obtain ⟨-, h6, h7⟩ := (wid_eq t).1 ht
 have w1 : IntKind.i64.wrap (left - 1) = left - 1 := aD _ (by omega)
 refine k94.call (by simp) ?_
 by_cases hc : left - 1 < 0 ∨ deep > 650 ∨ (t.s.length : Int) > 500
 ·rw [if_pos hc] at h5
  simp -implicitDefEqProofs only [go_sem, c94, r94, cel, w1, h5]
  repeat' (first | simp -implicitDefEqProofs only [go_sem, *] | with_reducible refine aZ (fun _ => ?_) (fun _ => ?_) | with_reducible refine bA (fun _ => ?_) (fun _ => ?_) | with_reducible refine aJ (fun _ => ?_) (fun _ => ?_) | with_reducible refine aF ?_ ?_ | ((with_reducible refine And.intro ?bnd ?_); (case bnd => decide)) | fail)
  any_goals (exfalso; simp only [decide_eq_false_iff_not, decide_eq_true_eq, Bool.not_eq_true', Bool.not_eq_false'] at *; omega)
  all_goals refine fin_cel ?_ ?_ rfl <;> simp [go_sem]
 ·rw [if_neg hc] at h5
  have c1 : decide (left - 1 < 0) = false := by simp; omega
  have c2 : decide (deep > 650) = false := by simp; omega
  have c3 : decide ((t.s.length : Int) > 500) = false := by simp; omega
  simp -implicitDefEqProofs only [go_sem, c94, r94, cel, w1, h5, c1, c2, c3]
  refine s_forH hC (fun j => (cnts (t.l.take j) (left - 1) (deep + 1)).1 = true) (fun j => [(31, .i j)]) (fun j => .cells 3 [.i (cnts (t.l.take j) (left - 1) (deep + 1)).2] :: [.cells 24 [.i t.kind, .i t.n, .str t.s, .sl 4 (t.l.map enc)]]) [30, 29, 3, 1, 2, 6] t.l.length rfl ?_ ?_
  ·refine Wk.slots (by simp) ?_ ?_ <;> simp [go_sem, cnts]
  ·intro j hj hI
   have hge := cnts_ge _ _ _ (by omega) hI
   have hcj : cnts (t.l.take j) (left - 1) (deep + 1) = (true, (cnts (t.l.take j) (left - 1) (deep + 1)).2) := by rw [<- hI]
   have hle := (cnts_true _ _ _ _ (by omega) hcj).2.1
   generalize hx : (cnts (t.l.take j) (left - 1) (deep + 1)).2 = x at *
   simp -implicitDefEqProofs only [go_sem]
   refine aJ (fun hlt => ?_) (fun hlt => ?_)
   ·have hlt := aM hlt
    have g5 := cnts_snoc hlt (left - 1) (deep + 1)
    rw [hcj] at g5
    simp only at g5
    have w2 : IntKind.i64.wrap (deep + 1) = deep + 1 := aD _ (by omega)
    have w5 : IntKind.i64.wrap ((j : Int) + 1) = (j : Int) + 1 := aD _ (by omega)
    simp -implicitDefEqProofs only [go_sem, hlt, aW, w2]
    refine call_to hC (lift2_pre (h1 := cel x) (h2 := cel (t.l[j].cnt x (deep + 1)).2) (by simp [bd]) (by simp [bds, bd, cel, go_sem]) cel_bd cel_bd rfl (ih _ (List.getElem_mem hlt) (wids_mem h7 _ (List.getElem_mem hlt)) x (deep + 1) (by omega) (by omega)) _) ?_
    rcases hy : t.l[j].cnt x (deep + 1) with ⟨_ | _, y⟩
    ·rw [hy] at g5
     have := cnts_stop g5
     simp -implicitDefEqProofs only [go_sem, cel]
     refine fin_cel ?_ ?_ ?_ <;> simp [go_sem, this]
    ·rw [hy] at g5
     simp -implicitDefEqProofs only [go_sem, cel, w5]
     refine ⟨by rw [g5], Wk.slots (by simp) ?_ ?_⟩ <;> simp [go_sem, g5]
   ·have hge := aN hlt
    rw [aV hge] at hcj
    simp -implicitDefEqProofs only [go_sem, hlt]
    refine fin_cel ?_ ?_ ?_ <;> simp [go_sem, hcj]
def encL (l : List Tm) : AV := .sl 4 (l.map enc)
theorem cnts_le {l : List Tm} {left deep x : Int} (h0 : 0 <= left) (h : cnts l left deep = (true, x)) : 0 <= x /\ x <= left := by
 have := cnts_true l left deep x h0 h
 omega
end Go.Rip
