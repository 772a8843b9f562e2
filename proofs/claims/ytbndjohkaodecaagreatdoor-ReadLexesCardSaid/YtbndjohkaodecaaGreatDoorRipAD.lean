/- Slices of slices, new slices. -/
import Derived.Great.BuildSlice
import Derived.Laws.Strings2
import Derived.MapKept
import Derived.WideMake
import Derived.Laws.RangeAny
import Derived.Test.YtbndjohkaodecaaGreatDoorRipAC
namespace Go.Rip
open Go
section
variable {P : Program} {GL : Glob} {E : Env} {A : Nat -> Nat -> Prop} {G : Gd} {h : List AObj} {w : World} {τ : List (Nat × AV)} {ρ : Operand -> Value} {K : AV -> List AObj -> Prop}
theorem dM {lo hi : Option Operand} {a b : Int} {len cap : Nat} (s : Bool) (hρ : Opds GL E A G w τ ρ) (ha : optInt (aeval GL τ) (lo.map compOpd) 0 = some a) (hb : optInt (aeval GL τ) (hi.map compOpd) len = some b)
  (h0 : 0 <= a) (h1 : a <= b) (h2 : b <= len) (h3 : len <= cap) : (Instr.sliceBounds s len cap (lo.map ρ) (hi.map ρ) none).run P w = .ok (a.toNat, b.toNat, cap) w := by
 have key : ∀ {x : Option Operand} {d a : Int}, optInt (aeval GL τ) (x.map compOpd) d = some a -> (x = none /\ a = d) ∨ ∃ y k, x = some y /\ ρ y = .int k a := by
  intro x d a hx
  cases x with
  | none => simp only [Option.map_none, optInt, Option.some.injEq] at hx; exact .inl ⟨rfl, hx.symm⟩
  | some y => obtain ⟨k, hk⟩ := bV (hρ y) hx; exact .inr ⟨y, k, rfl, hk⟩
 have e : (b.toNat : Int) = b := Int.toNat_of_nonneg (by omega)
 have c1 : b <= (cap : Int) := by omega
 have c2 : 0 <= b := by omega
 rcases key ha with ⟨rfl, rfl⟩ | ⟨y, k, rfl, hy⟩ <;> rcases key hb with ⟨rfl, rfl⟩ | ⟨z, j, rfl, hz⟩
 ·simp [Instr.sliceBounds]
 ·simp [Instr.sliceBounds, hz, run_sliceBound, c1, c2]
 ·simp [Instr.sliceBounds, hy, run_sliceBound, h0, h1]
 ·simp [Instr.sliceBounds, hy, hz, run_sliceBound, c1, c2, h0, h1, e]
theorem tY {lo hi : Option Operand} {a b : Int} {len cap : Nat} (s : Bool) (hρ : Opds GL E A G w τ ρ) (ha : optInt (aeval GL τ) (lo.map compOpd) 0 = some a) (hb : optInt (aeval GL τ) (hi.map compOpd) len = some b)
  (h0 : 0 <= a) (h1 : a <= b) (h2 : b <= cap) : (Instr.sliceBounds s len cap (lo.map ρ) (hi.map ρ) none).run P w = .ok (a.toNat, b.toNat, cap) w := by
 have key : ∀ {x : Option Operand} {d a : Int}, optInt (aeval GL τ) (x.map compOpd) d = some a -> (x = none /\ a = d) ∨ ∃ y k, x = some y /\ ρ y = .int k a := by
  intro x d a hx
  cases x with
  | none => simp only [Option.map_none, optInt, Option.some.injEq] at hx; exact .inl ⟨rfl, hx.symm⟩
  | some y => obtain ⟨k, hk⟩ := bV (hρ y) hx; exact .inr ⟨y, k, rfl, hk⟩
 have e : (b.toNat : Int) = b := Int.toNat_of_nonneg (by omega)
 have c2 : 0 <= b := by omega
 rcases key ha with ⟨rfl, rfl⟩ | ⟨y, k, rfl, hy⟩ <;> rcases key hb with ⟨rfl, rfl⟩ | ⟨z, j, rfl, hz⟩
 ·simp [Instr.sliceBounds]
 ·simp [Instr.sliceBounds, hz, run_sliceBound, h2, c2]
 ·simp [Instr.sliceBounds, hy, run_sliceBound, h0, h1]
 ·simp [Instr.sliceBounds, hy, hz, run_sliceBound, h2, c2, h0, h1, e]
theorem lU {lo : Option Operand} {hi mx : Operand} {a b c : Int} {len cap : Nat} (s : Bool) (hρ : Opds GL E A G w τ ρ) (ha : optInt (aeval GL τ) (lo.map compOpd) 0 = some a) (hb : intOfA (aeval GL τ (compOpd hi)) = some b) (hc : intOfA (aeval GL τ (compOpd mx)) = some c)
  (h0 : 0 <= a) (h1 : a <= b) (h2 : b <= c) (h3 : c <= cap) : (Instr.sliceBounds s len cap (lo.map ρ) (some (ρ hi)) (some (ρ mx))).run P w = .ok (a.toNat, b.toNat, c.toNat) w := by
 obtain ⟨k, hk⟩ := bV (hρ hi) hb
 obtain ⟨j, hj⟩ := bV (hρ mx) hc
 have e : (b.toNat : Int) = b := Int.toNat_of_nonneg (by omega)
 have e' : (c.toNat : Int) = c := Int.toNat_of_nonneg (by omega)
 have c2 : 0 <= b := by omega
 have c3 : 0 <= c := by omega
 cases lo with
 | none => simp [Instr.sliceBounds, hk, hj, run_sliceBound, h2, h3, c2, c3, e']; simp only [Option.map_none, optInt, Option.some.injEq] at ha; subst ha; rfl
 | some y =>
  obtain ⟨i, hy⟩ := bV (hρ y) ha
  simp [Instr.sliceBounds, hk, hj, hy, run_sliceBound, h0, h1, h2, h3, c2, c3, e, e']
theorem uA (hW : Wf GL E A G h w) (hρ : Opds GL E A G w τ ρ) {t : TypeId} {x : Operand} {lo hi : Option Operand} (hu : P.underlying t = some .string)
  (hs : stepA GL (.sliceStr (compOpd x) (lo.map compOpd) (hi.map compOpd)) τ h K) : OpOk P GL E A G w (do pure (.value (<- Instr.sliceAt t (ρ x) (lo.map ρ) (hi.map ρ) none))) K := by
 have hx := hρ x
 simp only [stepA] at hs
 split at hs
 ·rename_i l hl
  rw [hl] at hx
  simp only [Rep] at hx
  split at hs
  ·rename_i a b ha hb
   obtain ⟨⟨h0, h1, h2⟩, hs⟩ := hs
   refine OpOk.quiet hW (v := .string ⟨((l.drop a.toNat).take (b.toNat - a.toNat)).toArray⟩) ?_ (by simp [Rep]) hs
   have hsz : (ByteArray.mk l.toArray).size = l.length := by simp [ByteArray.size]
   have := dM (P := P) (w := w) (len := l.length) (cap := l.length) false hρ ha hb h0 h1 h2 (Nat.le_refl _)
   simp [run_sliceAt_string _ _ _ _ _ _ hu, Instr.slice, run_underlying hu, hx, hsz, this, ByteArray.extract_mk]
  ·exact hs.elim
 ·exact hs.elim
theorem rep_part {p : Option Addr} {l : List AV} {n c sz a b m : Nat} (hn : n = l.length) (hm : n <= m) (_hmc : m <= c) (hc : n <= 2 ^ 50) (hr : l = [] ∨ ∃ b o, p = some ⟨b, o, none⟩ /\ RepL E A G w sz b o l) (h1 : a <= b) (h2 : b <= l.length) :
  Rep E A G w (.sl sz ((l.drop a).take (b - a))) (sliced p a b m sz) := by
 simp only [Rep, sliced]
 refine ⟨_, _, _, rfl, by simp; omega, by omega, by omega, ?_⟩
 by_cases he : b - a = 0
 ·left; simp [he]
 ·right
  rcases hr with rfl | ⟨bl, o, rfl, hr⟩
  ·simp at h2; omega
  ·refine ⟨bl, o + a * sz, ?_, ?_⟩
   ·rw [if_neg (by omega)]; simp [cP]
   ·refine RepL.of_get fun i x hx => ?_
    rw [List.getElem?_take] at hx
    split at hx
    ·rw [List.getElem?_drop] at hx
     have := hr.get hx
     rw [Nat.add_mul, <- Nat.add_assoc] at this
     exact this
    ·cases hx
theorem sl_rep {x : AV} {v : Value} {sz : Nat} {l : List AV} (hx : Rep E A G w x v) (hl : slA sz x = some l) : ∃ p c, v = .slice p l.length c /\ l.length <= c /\ l.length <= 2 ^ 50 /\ (l = [] ∨ ∃ b o, p = some ⟨b, o, none⟩ /\ RepL E A G w sz b o l) := by
 unfold slA at hl
 split at hl
 ·split at hl
  ·rename_i s l' hb
   cases hl
   have := Nat.eq_of_beq_eq_true hb
   subst this
   simp only [Rep] at hx
   obtain ⟨p, n, c, rfl, rfl, h2, h3, h4⟩ := hx
   exact ⟨p, c, rfl, h2, h3, h4⟩
  ·cases hl
 ·split at hl
  ·rename_i k s l' hb
   cases hl
   have := Nat.eq_of_beq_eq_true hb
   subst this
   simp only [Rep] at hx
   obtain ⟨_, _, p, n, c, rfl, rfl, h2, h3, h4⟩ := hx
   exact ⟨p, c, rfl, h2, h3, h4⟩
  ·cases hl
 ·cases hl
  simp only [Rep] at hx
  subst hx
  exact ⟨none, 0, rfl, Nat.le_refl _, Nat.zero_le _, .inl rfl⟩
 ·cases hl
theorem pO (hW : Wf GL E A G h w) (hρ : Opds GL E A G w τ ρ) {t e : TypeId} {sz : Nat} {x : Operand} {lo hi mx : Option Operand} (hu : P.underlying t = some (.slice e)) (hsz : tySize P e = some sz)
  (hs : stepA GL (.sliceQ sz (compOpd x) (lo.map compOpd) (hi.map compOpd) (mx.map compOpd)) τ h K) : OpOk P GL E A G w (do pure (.value (<- Instr.sliceAt t (ρ x) (lo.map ρ) (hi.map ρ) (mx.map ρ)))) K := by
 have he : P.elem t = e := by simp [Program.elem, hu]
 simp only [stepA] at hs
 split at hs
 ·rename_i l hl hm
  have hm : mx = none := by simpa using hm
  subst hm
  obtain ⟨p, c, hv, hc, h50, hr⟩ := sl_rep (hρ x) hl
  split at hs
  ·rename_i a b ha hb
   obtain ⟨⟨h0, h1, h2⟩, hs⟩ := hs
   refine OpOk.quiet hW (v := sliced p a.toNat b.toNat c sz) ?_ (rep_part rfl hc (Nat.le_refl _) h50 hr (by omega) (by omega)) hs
   have hb' := dM (P := P) (w := w) (len := l.length) (cap := c) true hρ ha hb h0 h1 h2 hc
   rw [run_sliceAt_slice _ _ _ _ _ _ (by rw [he]; exact hu), hv, Option.map_none, run_slice_any _ _ _ _ _ (by rw [he]; exact hu), hb']
   simp [he, bG hsz]
  ·exact hs.elim
 ·exact hs.elim
theorem RepC.one {b : Nat} : ∀ {l : List AV} {o : Nat}, RepC E A G w b o l -> RepL E A G w 1 b o l
 | [], _, _ => by simp [RepL]
 | x :: xs, o, h => by
  simp only [RepC] at h
  obtain ⟨⟨u, h1, h2, h3, h4⟩, h⟩ := h
  have hc : x.cells = [x] := by
   cases x <;> first | rfl | (simp only [Rep] at h4; obtain ⟨cs, rfl, _⟩ := h4; cases h3)
  rw [cG, hc]
  exact ⟨rfl, by simp only [RepC, and_true]; exact ⟨u, h1, h2, h3, h4⟩, h.one⟩
theorem RepL.part {sz b o : Nat} {l : List AV} (hr : RepL E A G w sz b o l) (i n : Nat) : RepL E A G w sz b (o + i * sz) ((l.drop i).take n) :=
 RepL.of_get fun j x hx => by
  rw [List.getElem?_take] at hx
  split at hx
  ·rw [List.getElem?_drop] at hx
   have := hr.get hx
   rw [Nat.add_mul, <- Nat.add_assoc] at this
   exact this
  ·cases hx
theorem sO (hW : Wf GL E A G h w) (hρ : Opds GL E A G w τ ρ) {t e : TypeId} {n sz : Nat} {x : Operand} {lo hi : Option Operand} (hu : P.underlying t = some (.array n e)) (hsz : tySize P e = some sz) (hn : n <= 2 ^ 50)
  (hs : stepA GL (.sliceArr n sz (compOpd x) (lo.map compOpd) (hi.map compOpd)) τ h K) : OpOk P GL E A G w (do pure (.value (<- Instr.sliceAt t (ρ x) (lo.map ρ) (hi.map ρ) none))) K := by
 have hx := hρ x
 simp only [stepA] at hs
 split at hs
 ·rename_i l hl
  rw [hl] at hx
  simp only [Rep] at hx
  obtain ⟨bl, o, hv, hr⟩ := hx
  split at hs
  ·rename_i a b ha hb h1s hnl
   have h1s := Nat.eq_of_beq_eq_true h1s
   subst h1s
   have hnl := Nat.le_of_ble_eq_true hnl
   obtain ⟨⟨h0, h1, h2⟩, hs⟩ := hs
   have hb' := dM (P := P) (w := w) (len := n) (cap := n) false hρ ha hb h0 h1 h2 (Nat.le_refl _)
   refine OpOk.quiet hW (v := .slice (some (if n = a.toNat then ⟨bl, o, none⟩ else (⟨bl, o, none⟩ : Addr).add (a.toNat * 1))) (b.toNat - a.toNat) (n - a.toNat)) ?_ ?_ hs
   ·simp [Instr.sliceAt, run_underlying hu, hv, Instr.sureAddr, hb', bG hsz]
   ·simp only [Rep]
    refine ⟨_, _, _, rfl, by simp; omega, by omega, by omega, ?_⟩
    by_cases he : b.toNat - a.toNat = 0
    ·left; simp [he]
    ·refine .inr ⟨bl, o + a.toNat, ?_, ?_⟩
     ·rw [if_neg (by omega), cP, Nat.mul_one]
     ·have := hr.one.part a.toNat (b.toNat - a.toNat)
      rwa [Nat.mul_one] at this
  ·exact hs.elim
 ·exact hs.elim
theorem cI {sz : Nat} : ∀ {l : List AV}, (∀ x ∈ l, x.cells.length = sz) -> (l.flatMap AV.cells).length = l.length * sz
 | [], _ => by simp
 | x :: xs, h => by
  rw [List.flatMap_cons, List.length_append, h x (by simp), cI fun y hy => h y (by simp [hy]), List.length_cons, Nat.add_mul, Nat.one_mul, Nat.add_comm]
theorem rV {sz : Nat} {x : AV} (hx : x.cells.length = sz) : ∀ {l : List AV} {i : Nat}, (∀ x ∈ l, x.cells.length = sz) -> i < l.length -> (l.set i x).flatMap AV.cells = splice (l.flatMap AV.cells) (i * sz) x.cells
 | [], _, _, h => by simp at h
 | y :: ys, i, hl, hi => by
  have hy := hl y (by simp)
  cases i with
  | zero => simp [splice, hx, <- hy]
  | succ i =>
   have ih := rV hx (l := ys) (i := i) (fun z hz => hl z (by simp [hz])) (by simpa using hi)
   have e1 : (i + 1) * sz = y.cells.length + i * sz := by rw [hy, Nat.add_mul, Nat.one_mul, Nat.add_comm]
   rw [List.set_cons_succ, List.flatMap_cons, List.flatMap_cons, ih, splice, splice, e1, Nat.add_assoc, List.take_length_add_append, List.drop_length_add_append]
   simp
theorem lO {sz : Nat} : ∀ (ps : List (Nat × AV)) (zs l : List AV), fillL sz zs ps = some l -> (∀ x ∈ zs, x.cells.length = sz) ->
  fillA (zs.flatMap AV.cells) (ps.map fun (i, x) => (i * sz, sz, x)) = some (l.flatMap AV.cells) /\ l.length = zs.length /\ ∀ x ∈ l, x.cells.length = sz
 | [], zs, l, h, hz => by
  simp only [fillL, Option.some.injEq] at h
  subst h
  exact ⟨rfl, rfl, hz⟩
 | (i, x) :: r, zs, l, h, hz => by
  simp only [fillL] at h
  split at h
  ·rename_i hb
   simp only [Bool.and_eq_true] at hb
   obtain ⟨⟨hb1, hb2⟩, hb3⟩ := hb
   have hx := Nat.eq_of_beq_eq_true hb2
   have hi : i < zs.length := Nat.le_of_ble_eq_true hb3
   obtain ⟨h1, h2, h3⟩ := lO r _ l h (fun y hy => by
    rcases List.mem_or_eq_of_mem_set hy with hy | rfl
    ·exact hz y hy
    ·exact hx)
   refine ⟨?_, by simpa using h2, h3⟩
   simp only [List.map_cons, fillA]
   rw [cI hz, hb1, hb2]
   have : Nat.ble (i * sz + sz) (zs.length * sz) = true := by
    rw [Nat.ble_eq, <- Nat.succ_mul]
    exact Nat.mul_le_mul_right _ hi
   rw [this, <- rV hx hz hi]
   exact h1
  ·cases h
theorem iQ (sz : Nat) : ∀ ps : List (Nat × Operand), compParts (fun i => some (i * sz, sz)) ps = some (ps.map fun (i, x) => (i * sz, sz, compOpd x))
 | [] => rfl
 | (i, x) :: r => by simp only [compParts, iQ sz r, List.map_cons]
theorem kL {z : AV} {zv : Value} {sz : Nat} (hz : Reps E A G w z.cells zv.cells.toList) (hs : zv.cells.size = sz) (hpos : 0 < sz) (n : Nat) :
  Reps E A G w ((List.replicate n z).flatMap AV.cells) ((Array.range (n * sz)).map (zv.cells[· % zv.cells.size]!)).toList := by
 have hzl := hz.length
 simp only [Array.length_toList] at hzl
 have hl : ∀ x ∈ List.replicate n z, x.cells.length = sz := fun x hx => by rw [List.eq_of_mem_replicate hx]; omega
 refine Reps.of_get ?_ fun j x u hx hu => ?_
 ·rw [cI hl]; simp
 ·have hj : j < n * sz := by
   have := (List.getElem?_eq_some_iff.1 hx).1
   rw [cI hl] at this
   simpa using this
  have hq : j / sz < n := Nat.div_lt_of_lt_mul (by rw [Nat.mul_comm]; exact hj)
  have hr : j % sz < sz := Nat.mod_lt _ hpos
  have h1 : (List.replicate n z)[j / sz]? = some z := by simp [hq]
  have h2 : z.cells[j % sz]? = some (z.cells[j % sz]'(by omega)) := List.getElem?_eq_getElem _
  have h3 := fD hl h1 h2
  rw [Nat.mul_comm, Nat.div_add_mod, hx] at h3
  cases h3
  obtain ⟨u', hu', hrep⟩ := hz.get h2
  have : u = u' := by
   rw [Array.getElem?_toList] at hu hu'
   simp [hj, hs] at hu
   rw [getElem!_pos _ _ (by omega)] at hu
   rw [Array.getElem?_eq_getElem (by omega)] at hu'
   cases hu'; exact hu.symm
  rw [this]; exact hrep
theorem cE {zv : Value} {sz : Nat} (ho : ∀ u ∈ zv.cells.toList, u.oneCell' = true) (hs : zv.cells.size = sz) (hpos : 0 < sz) (n : Nat) :
  ∀ u ∈ ((Array.range (n * sz)).map (zv.cells[· % zv.cells.size]!)).toList, u.oneCell' = true := by
 intro u hu
 simp only [Array.toList_map, List.mem_map] at hu
 obtain ⟨j, _, rfl⟩ := hu
 rw [getElem!_pos _ _ (by rw [hs]; exact Nat.mod_lt _ hpos)]
 exact ho _ (by simp)
theorem fC {b sz : Nat} {l : List AV} {cs : List Value} (hl : ∀ x ∈ l, x.cells.length = sz) (hr : Reps E A G w (l.flatMap AV.cells) cs)
  (hc : ∀ (i : Nat) (u : Value), cs[i]? = some u -> i < l.length * sz -> w.cell? ⟨b, i, none⟩ = some u /\ A b i /\ u.oneCell' = true) : RepL E A G w sz b 0 l :=
 RepL.of_get fun i x hx => by
  refine ⟨hl x (List.mem_of_getElem? hx), RepC.of_get fun j y hy => ?_⟩
  have hf := fD hl hx hy
  obtain ⟨u, hu, hrep⟩ := hr.get hf
  have hlt : i * sz + j < l.length * sz := by
   have h1 := (List.getElem?_eq_some_iff.1 hf).1
   rw [cI hl] at h1; exact h1
  obtain ⟨h1, h2, h3⟩ := hc _ u hu hlt
  exact ⟨u, by simpa using h1, by simpa using h2, h3, hrep⟩
end
section
variable {P : Program} {GL : Glob} {E : Env} {A : Nat -> Nat -> Prop} {G : Gd} {h : List AObj} {w : World} {τ : List (Nat × AV)} {ρ : Operand -> Value} {K : AV -> List AObj -> Prop}
theorem bX {t : TypeId} {n : Nat} (h : tySize P t = some n) : ∃ i, P.info? t = some i /\ i.size = n := by
 unfold tySize at h
 split at h
 ·rename_i i hi; cases h; exact ⟨i, hi, rfl⟩
 ·cases h
theorem dA {t : TypeId} {n : Nat} (h : tyBytes P t = some n) : ∃ i, P.info? t = some i /\ i.bytes = n := by
 unfold tyBytes at h
 split at h
 ·rename_i i hi; cases h; exact ⟨i, hi, rfl⟩
 ·cases h
theorem push_own (hW : Wf GL E A G h w) (e : TypeId) (cs : Array Value) (l : List AV) (sz cap : Nat) (ho : ∀ u ∈ cs.toList, u.oneCell' = true) (hl : ∀ x ∈ l, x.cells.length = sz)
  (hr : Reps E A G w (l.flatMap AV.cells) (cs.toList.take (l.length * sz))) (hc : cs.size = cap * sz) (hle : l.length <= cap) (h50 : l.length <= 2 ^ 50) (hcm : cap <= maxLen) :
  ∃ E' A', E.le E' /\ Ext A G w A' G (w.alloc (.cells cs e)) /\ Wf GL E' A' G (h ++ [.spare e sz]) (w.alloc (.cells cs e)) /\
   Rep E' A' G (w.alloc (.cells cs e)) (.own h.length sz l) (.slice (some ⟨w.heap.size, 0, none⟩) l.length cap) := by
 have hN : ∀ i, i < l.length * sz -> ∃ v, (w.alloc (.cells cs e)).cell? ⟨w.heap.size, i, none⟩ = some v := fun i hi => by
  rw [cell_of_row _ _ i cs e (0, 0) (heap_alloc_new w _)]
  have : i < cs.size := by rw [hc]; exact Nat.lt_of_lt_of_le hi (Nat.mul_le_mul_right _ hle)
  exact ⟨_, Array.getElem?_eq_getElem this⟩
 have := hW.push (.cells cs e) (.spare e sz) 0 (.slice (some ⟨w.heap.size, 0, none⟩) l.length cap) 0 (fun i => i < l.length * sz) hN ?_ ?_
 ·obtain ⟨h1, h2⟩ := this
  refine ⟨_, _, E.le_push _ _ _ _, h2, h1, ?_⟩
  simp only [Rep]
  refine ⟨by simp [hW.n], by rw [<- hW.n, Env.push_tok], _, _, _, rfl, rfl, hle, h50, .inr ⟨_, 0, rfl, ?_⟩⟩
  refine fC hl (hr.mono (E.le_push _ _ _ _) h2) fun i u hu hi => ?_
  rw [List.getElem?_take] at hu
  split at hu
  ·refine ⟨?_, .inr ⟨rfl, hi⟩, ho u (List.mem_of_getElem? hu)⟩
   rw [cell_of_row _ _ i cs e (0, 0) (heap_alloc_new w _)]
   simpa using hu
  ·exact absurd hi (by assumption)
 ·refine ⟨l.length, cs.toList.take (l.length * sz), ?_, fun u hu => ho u (List.mem_of_mem_take hu), fun b hb => ?_⟩
  ·rw [Env.push_tok]
   refine ⟨by simp [hc, Nat.min_eq_left (Nat.mul_le_mul_right sz hle)], .inr ⟨_, cap, cs, rfl, Nat.zero_le _, heap_alloc_new w _, hle, hcm, hc, rfl⟩⟩
  ·rw [Env.push_tok] at hb
   simp [Value.ownBlock] at hb
   subst hb
   refine ⟨fun i hi ha => ?_, fun hg => by have := hW.g _ hg; omega⟩
   rcases ha with ha | ⟨_, hn⟩
   ·have := hW.a_lt ha; omega
   ·omega
 ·intro b hb
  simp [obk, Value.ownBlock] at hb
  exact hb.symm
theorem eZ (hρ : Opds GL E A G w τ ρ) {t e : TypeId} {len sz : Nat} {z : AV} {ps : Array (Nat × Operand)} (hu : P.underlying t = some (.slice e)) (hsz : tySize P e = some sz) (hz : tyZero P e = some z)
  (hpos : 0 < sz) (hlen : len * sz <= 2 ^ 24) {l : List AV} (hl : fillL sz (List.replicate len z) ((ps.toList.map fun (i, x) => (i, compOpd x)).map fun (i, x) => (i, aeval GL τ x)) = some l) :
  ∃ cells : Array Value, (Instr.buildSlice t len (ps.map fun (i, x) => (i, ρ x))).run P w = .ok (.slice (some ⟨w.heap.size, 0, none⟩) len len) (w.alloc (.cells cells e)) /\ l.length = len /\ len <= 2 ^ 24 /\ (∀ x ∈ l, x.cells.length = sz) /\
   (∀ u ∈ cells.toList, u.oneCell' = true) /\ Reps E A G w (l.flatMap AV.cells) cells.toList /\ cells.size = len * sz := by
  obtain ⟨i, zv, h1, h2, h3, h4, h5⟩ := bL hz
  obtain ⟨i', hi', hsi⟩ := bX hsz
  rw [h1] at hi'; cases hi'
  have hzr := (h5 E A G w).2
  have hzs : zv.cells.size = sz := by rw [h3, hsi]
  have hzl : z.cells.length = sz := by rw [<- hzr.length]; simpa using hzs
  obtain ⟨f1, f2, f3⟩ := lO _ _ l hl (fun x hx => by rw [List.eq_of_mem_replicate hx]; exact hzl)
  simp only [List.length_replicate] at f2
  have hcp := iQ sz ps.toList
  obtain ⟨cells, g1, g2, g3⟩ := mL hρ (fun i => some (i * sz, sz)) ps.toList _ _ (l.flatMap AV.cells) _ hcp (by simpa [List.map_map, Function.comp_def] using f1) (kL hzr hzs hpos len) (cE h4 hzs hpos len)
  have hcl := g2.length
  rw [cI f3, f2] at hcl
  simp only [Array.length_toList] at hcl
  have hlen50 : len <= 2 ^ 24 := Nat.le_trans (Nat.le_mul_of_pos_right _ hpos) hlen
  have hrun : (Instr.buildSlice t len (ps.map fun (i, x) => (i, ρ x))).run P w = .ok (.slice (some ⟨w.heap.size, 0, none⟩) len len) (w.alloc (.cells cells e)) := by
   by_cases hn : len = 0
   ·subst hn
    have e0 : Array.map (fun x => zv.cells[x % zv.cells.size]!) (Array.range (0 * sz)) = #[] := by simp
    rw [e0] at g1
    have e1 : (Array.map (fun _ => (default : Value)) (Array.range 0)) = #[] := by simp
    simp [Instr.buildSlice, run_underlying hu, sizeOf, typeInfo, h1, hsi, newRow]
    have e2 : List.map (fun x => (x.fst, ρ x.snd)) ps.toList = List.map (fun x => match x with | (i, x) => (i, ρ x)) ps.toList := rfl
    rw [e1, e2, g1]
    rfl
   ·refine run_buildSlice w t e len _ cells i zv hu h1 h2 (by rw [hsi]; omega) (by rw [hsi]; exact Nat.mul_ne_zero hn (by omega)) ?_
    rw [hsi, Array.toList_map]; exact g1
  exact ⟨cells, hrun, f2, hlen50, f3, g3, g2, hcl⟩
theorem pC (hW : Wf GL E A G h w) (hρ : Opds GL E A G w τ ρ) {t e : TypeId} {len sz : Nat} {z : AV} {ps : Array (Nat × Operand)} (hu : P.underlying t = some (.slice e)) (hsz : tySize P e = some sz) (hz : tyZero P e = some z)
  (hpos : 0 < sz) (hlen : len * sz <= 2 ^ 24) (hs : stepA GL (.buildSlice e sz z len (ps.toList.map fun (i, x) => (i, compOpd x))) τ h K) :
  OpOk P GL E A G w (do pure (.value (<- Instr.buildSlice t len (ps.map fun (i, x) => (i, ρ x))))) K := by
 simp only [stepA] at hs
 split at hs
 ·rename_i l hl
  obtain ⟨cells, hrun, f2, hlen50, f3, g3, g2, hcl⟩ := eZ hρ hu hsz hz hpos hlen hl
  obtain ⟨E', A', hE, hX, hW', hr'⟩ := push_own hW e cells l sz len g3 f3 (by rw [f2, <- hcl, <- Array.length_toList, List.take_length]; exact g2) hcl (by omega) (by omega) (by simp only [maxLen]; omega)
  rw [f2] at hr'
  exact ⟨_, _, _, E', A', G, _, _, by simp [hrun], .inl rfl, hE, hX, hW', hr', hs⟩
 ·exact hs.elim
theorem ok_mkMap (hW : Wf GL E A G h w) {t : TypeId} (hs : stepA GL .mkMap τ h K) : OpOk P GL E A G w (do pure (.value (<- Instr.makeMap t none))) K := by
 have := hW.push (.map #[] 0) (.map [] []) 0 undef 0 (fun _ => False) (fun _ hf => hf.elim) ?_ ?_
 ·rw [bK] at this
  refine ⟨.value (.map (some w.heap.size)), _, w.alloc (.map #[] 0), _, A, G, _, _, by rw [Sem.run_bind, run_makeMap_plain]; rfl, .inl rfl, E.le_push _ _ _ _, this.2, this.1, ?_, hs⟩
  simp [Rep, <- hW.n]
 ·rw [bK]
  refine ⟨#[], 0, by rw [Env.push_blk]; exact heap_alloc_new w _, by simp [Reps], by simp [Reps], ⟨by simp, by simp⟩, fun hg => ?_⟩
  rw [Env.push_blk] at hg
  have := hW.g _ hg; omega
 ·intro b hb; simp [obk] at hb; exact hb.symm
theorem uX (hW : Wf GL E A G h w) (hρ : Opds GL E A G w τ ρ) {t e : TypeId} {sz by' : Nat} {z : AV} {l c : Operand} (hu : P.underlying t = some (.slice e)) (hsz : tySize P e = some sz) (hby : tyBytes P e = some by')
  (hz : tyZero P e = some z) (hpos : 0 < sz) (hbp : 0 < by') (hs : stepA GL (.mkSlice e sz by' z (compOpd l) (compOpd c)) τ h K) :
  OpOk P GL E A G w (do pure (.value (<- Instr.makeSlice t (ρ l) (ρ c)))) K := by
 simp only [stepA] at hs
 split at hs
 ·rename_i n m hn hm
  obtain ⟨⟨h0, hnm, hb⟩, hs⟩ := hs
  rw [hnm] at hm
  clear hnm
  obtain ⟨i, zv, h1, h2, h3, h4, h5⟩ := bL hz
  obtain ⟨i', hi', hsi⟩ := bX hsz
  rw [h1] at hi'; cases hi'
  obtain ⟨i', hi', hbi⟩ := dA hby
  rw [h1] at hi'; cases hi'
  obtain ⟨kl, hl⟩ := bV (hρ l) hn
  obtain ⟨kc, hc⟩ := bV (hρ c) hm
  have hzr := (h5 E A G w).2
  have hzs : zv.cells.size = sz := by rw [h3, hsi]
  have hzl : z.cells.length = sz := by rw [<- hzr.length]; simpa using hzs
  have hle : n <= n * (by' : Int) := by
   have := Int.mul_le_mul_of_nonneg_left (show (1 : Int) <= by' by omega) h0
   omega
  have hrun := run_make (P := P) w t e i zv hu h1 h2 kl kc n n h0 (Int.le_refl _) (by rw [hbi, Int.mul_comm]; omega) (by omega)
  have hcs : (madeCells zv.cells (n.toNat * i.size)).size = n.toNat * sz := by rw [size_madeCells, hsi]
  rw [hsi] at hrun
  have hfl : ∀ x ∈ List.replicate n.toNat z, x.cells.length = sz := fun x hx => by rw [List.eq_of_mem_replicate hx]; exact hzl
  have := hW.push (.cells (madeCells zv.cells (n.toNat * sz)) e) (.buf e sz (List.replicate n.toNat z)) n.toNat undef sz (fun _ => False) (fun _ hf => hf.elim) ?_ ?_
  ·rw [bK] at this
   refine ⟨_, .slice (some ⟨w.heap.size, 0, none⟩) n.toNat n.toNat, _, _, A, G, _, _, by simp [hl, hc, hrun], .inl rfl, E.le_push _ _ _ _, this.2, this.1, ?_, hs⟩
   simp only [Rep, <- hW.n]
   exact ⟨by simp, by simp, by simp, by simp, by omega, by simp only [Env.push_cap, maxLen]; omega⟩
  ·rw [bK]
   have hX : Ext A G w A G (w.alloc (.cells (madeCells zv.cells (n.toNat * sz)) e)) := aV hW (World.grownBy_alloc w _ none) (fun _ _ h => h) (fun _ e => by cases e) (fun _ _ => .inl)
   refine ⟨_, by rw [Env.push_blk]; exact heap_alloc_new w _, ?_, by simp, by simp, ?_, hfl, ?_, fun o ha => ?_, fun hg => ?_⟩
   ·exact cE h4 hzs hpos n.toNat
   ·simp [size_madeCells]
   ·have := (kL hzr hzs hpos n.toNat).mono (E.le_push w.heap.size n.toNat undef sz) hX
    rw [List.length_replicate, List.take_of_length_le (by simp [madeCells])]
    exact this
   ·rw [Env.push_blk] at ha; have := hW.a_lt ha; omega
   ·rw [Env.push_blk] at hg; have := hW.g _ hg; omega
  ·intro b hb; simp [obk] at hb; exact hb.symm
 ·exact hs.elim
theorem sV (hW : Wf GL E A G h w) (hρ : Opds GL E A G w τ ρ) {t e : TypeId} {sz by' : Nat} {z : AV} {ps : Array (Nat × Operand)} (hu : P.underlying t = some (.slice e)) (hsz : tySize P e = some sz)
  (hz : tyZero P e = some z) (hpos : 0 < sz) (hps : ps.toList = []) (hs : stepA GL (.mkSlice e sz by' z (.c (.v (.int .i64 0))) (.c (.v (.int .i64 0)))) τ h K) :
  OpOk P GL E A G w (do pure (.value (<- Instr.buildSlice t 0 (ps.map fun (i, x) => (i, ρ x))))) K := by
 have hp0 : ps = #[] := by cases ps; simp at hps; simp [hps]
 subst hp0
 have hs : K (.vec h.length sz 0) (h ++ [.buf e sz []]) := by
  simp only [stepA, aeval, intOfA] at hs
  simpa using hs
 obtain ⟨cells, hrun, -, -, -, -, -, hcl⟩ := eZ (len := 0) (ps := #[]) hρ hu hsz hz hpos (by simp) (l := []) (by simp [fillL])
 have hc0 : cells = #[] := by
  have : cells.size = 0 := by simpa using hcl
  exact Array.eq_empty_of_size_eq_zero this
 subst hc0
 have hrun : Sem.run P (Instr.buildSlice t 0 #[]) w = .ok (.slice (some ⟨w.heap.size, 0, none⟩) 0 0) (w.alloc (.cells #[] e)) := by
  have e0 : (#[] : Array (Nat × Operand)).map (fun (i, x) => (i, ρ x)) = #[] := by simp
  rw [e0] at hrun; exact hrun
 have := hW.push (.cells #[] e) (.buf e sz []) 0 undef sz (fun _ => False) (fun _ hf => hf.elim) ?_ ?_
 ·rw [bK] at this
  refine ⟨_, .slice (some ⟨w.heap.size, 0, none⟩) 0 0, _, _, A, G, _, _, by simp [hrun], .inl rfl, E.le_push _ _ _ _, this.2, this.1, ?_, hs⟩
  simp only [Rep, <- hW.n]
  exact ⟨by simp, by simp, by simp, by simp, by omega, by simp only [Env.push_cap, maxLen]; omega⟩
 ·rw [bK]
  refine ⟨_, by rw [Env.push_blk]; exact heap_alloc_new w _, ?_, by simp, by simp, ?_, by simp, ?_, fun o ha => ?_, fun hg => ?_⟩
  ·simp
  ·simp
  ·simp [Reps]
  ·rw [Env.push_blk] at ha; have := hW.a_lt ha; omega
  ·rw [Env.push_blk] at hg; have := hW.g _ hg; omega
 ·intro b hb; simp [obk] at hb; exact hb.symm
end
section
variable {P : Program} {GL : Glob} {E : Env} {A : Nat -> Nat -> Prop} {G : Gd} {h : List AObj} {w : World} {τ : List (Nat × AV)} {ρ : Operand -> Value} {K : AV -> List AObj -> Prop}
theorem mD (t ty e : TypeId) (i : TypeInfo) (z : Value) (size bytes : Nat) (ht : P.underlying t = some (.slice e)) (hi : P.info? e = some i) (hz : i.zero = some z)
  (hsize : i.size = size) (hby : i.bytes = bytes) (hzs : z.cells.size = size) (hsz : 0 < size) (hbp : 0 < bytes)
  (v : Value) (n : Nat) (xs : List Value) (hown : w.ownsRow 0 e size v n xs)
  (p : Option Addr) (m c : Nat) (news : List Value) (hl : news.length = m * size) (hnews : m = 0 ∨ ∃ a, p = some a /\ ∀ j u, news[j]? = some u -> w.cell? (a.add j) = some u) (h1 : ∀ u ∈ news, u.oneCell' = true)
  (hbytes : (n + m) * bytes <= 2 ^ 47) :
  ∃ v' w', (Builtin.append_ #[t, t] ty #[v, .slice p m c]).run P w = .ok v' w' /\ w'.ownsRow 0 e size v' (n + m) (xs ++ news) /\ w.grownBy w' v.ownBlock /\
   (∀ g o, v.ownBlock = some g -> o < n * size -> w'.cell? ⟨g, o, none⟩ = w.cell? ⟨g, o, none⟩) /\ (∀ g, v'.ownBlock = some g -> v.ownBlock = some g ∨ w.heap.size <= g) /\ (0 < n + m -> v'.ownBlock ≠ none) := by
 have hnm : n + m <= 2 ^ 47 := Nat.le_trans (Nat.le_mul_of_pos_right _ hbp) hbytes
 by_cases hm : m = 0
 ·subst hm
  have hn : news = [] := List.eq_nil_of_length_eq_zero (by simpa using hl)
  subst hn
  refine ⟨v, w, ?_, by simpa using hown, ⟨rfl, rfl, rfl, Nat.le_refl _, fun _ _ _ => rfl⟩, fun _ _ _ _ => rfl, fun g hg => .inl hg, fun h0 => ?_⟩
  ·rcases hown.2 with ⟨rfl, rfl⟩ | ⟨g, cap, cur, rfl, _, _, hnc, _⟩
   ·cases p <;> simp [Builtin.append_, run_underlying ht, sizeOf, typeInfo, hi, Builtin.lenOf, Builtin.firstCells, loadCells, loadCellsFrom]
   ·cases p <;> simp [Builtin.append_, run_underlying ht, sizeOf, typeInfo, hi, Builtin.lenOf, Builtin.firstCells, hnc, storeCells, loadCells, loadCellsFrom]
  ·rcases hown.2 with ⟨rfl, rfl⟩ | ⟨g, cap, cur, rfl, _⟩
   ·omega
   ·simp [Value.ownBlock]
 ·obtain ⟨a, hpa, hnw⟩ := hnews.resolve_left hm
  subst hpa
  obtain ⟨v', w', hr, h2, h3, h4⟩ := run_append_own (P := P) w 0 t ty e i z size bytes ht hi hz hsize hby hzs hsz v n xs hown a m c news hl hnw h1 (by simp only [maxLen]; omega) hbytes (Nat.zero_le _)
  subst hsize
  subst hby
  refine ⟨v', w', hr, h2, h3, ?_⟩
  rcases hown.2 with ⟨rfl, rfl⟩ | ⟨g, cap, cur, rfl, hbg, hg, hnc, hcm, hcs, htake⟩
  ·have hr' := run_append_nil (P := P) w t ty e i z ht hi hz a m c news hl hnw (by omega) (by omega) (by rw [Nat.zero_add] at hbytes; omega)
   rw [hr'] at hr
   cases hr
   exact ⟨fun g o hg _ => by simp [Value.ownBlock] at hg, fun g hg => by simp [Value.ownBlock] at hg; exact .inr (by omega), fun _ => by simp [Value.ownBlock]⟩
  ·by_cases hroom : n + m <= cap
   ·have hfit : n * i.size + news.length <= cur.size := by rw [hl, hcs, <- Nat.add_mul]; exact Nat.mul_le_mul_right _ hroom
    have hr' := run_append_room (P := P) w t ty e i ht hi g n cap cur hg a m c news hl hnw h1 hroom hfit
    rw [hr'] at hr
    cases hr
    refine ⟨fun g' o hg' ho => ?_, fun g' hg' => .inl hg', fun _ => by simp [Value.ownBlock]⟩
    simp [Value.ownBlock] at hg'
    subst hg'
    rw [cell_of_row _ _ _ _ _ _ (setRow_heap w g cur _ e _ hg), cell_of_row _ _ _ _ _ _ hg]
    simp only [List.getElem?_toArray, List.append_assoc]
    rw [List.getElem?_append_left (by simp; omega), List.getElem?_take_of_lt ho]
    simp
   ·have holds : ∀ j u, xs[j]? = some u -> w.cell? ((⟨g, 0, none⟩ : Addr).add j) = some u := hown.cells (g := g) rfl
    have hr' := run_append_grow (P := P) w t ty e i z ht hi hz ⟨g, 0, none⟩ n cap xs hown.1 holds a m c news hl hnw (by omega) (by omega) (growslice_fits (by omega) (by omega))
    rw [hr'] at hr
    cases hr
    refine ⟨fun g' o hg' ho => ?_, fun g' hg' => by simp [Value.ownBlock] at hg'; exact .inr (by omega), fun _ => by simp [Value.ownBlock]⟩
    simp [Value.ownBlock] at hg'
    subst hg'
    exact World.cell?_of_block (a := ⟨g, o, none⟩) (heap_alloc_old w.drew _ g (Array.getElem?_eq_some_iff.1 hg).1)
theorem tX {sz : Nat} : ∀ {l : List AV}, (∀ x ∈ l, x.cells.length = sz) -> ∀ {j : Nat} {y : AV}, (l.flatMap AV.cells)[j]? = some y -> ∃ i k x, j = i * sz + k /\ l[i]? = some x /\ x.cells[k]? = some y
 | [], _, j, y, h => by simp at h
 | x :: xs, hl, j, y, h => by
  rw [List.flatMap_cons] at h
  have hx := hl x (by simp)
  by_cases hj : j < sz
  ·rw [List.getElem?_append_left (by omega)] at h
   exact ⟨0, j, x, by simp, by simp, h⟩
  ·rw [List.getElem?_append_right (by omega), hx] at h
   obtain ⟨i, k, x', h1, h2, h3⟩ := tX (fun z hz => hl z (by simp [hz])) h
   exact ⟨i + 1, k, x', by rw [Nat.add_mul]; omega, by simpa using h2, h3⟩
theorem RepL.lens {sz b : Nat} {l : List AV} {o : Nat} (h : RepL E A G w sz b o l) : ∀ x ∈ l, x.cells.length = sz := fun x hx => by
 obtain ⟨i, hi⟩ := List.mem_iff_getElem?.1 hx
 exact (h.get hi).1
theorem RepL.row {sz b : Nat} {l : List AV} {o : Nat} (h : RepL E A G w sz b o l) : ∃ cs : List Value, cs.length = l.length * sz /\ (∀ j u, cs[j]? = some u -> w.cell? ⟨b, o + j, none⟩ = some u /\ A b (o + j) /\ u.oneCell' = true) /\ Reps E A G w (l.flatMap AV.cells) cs := by
 have hc : ∀ j y, (l.flatMap AV.cells)[j]? = some y -> ∃ u, w.cell? ⟨b, o + j, none⟩ = some u /\ A b (o + j) /\ u.oneCell' = true /\ Rep E A G w y u := fun j y hy => by
  obtain ⟨i, k, x, rfl, hx, hk⟩ := tX h.lens hy
  have := (h.get hx).2.get hk
  rwa [Nat.add_assoc] at this
 refine ⟨(List.range (l.flatMap AV.cells).length).map fun j => (w.cell? ⟨b, o + j, none⟩).getD undef, by simp only [List.length_map, List.length_range]; rw [cI h.lens], fun j u hu => ?_, Reps.of_get (by simp) fun j y u hy hu => ?_⟩
 ·have hj : j < (l.flatMap AV.cells).length := by simpa using (List.getElem?_eq_some_iff.1 hu).1
  obtain ⟨u', h1, h2, h3, _⟩ := hc j _ (List.getElem?_eq_getElem hj)
  rw [List.getElem?_map, List.getElem?_range hj] at hu
  simp only [Option.map_some, h1, Option.getD_some, Option.some.injEq] at hu
  subst hu
  exact ⟨h1, h2, h3⟩
 ·have hj := (List.getElem?_eq_some_iff.1 hy).1
  obtain ⟨u', h1, h2, h3, h4⟩ := hc j y hy
  rw [List.getElem?_map, List.getElem?_range hj] at hu
  simp only [Option.map_some, h1, Option.getD_some, Option.some.injEq] at hu
  subst hu
  exact h4
theorem lC {s : Nat} : ∀ {l : List AV}, (∀ x ∈ l, x.cells.length = s) -> ∀ b, (l.take b).flatMap AV.cells = (l.flatMap AV.cells).take (b * s)
 | [], _, b => by simp
 | x :: xs, hl, 0 => by simp
 | x :: xs, hl, b + 1 => by
  have hx := hl x (by simp)
  rw [List.take_succ_cons, List.flatMap_cons, List.flatMap_cons, lC (fun z hz => hl z (by simp [hz])) b, Nat.add_mul, Nat.one_mul, Nat.add_comm, <- hx, List.take_length_add_append]
theorem kU {s : Nat} : ∀ {l : List AV}, (∀ x ∈ l, x.cells.length = s) -> ∀ b, (l.drop b).flatMap AV.cells = (l.flatMap AV.cells).drop (b * s)
 | [], _, b => by simp
 | x :: xs, hl, 0 => by simp
 | x :: xs, hl, b + 1 => by
  have hx := hl x (by simp)
  rw [List.drop_succ_cons, List.flatMap_cons, kU (fun z hz => hl z (by simp [hz])) b, Nat.add_mul, Nat.one_mul, Nat.add_comm, <- hx, List.drop_length_add_append]
theorem iH (hW : Wf GL E A G h w) {x : AV} {v : Value} {sz : Nat} {l : List AV} (hx : Rep E A G w x v) (hl : elemsA h sz x = some l) :
  ∃ p c, v = .slice p l.length c /\ l.length <= c /\ (∀ x ∈ l, x.cells.length = sz) /\ ∃ news : List Value, news.length = l.length * sz /\ (∀ u ∈ news, u.oneCell' = true) /\ Reps E A G w (l.flatMap AV.cells) news /\
   (l.length = 0 ∨ ∃ a, p = some a /\ ∀ j u, news[j]? = some u -> w.cell? (a.add j) = some u) := by
 have key : ∀ {p : Option Addr} {l : List AV} {sz : Nat}, (l = [] ∨ ∃ b o, p = some ⟨b, o, none⟩ /\ RepL E A G w sz b o l) -> (∀ x ∈ l, x.cells.length = sz) /\ ∃ news : List Value, news.length = l.length * sz /\ (∀ u ∈ news, u.oneCell' = true) /\ Reps E A G w (l.flatMap AV.cells) news /\
   (l.length = 0 ∨ ∃ a, p = some a /\ ∀ j u, news[j]? = some u -> w.cell? (a.add j) = some u) := by
  intro p l sz h
  rcases h with rfl | ⟨b, o, hp, hr⟩
  ·exact ⟨by simp, [], by simp, by simp, by simp [Reps], .inl rfl⟩
  ·obtain ⟨cs, h1, h2, h3⟩ := hr.row
   refine ⟨hr.lens, cs, h1, fun u hu => ?_, h3, .inr ⟨_, hp, fun j u hu => by rw [cP]; exact (h2 j u hu).1⟩⟩
   obtain ⟨j, hj⟩ := List.mem_iff_getElem?.1 hu
   exact (h2 j u hj).2.2
 unfold elemsA at hl
 split at hl
 ·rename_i s l'
  split at hl
  ·rename_i hb
   cases hl
   have := Nat.eq_of_beq_eq_true hb
   subst this
   simp only [Rep] at hx
   obtain ⟨p, n, c, rfl, rfl, h2, _, h4⟩ := hx
   exact ⟨p, c, rfl, h2, key h4⟩
  ·cases hl
 ·rename_i k s l'
  split at hl
  ·rename_i hb
   cases hl
   have := Nat.eq_of_beq_eq_true hb
   subst this
   simp only [Rep] at hx
   obtain ⟨_, _, p, n, c, rfl, rfl, h2, _, h4⟩ := hx
   exact ⟨p, c, rfl, h2, key h4⟩
  ·cases hl
 ·rename_i k s m
  split at hl
  ·rename_i hb
   have := Nat.eq_of_beq_eq_true hb
   subst this
   split at hl
   ·rename_i T s' l' ho
    split at hl
    ·rename_i hm
     have hm := Nat.le_of_ble_eq_true hm
     cases hl
     simp only [Rep] at hx
     obtain ⟨hk, h1, rfl, h2, h3⟩ := hx
     have hml : (l'.take m).length = m := by simp; omega
     rw [hml]
     obtain ⟨cs, g1, g9, g5, g6, g7, g8, g2, _⟩ := hW.o k _ ho
     have hs : s' = s := by rw [<- g5, h1]
     subst hs
     have hlen : ∀ x ∈ l'.take m, x.cells.length = s' := fun x hx => g8 x (List.mem_of_mem_take hx)
     have hms : m * s' <= cs.size := by rw [g7]; exact Nat.mul_le_mul_right _ h2
     refine ⟨_, _, rfl, h2, hlen, cs.toList.take (m * s'), by simp; omega, fun u hu => g9 u (List.mem_of_mem_take hu), ?_, .inr ⟨_, rfl, fun j u hu => ?_⟩⟩
     ·have := g2.take (m * s')
      rw [List.take_take, Nat.min_eq_left (Nat.mul_le_mul_right _ hm)] at this
      have e : (l'.take m).flatMap AV.cells = (l'.flatMap AV.cells).take (m * s') := by
       have e1 : l'.flatMap AV.cells = (l'.take m).flatMap AV.cells ++ (l'.drop m).flatMap AV.cells := by rw [<- List.flatMap_append, List.take_append_drop]
       have e2 : m * s' = ((l'.take m).flatMap AV.cells).length := by rw [cI hlen, hml]
       rw [e1, e2, List.take_left]
      rw [e]; exact this
     ·rw [cP, cell_of_row w _ _ cs T (0, 0) g1]
      rw [List.getElem?_take] at hu
      split at hu
      ·simpa using hu
      ·cases hu
    ·cases hl
   ·cases hl
  ·cases hl
 ·rename_i k s a m
  split at hl
  ·rename_i hb
   have := Nat.eq_of_beq_eq_true hb
   subst this
   split at hl
   ·rename_i T s' l' ho
    split at hl
    ·rename_i hm
     have hm := Nat.le_of_ble_eq_true hm
     cases hl
     simp only [Rep] at hx
     obtain ⟨hk, h1, rfl, h2, h3⟩ := hx
     have hml : ((l'.drop a).take m).length = m := by simp; omega
     rw [hml]
     obtain ⟨cs, g1, g9, g5, g6, g7, g8, g2, _⟩ := hW.o k _ ho
     have hs : s' = s := by rw [<- g5, h1]
     subst hs
     have hlen : ∀ x ∈ (l'.drop a).take m, x.cells.length = s' := fun x hx => g8 x (List.mem_of_mem_drop (List.mem_of_mem_take hx))
     have hms : (a + m) * s' <= cs.size := by rw [g7]; exact Nat.mul_le_mul_right _ h2
     have hml' : (a + m) * s' <= l'.length * s' := Nat.mul_le_mul_right _ hm
     rw [Nat.add_mul] at hms hml'
     refine ⟨_, _, rfl, by omega, hlen, (cs.toList.drop (a * s')).take (m * s'), by simp; omega, fun u hu => g9 u (List.mem_of_mem_drop (List.mem_of_mem_take hu)), ?_, .inr ⟨_, rfl, fun j u hu => ?_⟩⟩
     ·have := (g2.drop (a * s')).take (m * s')
      rw [List.drop_take, List.take_take, Nat.min_eq_left (by omega)] at this
      rw [lC (fun x hx => g8 x (List.mem_of_mem_drop hx)), kU g8]
      exact this
     ·rw [cP, cell_of_row w _ _ cs T (0, 0) g1]
      rw [List.getElem?_take] at hu
      split at hu
      ·rw [List.getElem?_drop] at hu
       simpa using hu
      ·cases hu
    ·cases hl
   ·cases hl
  ·cases hl
 ·cases hl
  simp only [Rep] at hx
  subst hx
  exact ⟨none, 0, rfl, Nat.le_refl _, by simp, [], by simp, by simp, by simp [Reps], .inl rfl⟩
 ·cases hl
theorem gC (hW : Wf GL E A G h w) {e : TypeId} {size bytes : Nat} (hbp : 0 < bytes) {s : Sem Value}
  {v : Value} {l : List AV} {xs : List Value} (_hown : w.ownsRow 0 e size v l.length xs) (hxo : ∀ u ∈ xs, u.oneCell' = true) (hxl : ∀ x ∈ l, x.cells.length = size) (hxr : Reps E A G w (l.flatMap AV.cells) xs)
  (hA : ∀ b, v.ownBlock = some b -> (∀ i, l.length * size <= i -> ¬ A b i) /\ ¬ G.i b /\ ¬ G.h b)
  {h0 : List AObj} (hl0 : h0.length = h.length) (h0s : ∀ j y, h0[j]? = some y -> (h[j]? = some y /\ ∀ b, obk E j y = some b -> v.ownBlock ≠ some b) ∨ y = .dead)
  {m : List AV} {news : List Value} (hml : ∀ x ∈ m, x.cells.length = size) (n2 : ∀ u ∈ news, u.oneCell' = true) (n3 : Reps E A G w (m.flatMap AV.cells) news) (hbytes : (l.length + m.length) * bytes <= 2 ^ 47)
  (hspec : ∃ v' w', s.run P w = .ok v' w' /\ w'.ownsRow 0 e size v' (l.length + m.length) (xs ++ news) /\ w.grownBy w' v.ownBlock /\
   (∀ g o, v.ownBlock = some g -> o < l.length * size -> w'.cell? ⟨g, o, none⟩ = w.cell? ⟨g, o, none⟩) /\ (∀ g, v'.ownBlock = some g -> v.ownBlock = some g ∨ w.heap.size <= g)) :
  ∃ v' w' E' A', s.run P w = .ok v' w' /\ E.le E' /\ Ext A G w A' G w' /\ Wf GL E' A' G (h0 ++ [.spare e size]) w' /\ Rep E' A' G w' (.own h.length size (l ++ m)) v' := by
 obtain ⟨v', w', hr, a1, a2, a3, a4⟩ := hspec
 have hnm : l.length + m.length <= 2 ^ 47 := Nat.le_trans (Nat.le_mul_of_pos_right _ hbp) hbytes
 let A' : Nat -> Nat -> Prop := fun b o => A b o ∨ (v'.ownBlock = some b /\ o < (l.length + m.length) * size)
 have hcell : ∀ b o, v'.ownBlock = some b -> o < (l.length + m.length) * size -> ∃ u, w'.cell? ⟨b, o, none⟩ = some u /\ (xs ++ news)[o]? = some u := fun b o hb ho => by
  have hlt : o < (xs ++ news).length := by rw [a1.1]; exact ho
  have := a1.cells hb o _ (List.getElem?_eq_getElem hlt)
  rw [cP, Nat.zero_add] at this
  exact ⟨_, this, List.getElem?_eq_getElem hlt⟩
 have hnh : ∀ b, v'.ownBlock = some b -> ¬ G.h b := fun b hb hh => by
  rcases a4 b hb with h1 | h1
  ·exact (hA b h1).2.2 hh
  ·have := hW.hf b hh; omega
 have hX : Ext A G w A' G w' := aV hW a2 (fun _ _ => .inl) (fun b hb => ⟨(hA b hb).2.1, (hA b hb).2.2, fun o ho => a3 b o hb (by
  by_cases hlt : o < l.length * size
  ·exact hlt
  ·exact absurd ho ((hA b hb).1 o (by omega)))⟩) (fun b o ho => ho.imp id fun h => hnh b h.1)
 have hall : ∀ x ∈ l ++ m, x.cells.length = size := fun x hx => by
  rcases List.mem_append.1 hx with hx | hx
  ·exact hxl x hx
  ·exact hml x hx
 have hone : ∀ u ∈ xs ++ news, u.oneCell' = true := fun u hu => by
  rcases List.mem_append.1 hu with hu | hu
  ·exact hxo u hu
  ·exact n2 u hu
 have hbig : ∀ b, v'.ownBlock = some b -> v.ownBlock ≠ some b -> w.heap.size <= b := fun b hb hne => (a4 b hb).resolve_left hne
 refine ⟨v', w', E.push 0 0 v' 0, A', hr, E.le_push _ _ _ _, hX, hW.step (E.le_push _ _ _ _) hX (by simp [hl0, hW.n]) ?_ ?_ (fun k => k = h0.length ∨ h0[k]? = some .dead) ?_ ?_ ?_ ?_, ?_⟩
 ·rintro b o (ha | ⟨hb, ho⟩)
  ·obtain ⟨u, hu⟩ := hW.a b o ha
   exact ⟨u, (hX.cell b o ha).trans hu⟩
  ·obtain ⟨u, hu, _⟩ := hcell b o hb ho
   exact ⟨u, hu⟩
 ·intro b hb; exact Nat.lt_of_lt_of_le (hW.g b hb) a2.size
 ·intro k y hy hk
  have hlt : k < h0.length := by
   have := (List.getElem?_eq_some_iff.1 hy).1
   simp at this
   exact Nat.lt_of_le_of_ne (by omega) (fun e => hk (.inl e))
  rw [List.getElem?_append_left hlt] at hy
  rcases h0s k y hy with ⟨h1, h2⟩ | rfl
  ·refine ⟨h1, fun b hb => ?_⟩
   have hne := h2 b hb
   have hlt := cJ (hW.o k y h1) hb
   refine ⟨a2.block b hlt (fun e => hne e.symm), fun o ho => ?_, id⟩
   rcases ho with ho | ⟨hb', _⟩
   ·exact ho
   ·have := hbig b hb' hne; omega
  ·exact absurd (.inr hy) hk
 ·intro k y hy hk
  by_cases hkl : k = h0.length
  ·subst hkl
   simp at hy
   subst hy
   rw [hl0, <- hW.n]
   refine ⟨l.length + m.length, xs ++ news, by rw [Env.push_tok]; exact a1, hone, fun b hb => ?_⟩
   rw [Env.push_tok] at hb
   have hgn : ¬ G.i b := fun hg => by
    by_cases hvb : v.ownBlock = some b
    ·exact (hA b hvb).2.1 hg
    ·have := hbig b hb hvb
     have := hW.g b hg; omega
   refine ⟨fun j hj ha => ?_, hgn⟩
   rcases ha with ha | ⟨_, ho⟩
   ·by_cases hvb : v.ownBlock = some b
    ·exact (hA b hvb).1 j (Nat.le_trans (Nat.mul_le_mul_right _ (by omega)) hj) ha
    ·have := hbig b hb hvb
     have := hW.a_lt ha; omega
   ·omega
  ·have hdead := hk.resolve_left hkl
   have hlt := (List.getElem?_eq_some_iff.1 hdead).1
   rw [List.getElem?_append_left hlt, hdead] at hy
   cases hy
   trivial
 ·intro j k y y' b hy hy' hj hb hb'
  by_cases hjl : j = h0.length
  ·subst hjl
   simp at hy
   subst hy
   have hbv : v'.ownBlock = some b := by
    rw [hl0, <- hW.n] at hb
    simpa [obk] using hb
   by_cases hkl : k = h0.length
   ·exact hkl.symm
   ·have hlt : k < h0.length := by
     have := (List.getElem?_eq_some_iff.1 hy').1
     simp at this; omega
    rw [List.getElem?_append_left hlt] at hy'
    rcases h0s k y' hy' with ⟨h1, h2⟩ | rfl
    ·rw [(E.le_push _ _ _ _).obk (by rw [hW.n]; omega)] at hb'
     have := hbig b hbv (h2 b hb')
     have := cJ (hW.o k y' h1) hb'
     omega
    ·simp [obk] at hb'
  ·have hdead := hj.resolve_left hjl
   have hlt := (List.getElem?_eq_some_iff.1 hdead).1
   rw [List.getElem?_append_left hlt, hdead] at hy
   cases hy
   simp [obk] at hb
 ·intro k y b hy hk hb
  by_cases hkl : k = h0.length
  ·subst hkl
   simp at hy
   subst hy
   refine hnh b ?_
   rw [hl0, <- hW.n] at hb
   simpa [obk] using hb
  ·have hdead := hk.resolve_left hkl
   have hlt := (List.getElem?_eq_some_iff.1 hdead).1
   rw [List.getElem?_append_left hlt, hdead] at hy
   cases hy
   simp [obk] at hb
 ·simp only [Rep]
  have hrr := (hxr.append n3).mono (E.le_push 0 0 v' 0) hX
  rw [<- List.flatMap_append] at hrr
  have hv' : ∃ p c, v' = .slice p (l.length + m.length) c /\ l.length + m.length <= c /\ ((l.length + m.length = 0) ∨ ∃ g, p = some ⟨g, 0, none⟩) := by
   rcases a1.2 with ⟨rfl, h0⟩ | ⟨g, cap, cur, rfl, _, _, hle, _⟩
   ·exact ⟨none, 0, by rw [h0], by omega, .inl h0⟩
   ·exact ⟨_, _, rfl, hle, .inr ⟨g, rfl⟩⟩
  obtain ⟨p, c', hv, hle, hp⟩ := hv'
  refine ⟨by simp [hW.n], by rw [<- hW.n, Env.push_tok], p, _, c', hv, by simp, by simpa using hle, by simp; omega, ?_⟩
  rcases hp with h0 | ⟨g, hp⟩
  ·left
   apply List.eq_nil_of_length_eq_zero
   simpa using h0
  ·refine .inr ⟨g, 0, hp, fC hall hrr fun j u hu hj => ?_⟩
   rw [List.length_append] at hj
   have hg : v'.ownBlock = some g := by rw [hv, hp]; rfl
   obtain ⟨u', h1, h2⟩ := hcell g j hg hj
   rw [hu] at h2
   cases h2
   exact ⟨h1, .inr ⟨hg, hj⟩, hone u (List.mem_of_getElem? hu)⟩
theorem lR (hW : Wf GL E A G h w) {t ty e : TypeId} {size bytes : Nat} {z : AV} (ht : P.underlying t = some (.slice e)) (hsz : tySize P e = some size) (hby : tyBytes P e = some bytes) (hz : tyZero P e = some z) (hpos : 0 < size) (hbp : 0 < bytes)
  {v : Value} {l : List AV} {xs : List Value} (hown : w.ownsRow 0 e size v l.length xs) (hxo : ∀ u ∈ xs, u.oneCell' = true) (hxl : ∀ x ∈ l, x.cells.length = size) (hxr : Reps E A G w (l.flatMap AV.cells) xs)
  (hA : ∀ b, v.ownBlock = some b -> (∀ i, l.length * size <= i -> ¬ A b i) /\ ¬ G.i b /\ ¬ G.h b)
  {h0 : List AObj} (hl0 : h0.length = h.length) (h0s : ∀ j y, h0[j]? = some y -> (h[j]? = some y /\ ∀ b, obk E j y = some b -> v.ownBlock ≠ some b) ∨ y = .dead)
  {x : AV} {xv : Value} (hx : Rep E A G w x xv) {m : List AV} (hm : elemsA h size x = some m) (hbytes : (l.length + m.length) * bytes <= 2 ^ 47) :
  ∃ v' w' E' A', (Builtin.append_ #[t, t] ty #[v, xv]).run P w = .ok v' w' /\ E.le E' /\ Ext A G w A' G w' /\ Wf GL E' A' G (h0 ++ [.spare e size]) w' /\ Rep E' A' G w' (.own h.length size (l ++ m)) v' := by
 obtain ⟨i, zv, i1, i2, i3, i4, i5⟩ := bL hz
 obtain ⟨i', hi', hsi⟩ := bX hsz
 rw [i1] at hi'; cases hi'
 obtain ⟨i', hi', hbi⟩ := dA hby
 rw [i1] at hi'; cases hi'
 obtain ⟨p, c, rfl, _, hml, news, n1, n2, n3, n4⟩ := iH hW hx hm
 obtain ⟨v', w', hr, a1, a2, a3, a4, a5⟩ := mD (P := P) t ty e i zv size bytes ht i1 i2 hsi hbi (by rw [i3, hsi]) hpos hbp v l.length xs hown p m.length c news n1 n4 n2 hbytes
 exact gC hW hbp hown hxo hxl hxr hA hl0 h0s hml n2 n3 hbytes ⟨v', w', hr, a1, a2, a3, a4⟩
theorem rK (hW : Wf GL E A G h w) {v0 : Value} {k sz' : Nat} {T : TypeId} {l : List AV} (ha : Rep E A G w (.own k sz' l) v0) (hk : h[k]? = some (.spare T sz')) : ∃ xs, w.ownsRow 0 T sz' v0 l.length xs /\ (∀ u ∈ xs, u.oneCell' = true) /\ (∀ x ∈ l, x.cells.length = sz') /\ Reps E A G w (l.flatMap AV.cells) xs /\
  (∀ b, v0.ownBlock = some b -> (∀ i, l.length * sz' <= i -> ¬ A b i) /\ ¬ G.i b /\ ¬ G.h b) /\ ∀ j y, (h.set k .dead)[j]? = some y -> (h[j]? = some y /\ ∀ b, obk E j y = some b -> v0.ownBlock ≠ some b) ∨ y = .dead := by
 simp only [Rep] at ha
 obtain ⟨hkn, htok, p, n, c, hv, hn, hle, _, hr⟩ := ha
 obtain ⟨n', xs, o1, o2, o3⟩ := hW.o k _ hk
 rw [<- htok] at o1 o3
 have hnn : n' = l.length := by
  rcases o1.2 with ⟨e1, e2⟩ | ⟨g, cap, cur, e1, _⟩
  ·rw [e1] at hv; cases hv; omega
  ·rw [e1] at hv; cases hv; exact hn
 subst hnn
 have hxl : ∀ x ∈ l, x.cells.length = sz' := by
  rcases hr with rfl | ⟨_, _, _, hr⟩
  ·simp
  ·exact hr.lens
 have hxr : Reps E A G w (l.flatMap AV.cells) xs := by
  rcases hr with rfl | ⟨b', o, hp, hr⟩
  ·have : xs = [] := List.eq_nil_of_length_eq_zero (by simpa using o1.1)
   subst this; simp [Reps]
  ·obtain ⟨cs, c1, c2, c3⟩ := hr.row
   have : xs = cs := by
    apply List.ext_getElem?
    intro j
    by_cases hj : j < l.length * sz'
    ·have e1 := List.getElem?_eq_getElem (l := xs) (i := j) (by rw [o1.1]; exact hj)
     have e2 := List.getElem?_eq_getElem (l := cs) (i := j) (by rw [c1]; exact hj)
     have hob : v0.ownBlock = some b' := by rw [hv, hp]; rfl
     have q1 := o1.cells hob j _ e1
     have q2 := (c2 j _ e2).1
     have ho : o = 0 := by
      rcases o1.2 with ⟨e1, e2⟩ | ⟨g, cap, cur, e1, _⟩
      ·rw [e1] at hv; cases hv; cases hp
      ·rw [e1] at hv; cases hv; cases hp; rfl
     subst ho
     rw [cP] at q1
     rw [q1] at q2
     rw [e1, e2]; exact q2
    ·rw [List.getElem?_eq_none (by rw [o1.1]; omega), List.getElem?_eq_none (by rw [c1]; omega)]
   rw [this]; exact c3
 have hlt := (List.getElem?_eq_some_iff.1 hk).1
 refine ⟨xs, o1, o2, hxl, hxr, fun b hb' => ⟨(o3 b hb').1, (o3 b hb').2, hW.ho k _ b hk (by simp only [obk]; rw [<- htok]; exact hb')⟩, fun j y hy => ?_⟩
 by_cases hj : j = k
 ·subst hj
  simp [hlt] at hy
  exact .inr hy.symm
 ·rw [List.getElem?_set_ne (Ne.symm hj)] at hy
  refine .inl ⟨hy, fun b hb hvb => hj (hW.d j k y _ b hy hk hb ?_)⟩
  simp only [obk]; rw [<- htok]; exact hvb
theorem pZ (hW : Wf GL E A G h w) (hρ : Opds GL E A G w τ ρ) {t ty e : TypeId} {size bytes : Nat} {z : AV} (ht : P.underlying t = some (.slice e)) (hsz : tySize P e = some size) (hby : tyBytes P e = some bytes) (hz : tyZero P e = some z)
  (hpos : 0 < size) (hbp : 0 < bytes) {a b : Operand} (hs : stepA GL (.append e size bytes (compOpd a) (compOpd b)) τ h K) : OpOk P GL E A G w (do pure (.value (<- Builtin.append_ #[t, t] ty #[ρ a, ρ b]))) K := by
 have ha := hρ a
 have hb := hρ b
 simp only [stepA] at hs
 split at hs
 ·rename_i m hm
  split at hs
  ·rename_i k sz' l hal
   rw [hal] at ha
   split at hs
   ·rename_i T' sz'' hk hbq
    obtain ⟨⟨rfl, rfl, hbytes⟩, hs⟩ := hs
    have := Nat.eq_of_beq_eq_true hbq
    subst this
    obtain ⟨xs, o1, o2, hxl, hxr, o3, o4⟩ := rK hW ha hk
    obtain ⟨v', w', E', A', r1, r2, r3, r4, r5⟩ := lR (P := P) (ty := ty) hW ht hsz hby hz hpos hbp o1 o2 hxl hxr o3 (h0 := h.set k .dead) (by simp) o4 hb hm hbytes
    exact ⟨_, _, _, E', A', G, _, _, by rw [Sem.run_bind, r1]; rfl, .inl rfl, r2, r3, r4, r5, hs⟩
   ·exact hs.elim
  ·rename_i hal
   obtain ⟨hbytes, hs⟩ := hs
   rw [hal] at ha
   simp only [Rep] at ha
   obtain ⟨v', w', E', A', r1, r2, r3, r4, r5⟩ := lR (P := P) (ty := ty) hW (l := []) ht hsz hby hz hpos hbp (World.ownsRow_nil w 0 e size) (by simp) (by simp) (by simp [Reps]) (fun b hb => by simp [Value.ownBlock] at hb)
    (h0 := h) rfl (fun j y hy => .inl ⟨hy, fun b _ hb => by simp [Value.ownBlock] at hb⟩) hb hm (by simpa using hbytes)
   rw [ha]
   exact ⟨_, _, _, E', A', G, _, _, by rw [Sem.run_bind, r1]; rfl, .inl rfl, r2, r3, r4, by simpa using r5, hs⟩
  ·exact hs.elim
 ·exact hs.elim
end
section
variable {P : Program} {GL : Glob} {E : Env} {A : Nat -> Nat -> Prop} {G : Gd} {h : List AObj} {w : World} {τ : List (Nat × AV)} {ρ : Operand -> Value} {K : AV -> List AObj -> Prop}
def fkDesc : FK -> TypeDesc
 | .int k => .int k
 | .bool => .bool
 | .str => .string
theorem oL {q : FK} {x y : AV} {u v : Value} {r : Bool} (hx : Rep E A G w x u) (hy : Rep E A G w y v) (he : eqAV q x y = some r) :
  Instr.sameNow (fkDesc q) u v = some r /\ (r = true -> u = v) /\ ∀ n, Instr.sameBits n u u = true := by
 unfold eqAV at he
 split at he
 ·have hx := cY hx
  have hy := cY hy
  subst hx; subst hy
  split at he
  ·rename_i hkk
   cases he
   obtain ⟨rfl, rfl⟩ := hkk
   exact ⟨by simp [fkDesc, Instr.sameNow], by simp, fun n => by simp [Instr.sameBits]⟩
  ·cases he
 ·cases he
  simp only [Rep] at hx hy
  subst hx; subst hy
  exact ⟨by simp [fkDesc, Instr.sameNow], by simp, fun n => by simp [Instr.sameBits]⟩
 ·cases he
  simp only [Rep] at hx hy
  subst hx; subst hy
  rename_i a b
  refine ⟨by simp [fkDesc, Instr.sameNow, kT], fun hb => ?_, fun n => by simp [Instr.sameBits, kT]⟩
  have := eq_of_beq hb
  subst this; rfl
 ·cases he
theorem mR : ∀ {qs : List FK} {la lb : List AV} {us vs : List Value} {r : Bool}, Reps E A G w la us -> Reps E A G w lb vs -> eqAVs qs la lb = some r -> (r = true -> us = vs) /\ (∀ n, ∀ u ∈ us, Instr.sameBits n u u = true) /\ la.length = qs.length
 | [], [], [], us, vs, r, ha, hb, _ => by
  simp only [Reps] at ha hb
  subst ha; subst hb
  exact ⟨fun _ => rfl, by simp, rfl⟩
 | q :: qs, a :: la, b :: lb, us, vs, r, ha, hb, he => by
  simp only [eqAVs] at he
  split at he
  ·rename_i p p' e1 e2
   cases he
   simp only [Reps] at ha hb
   obtain ⟨u, us, rfl, hua, hus⟩ := ha
   obtain ⟨v, vs, rfl, hva, hvs⟩ := hb
   obtain ⟨_, h1, h2⟩ := oL hua hva e1
   obtain ⟨h3, h4, h5⟩ := mR hus hvs e2
   refine ⟨fun hr => ?_, fun n x hx => ?_, by simp [h5]⟩
   ·simp only [Bool.and_eq_true] at hr
    rw [h1 hr.1, h3 hr.2]
   ·rcases List.mem_cons.1 hx with rfl | hx
    ·exact h2 n
    ·exact h4 n x hx
  ·cases he
 | [], [], _ :: _, _, _, _, _, _, he => by simp [eqAVs] at he
 | [], _ :: _, _, _, _, _, _, _, he => by simp [eqAVs] at he
 | _ :: _, [], _, _, _, _, _, _, he => by simp [eqAVs] at he
 | _ :: _, _ :: _, [], _, _, _, _, _, he => by simp [eqAVs] at he
theorem lP {t : TypeId} {q : FK} (h : keyKind P t = some (.one q)) : fkOf P t = some q := by
 unfold keyKind at h
 split at h
 ·cases h
 ·split at h
  ·rename_i hq; cases h; exact hq
  ·cases h
theorem oN {t : TypeId} {l : List FK} (h : keyKind P t = some (.st l)) : plainStruct P t = some l := by
 unfold keyKind at h
 split at h
 ·rename_i hl; cases h; exact hl
 ·split at h <;> cases h
theorem fk_desc {t : TypeId} {q : FK} (h : fkOf P t = some q) : P.underlying t = some (fkDesc q) := by
 rw [jQ h]; cases q <;> rfl
theorem sE {t : TypeId} {q : FK} (h : fkOf P t = some q) (b : Bool) (n : Nat) (v : Value) : (Instr.checkKey b (n + 1) t v).run P w = .ok () w := by
 have hu := jQ h
 simp only [Instr.checkKey, Sem.run_bind, run_underlying hu, Result.andThen_ok]
 cases q <;> simp
theorem fA {b : Bool} {n : Nat} {cs : Array Value} : ∀ (fs : List Field) (i : Nat) (qs : List FK), plainFields P i fs = some qs -> i + qs.length <= cs.size ->
  (forIn (m := Sem) fs PUnit.unit fun f _ => do
   if f.name ≠ "_" then Instr.checkKey b (n + 1) f.type (<- part f.type cs f.offset)
   pure (ForInStep.yield PUnit.unit)).run P w = .ok PUnit.unit w
 | [], i, qs, h, _ => by simp
 | f :: fs, i, qs, h, hl => by
  simp only [plainFields] at h
  split at h
  ·rename_i q qs' h1 h2 h3
   cases h
   simp only [Bool.and_eq_true] at h1
   have ho := Nat.eq_of_beq_eq_true h1.2
   simp only [List.length_cons] at hl
   have ih := fA (b := b) (n := n) (cs := cs) fs (i + 1) qs' h3 (by omega)
   have hp : (part f.type cs f.offset).run P w = .ok (cs[i]'(by omega)) w := by
    simp [part, dN (uJ h2), ho, Array.getElem?_eq_getElem (show i < cs.size by omega)]
   have hc := sE (w := w) h2 b n (cs[i]'(by omega))
   have hn : f.name ≠ "_" := by simpa using h1.1
   rw [List.forIn_cons, Sem.run_bind]
   rw [if_pos hn]
   simp only [Sem.run_bind, hp, hc, Result.andThen_ok, Sem.run_pure]
   exact ih
  ·cases h
theorem kR {t : TypeId} {q : KQ} {x : AV} {v : Value} (hq : keyKind P t = some q) (hx : Rep E A G w x v) {r : Bool} (he : eqKQ q x x = some r) (b : Bool) (n : Nat) : (Instr.checkKey b (n + 2) t v).run P w = .ok () w := by
 cases q with
 | one q => exact sE (lP hq) b (n + 1) v
 | st l =>
  have hp := oN hq
  cases x <;> simp only [eqKQ, reduceCtorEq] at he
  case agg la =>
  simp only [Rep] at hx
  obtain ⟨cs, rfl, ho, hr⟩ := hx
  have hlen := (mR hr hr he).2.2
  have := hr.length
  simp only [Array.length_toList] at this
  unfold plainStruct at hp
  split at hp
  ·rename_i fs hu
   split at hp
   ·have := fA (b := b) (n := n) (cs := cs) (w := w) fs.toList 0 l hp (by omega)
    rw [Instr.checkKey, Sem.run_bind, run_underlying hu, Result.andThen_ok]
    simp only [Array.forIn_toList] at this
    simp only [Sem.run_bind]
    rw [this]
    rfl
   ·cases hp
  ·cases hp
theorem lL {q : FK} {x : AV} {kv : Value} (hx : Rep E A G w x kv) : ∀ (ks : List AV) (es : List MapEntry) (n : Nat) (r : Option Nat), Reps E A G w ks (es.map (·.key)) -> findA (.one q) x ks = some r ->
  Instr.findNow (fkDesc q) kv es n = some (r.bind fun j => (es[j]?).map fun e => (n + j, e.val))
 | [], es, n, r, hr, hf => by
  simp only [Reps] at hr
  have : es = [] := by simpa using hr
  subst this
  simp only [findA, Option.map_eq_some_iff] at hf
  obtain ⟨_, _, rfl⟩ := hf
  rfl
 | k :: ks, [], n, r, hr, hf => by simp [Reps] at hr
 | k :: ks, e :: es, n, r, hr, hf => by
  simp only [List.map_cons, Reps] at hr
  obtain ⟨u, us, hu, hku, hks⟩ := hr
  cases hu
  simp only [findA] at hf
  split at hf
  ·rename_i b r' h1 h2
   cases hf
   obtain ⟨h3, _, _⟩ := oL hx hku h1
   cases b with
   | true => simp [Instr.findNow, h3]
   | false =>
    have ih := lL hx ks es (n + 1) r' hks h2
    simp only [Instr.findNow, h3, ih, cond_false]
    cases r' <;> simp [Nat.add_assoc, Nat.add_comm 1]
  ·cases hf
theorem gN {t : TypeId} {l : List FK} (hp : plainStruct P t = some l) {x : AV} {kv : Value} (hx : Rep E A G w x kv) : ∀ (ks : List AV) (es : List MapEntry) (n : Nat) (r : Option Nat), Reps E A G w ks (es.map (·.key)) -> findA (.st l) x ks = some r ->
  (Instr.findAsking t kv es n).run P w = .ok (r.bind fun j => (es[j]?).map fun e => (n + j, e.val)) w
 | [], es, n, r, hr, hf => by
  simp only [Reps] at hr
  have : es = [] := by simpa using hr
  subst this
  simp only [findA, Option.map_eq_some_iff] at hf
  obtain ⟨_, _, rfl⟩ := hf
  simp [Instr.findAsking]
 | k :: ks, [], n, r, hr, hf => by simp [Reps] at hr
 | k :: ks, e :: es, n, r, hr, hf => by
  simp only [List.map_cons, Reps] at hr
  obtain ⟨u, us, hu, hku, hks⟩ := hr
  cases hu
  simp only [findA] at hf
  split at hf
  ·rename_i b r' h1 h2
   cases hf
   have heq : (Op.equal t kv e.key).run P w = .ok b w := by
    cases x <;> simp only [eqKQ, reduceCtorEq] at h1
    case agg la =>
    cases k <;> simp only [reduceCtorEq] at h1
    case agg lb =>
    simp only [Rep] at hx hku
    obtain ⟨cs, rfl, _, hra⟩ := hx
    obtain ⟨ds, hd, _, hrb⟩ := hku
    rw [hd]
    exact (gE (d := 9998) hp hra hrb h1).1
   simp only [Instr.findAsking, Sem.run_bind, heq, Result.andThen_ok]
   cases b with
   | true => simp
   | false =>
    have ih := gN hp hx ks es (n + 1) r' hks h2
    simp only [cond_false, Bool.false_eq_true, if_false, ih]
    cases r' <;> simp [Nat.add_assoc, Nat.add_comm 1]
  ·cases hf
theorem gM {t : TypeId} {q : KQ} (hq : keyKind P t = some q) {x : AV} {kv : Value} (hx : Rep E A G w x kv) {ks : List AV} {es : List MapEntry} {r : Option Nat} (hr : Reps E A G w ks (es.map (·.key))) (hf : findA q x ks = some r) :
  (Instr.findKey t kv es).run P w = .ok (r.bind fun j => (es[j]?).map fun e => (j, e.val)) w := by
 cases q with
 | one q =>
  have := lL hx ks es 0 r hr hf
  simp only [Instr.findKey, Sem.run_bind, run_underlying (fk_desc (lP hq)), Result.andThen_ok, this, Nat.zero_add, Sem.run_pure]
 | st l =>
  have hp := oN hq
  have hrun := gN hp hx ks es 0 r hr hf
  obtain ⟨fs, hu⟩ : ∃ fs, P.underlying t = some (.struct fs) := by
   unfold plainStruct at hp
   split at hp
   ·exact ⟨_, by assumption⟩
   ·cases hp
  cases es with
  | nil =>
   have hk : ks = [] := by
    have := hr.length
    exact List.eq_nil_of_length_eq_zero (by simpa using this.symm)
   subst hk
   simp only [findA, Option.map_eq_some_iff] at hf
   obtain ⟨_, _, rfl⟩ := hf
   simp [Instr.findKey, run_underlying hu, Instr.findNow]
  | cons e es =>
   simp only [Nat.zero_add] at hrun
   simp only [Instr.findKey, Sem.run_bind, run_underlying hu, Result.andThen_ok, Instr.findNow, Instr.sameNow]
   exact hrun
theorem gH {q : KQ} {x : AV} : ∀ {ks : List AV} {r : Option Nat}, findA q x ks = some r -> ∃ b, eqKQ q x x = some b
 | [], r, h => by
  simp only [findA, Option.map_eq_some_iff] at h
  obtain ⟨b, hb, _⟩ := h
  exact ⟨b, hb⟩
 | k :: ks, r, h => by
  simp only [findA] at h
  split at h
  ·rename_i _ r' _ h2
   exact gH h2
  ·cases h
theorem oF {q : KQ} {x : AV} : ∀ {ks : List AV} {j : Nat}, findA q x ks = some (some j) -> ∃ k, ks[j]? = some k /\ eqKQ q x k = some true
 | [], j, h => by simp [findA] at h
 | k :: ks, j, h => by
  simp only [findA] at h
  split at h
  ·rename_i b r' h1 h2
   cases b with
   | true =>
    simp only [cond_true, Option.some.injEq] at h
    subst h
    exact ⟨k, rfl, h1⟩
   | false =>
    simp only [cond_false, Option.some.injEq, Option.map_eq_some_iff] at h
    obtain ⟨i, rfl, rfl⟩ := h
    obtain ⟨k', h3, h4⟩ := oF h2
    exact ⟨k', by simpa using h3, h4⟩
  ·cases h
theorem key_same {q : KQ} {x y : AV} {u v : Value} (hx : Rep E A G w x u) (hy : Rep E A G w y v) (he : eqKQ q x y = some true) : u = v /\ Instr.sameBits 10000 u u = true := by
 cases q with
 | one q =>
  obtain ⟨_, h1, h2⟩ := oL hx hy he
  exact ⟨h1 rfl, h2 _⟩
 | st l =>
  cases x <;> simp only [eqKQ, reduceCtorEq] at he
  case agg la =>
  cases y <;> simp only [reduceCtorEq] at he
  case agg lb =>
  simp only [Rep] at hx hy
  obtain ⟨cs, rfl, _, hra⟩ := hx
  obtain ⟨ds, rfl, _, hrb⟩ := hy
  obtain ⟨h1, h2, _⟩ := mR hra hrb he
  refine ⟨?_, ?_⟩
  ·have := h1 rfl
   rw [Array.toList_inj.1 this]
  ·simp only [Instr.sameBits, beq_self_eq_true, Bool.true_and, List.all_eq_true]
   intro p hp
   obtain ⟨i, hi⟩ := List.mem_iff_getElem?.1 hp
   rw [List.getElem?_zip_eq_some] at hi
   have : p.1 = p.2 := by
    have := hi.1.symm.trans hi.2
    simpa using this
   obtain ⟨a, b⟩ := p
   simp only at this
   subst this
   exact h2 _ _ (List.mem_of_getElem? hi.1)
theorem map_read (hW : Wf GL E A G h w) {x : AV} {v : Value} (hx : Rep E A G w x v) {ks vs : List AV} (hm : mapOf h x = some (ks, vs)) :
  ∃ es : Array MapEntry, (v = .map none /\ es = #[] ∨ ∃ b cl, v = .map (some b) /\ w.heap[b]? = some (.map es cl)) /\ Reps E A G w ks (es.toList.map (·.key)) /\ Reps E A G w vs (es.toList.map (·.val)) := by
 unfold mapOf at hm
 split at hm
 ·rename_i k
  split at hm
  ·rename_i ks' vs' ho
   cases hm
   simp only [Rep] at hx
   obtain ⟨hk, rfl⟩ := hx
   obtain ⟨es, cl, h1, h2, h3, _⟩ := hW.o k _ ho
   exact ⟨es, .inr ⟨_, cl, rfl, h1⟩, h2, h3⟩
  ·cases hm
 ·cases hm
  simp only [Rep] at hx
  obtain ⟨b, es, cl, rfl, _, h1, h2, h3⟩ := hx
  exact ⟨es, .inr ⟨_, cl, rfl, h1⟩, h2, h3⟩
 ·cases hm
  simp only [Rep] at hx
  exact ⟨#[], .inl ⟨hx, rfl⟩, by simp [Reps], by simp [Reps]⟩
 ·cases hm
theorem ok_lookup (hW : Wf GL E A G h w) (hρ : Opds GL E A G w τ ρ) {t kt e : TypeId} {q : KQ} {z : AV} {x i : Operand} {ok : Bool} (hu : P.underlying t = some (.map kt e)) (hq : keyKind P kt = some q) (hz : tyZero P e = some z)
  (hs : stepA GL (.lookup q z (compOpd x) (compOpd i) ok) τ h K) : OpOk P GL E A G w (do pure (.value (<- Instr.lookup t (ρ x) (ρ i) ok))) K := by
 simp only [stepA] at hs
 obtain ⟨ie, zv, z1, z2, _, _, z5⟩ := bL hz
 split at hs
 ·rename_i ks vs hm
  obtain ⟨es, hv, hks, hvs⟩ := map_read hW (hρ x) hm
  have main : ∀ r, findA q (aeval GL τ (compOpd i)) ks = some r -> ∀ {y : AV} {yv : Value}, Rep E A G w y yv -> (∀ ov, (r.bind fun j => (es.toList[j]?).map fun e => (j, e.val)) = ov -> (match (motive := Option (Nat × Value) -> Value × Bool) ov with | some (_, v) => (v, true) | none => (zv, false)) = (yv, r.isSome)) ->
    K (if ok then .tup [y, .v (.bool r.isSome)] else y) h -> OpOk P GL E A G w (do pure (.value (<- Instr.lookup t (ρ x) (ρ i) ok))) K := by
   intro r hr y yv hy hyv hk
   obtain ⟨b, hb⟩ := gH hr
   have hkc := kR (n := 9998) hq (hρ i) hb es.isEmpty
   have hfk := gM hq (hρ i) hks hr
   have hyv' := hyv _ rfl
   have hl : (Instr.lookup t (ρ x) (ρ i) ok).run P w = .ok (if ok then .tuple #[yv, .bool r.isSome] else yv) w := by
    have fin : ∀ es' : Array MapEntry, es' = es -> (do
      Instr.checkKey es'.isEmpty 10000 kt (ρ i)
      let (v, ok') <- match <- Instr.findKey kt (ρ i) es'.toList with
       | some (_, v) => pure (v, true)
       | none => pure (<- zeroValue e, false)
      pure (if ok then .tuple #[v, .bool ok'] else v) : Sem Value).run P w = .ok (if ok then .tuple #[yv, .bool r.isSome] else yv) w := by
     rintro es' rfl
     simp only [Sem.run_bind, hkc, hfk, Result.andThen_ok]
     generalize (r.bind fun j => (es'.toList[j]?).map fun e => (j, e.val)) = ov at hyv'
     cases ov with
     | none =>
      simp only [Prod.mk.injEq] at hyv'
      simp [zeroValue, typeInfo, z1, z2, hyv'.1, <- hyv'.2]
     | some p =>
      simp only [Prod.mk.injEq] at hyv'
      simp [hyv'.1, <- hyv'.2]
    simp only [Instr.lookup, Sem.run_bind, run_underlying hu, Result.andThen_ok]
    rcases hv with ⟨hv, he⟩ | ⟨b, cl, hv, hb⟩
    ·simp only [hv]
     have := fin #[] he.symm
     rw [Sem.run_bind, Sem.run_pure, Result.andThen_ok]
     exact this
    ·simp only [hv, Sem.run_bind, MapKept.run_getObj_map hb, Result.andThen_ok, Sem.run_pure]
     have := fin es rfl
     simp only [Sem.run_bind] at this
     exact this
   refine OpOk.quiet hW hl ?_ hk
   cases ok
   ·exact hy
   ·simp only [if_true, Rep]
    exact ⟨_, rfl, by simp only [Reps]; exact ⟨_, _, rfl, hy, _, _, rfl, by simp [Rep], rfl⟩⟩
  split at hs
  ·rename_i j hf
   obtain ⟨k, hk, _⟩ := oF hf
   have hl := hks.length
   have hl' := hvs.length
   simp only [List.length_map] at hl hl'
   have hj : j < ks.length := (List.getElem?_eq_some_iff.1 hk).1
   have hvj : vs[j]? = some (vs.getD j .any) := by simp [List.getD, List.getElem?_eq_getElem (show j < vs.length by omega)]
   obtain ⟨u, hu1, hu2⟩ := hvs.get hvj
   rw [List.getElem?_map] at hu1
   refine main _ hf hu2 (fun ov hov => ?_) (by cases ok <;> simpa using hs)
   simp only [Option.bind_some] at hov
   rw [Option.map_eq_some_iff] at hu1
   obtain ⟨e', he', rfl⟩ := hu1
   rw [he'] at hov
   subst hov
   rfl
  ·rename_i hf
   exact main _ hf (z5 E A G w).1 (fun ov hov => by subst hov; rfl) (by cases ok <;> simpa using hs)
  ·exact hs.elim
 ·exact hs.elim
theorem qL (hW : Wf GL E A G h w) (hρ : Opds GL E A G w τ ρ) {t kt e : TypeId} {q : KQ} {m k x : Operand} (hu : P.underlying t = some (.map kt e)) (hq : keyKind P kt = some q)
  (hs : stepA GL (.mapUpdate q (compOpd m) (compOpd k) (compOpd x)) τ h K) : OpOk P GL E A G w (do Instr.mapUpdate t (ρ m) (ρ k) (ρ x); pure .skip) K := by
 have hm := hρ m
 have hk := hρ k
 have hx := hρ x
 simp only [stepA] at hs
 split at hs
 ·rename_i j hj
  rw [hj] at hm
  simp only [Rep] at hm
  obtain ⟨hjn, hm⟩ := hm
  split at hs
  ·rename_i ks vs ho
   obtain ⟨es, cl, hb, hks, hvs, ⟨hb1, hb2⟩, hG⟩ := hW.o j _ ho
   have hAb : ∀ i, ¬ A (E.blk j) i := fun i ha => by
    obtain ⟨v, hv⟩ := hW.a _ _ ha
    simp [World.cell?, hb] at hv
   have put : ∀ (es' : Array MapEntry) (cl' : Nat) (ks' vs' : List AV), (Instr.mapUpdate t (ρ m) (ρ k) (ρ x)).run P w = .ok () { w with heap := w.heap.setIfInBounds (E.blk j) (.map es' cl') } ->
     Reps E A G w ks' (es'.toList.map (·.key)) -> Reps E A G w vs' (es'.toList.map (·.val)) -> bornOk es' cl' -> K (.v undef) (h.set j (.map ks' vs')) -> OpOk P GL E A G w (do Instr.mapUpdate t (ρ m) (ρ k) (ρ x); pure .skip) K := by
    intro es' cl' ks' vs' hrun h1 h2 h3 hk'
    have hset := MapKept.heap_set (o' := .map es' cl') hb
    have hg : w.grownBy { w with heap := w.heap.setIfInBounds (E.blk j) (.map es' cl') } (some (E.blk j)) :=
     ⟨rfl, rfl, rfl, by simp, fun i _ hi => hset.2 i (fun e => hi (by rw [e]))⟩
    have hX := aV hW hg (fun _ _ h => h) (fun b e => by cases e; exact ⟨hG, hW.ho j _ _ ho rfl, fun o ho => absurd ho (hAb o)⟩) (fun _ _ => .inl)
    refine ⟨.skip, undef, _, E, A, G, .v undef, _, by rw [Sem.run_bind, hrun]; rfl, .inr ⟨rfl, rfl⟩, E.le_refl, hX, hW.put ho rfl rfl hg hAb hG hX ?_, by simp [Rep], hk'⟩
    exact ⟨es', cl', hset.1, h1.mono E.le_refl hX, h2.mono E.le_refl hX, h3, hG⟩
   have hkl := hks.length
   have hvl := hvs.length
   simp only [List.length_map, Array.length_toList] at hkl hvl
   split at hs
   ·rename_i i hf
    obtain ⟨ki, hki, heq⟩ := oF hf
    obtain ⟨b, hbk⟩ := gH hf
    have hi : i < es.size := by rw [hkl]; exact (List.getElem?_eq_some_iff.1 hki).1
    obtain ⟨u, hu1, hu2⟩ := hks.get hki
    have hue : u = es[i].key := by
     rw [List.getElem?_map] at hu1
     simpa [hi] using hu1.symm
    obtain ⟨hsame, hbits⟩ := key_same hk hu2 heq
    have hkey : (es[i]).key = ρ k := by rw [hsame, hue]
    have hfk := gM (w := w) hq hk hks hf
    have hei : es.toList[i]? = some es[i] := by simp [hi]
    simp only [Option.bind_some, hei, Option.map_some] at hfk
    have hkt : (Instr.keyThatStays (((es[i]?).map (·.key)).getD (ρ k)) (ρ k)).run P w = .ok (ρ k) w := by
     simp [Instr.keyThatStays, hi, hkey, hbits]
    refine put (es.modify i fun e => { e with key := ρ k, val := ρ x }) cl ks (vs.set i (aeval GL τ (compOpd x))) ?_ ?_ ?_ ?_ hs
    ·simp only [Instr.mapUpdate, Sem.run_bind, run_underlying hu, Result.andThen_ok, hm, MapKept.run_getObj_map hb, kR (n := 9998) hq hk hbk, hfk, hkt, MapKept.run_setObj_map _ hb]
    ·rw [MapKept.modify_keys i _ (fun e he => by rw [Array.getElem?_eq_getElem hi] at he; cases he; exact hkey.symm)]
     exact hks
    ·refine Reps.of_get (by simp [hvl]) fun n y v hy hv => ?_
     rw [List.getElem?_map] at hv
     have hn : n < es.size := by
      have := (List.getElem?_eq_some_iff.1 hy).1
      simp at this; omega
     simp only [Array.getElem?_toList, Array.getElem?_modify] at hv
     by_cases hni : i = n
     ·subst hni
      rw [List.getElem?_set_self (by omega)] at hy
      cases hy
      simp [hi] at hv
      subst hv
      exact hx
     ·rw [List.getElem?_set_ne hni] at hy
      obtain ⟨v', hv1, hv2⟩ := hvs.get hy
      rw [List.getElem?_map] at hv1
      simp [hni] at hv hv1
      obtain ⟨a, ha, rfl⟩ := hv
      obtain ⟨a', ha', rfl⟩ := hv1
      rw [ha] at ha'
      cases ha'; exact hv2
    ·refine ⟨fun e he => ?_, ?_⟩
     ·obtain ⟨n, hn⟩ := List.mem_iff_getElem?.1 he
      simp only [Array.getElem?_toList, Array.getElem?_modify] at hn
      split at hn
      ·rw [Option.map_eq_some_iff] at hn
       obtain ⟨e', he', rfl⟩ := hn
       exact hb1 e' (List.mem_of_getElem? (by simpa using he'))
      ·exact hb1 e (List.mem_of_getElem? (by simpa using hn))
     ·have hbn : (es.modify i fun e => { e with key := ρ k, val := ρ x }).toList.map (·.born) = es.toList.map (·.born) := by
       apply List.ext_getElem?
       intro n
       simp only [List.getElem?_map, Array.getElem?_toList, Array.getElem?_modify]
       split <;> simp [Option.map_map, Function.comp_def]
      have hp : (es.toList.map (·.born)).Pairwise (· ≠ ·) := by rw [List.pairwise_map]; exact hb2
      rw [<- hbn, List.pairwise_map] at hp
      exact hp
   ·rename_i hf
    obtain ⟨b, hbk⟩ := gH hf
    have hfk := gM (w := w) hq hk hks hf
    simp only [Option.bind_none] at hfk
    refine put (es.push { key := ρ k, val := ρ x, born := cl }) (cl + 1) (ks ++ [aeval GL τ (compOpd k)]) (vs ++ [aeval GL τ (compOpd x)]) ?_ ?_ ?_ ?_ hs
    ·simp only [Instr.mapUpdate, Sem.run_bind, run_underlying hu, Result.andThen_ok, hm, MapKept.run_getObj_map hb, kR (n := 9998) hq hk hbk, hfk, MapKept.run_setObj_map _ hb]
    ·simp only [Array.toList_push, List.map_append, List.map_cons, List.map_nil]
     exact hks.append (Reps.one hk)
    ·simp only [Array.toList_push, List.map_append, List.map_cons, List.map_nil]
     exact hvs.append (Reps.one hx)
    ·simp only [bornOk, Array.toList_push]
     refine ⟨fun e he => ?_, ?_⟩
     ·rcases List.mem_append.1 he with he | he
      ·exact Nat.lt_succ_of_lt (hb1 e he)
      ·simp only [List.mem_singleton] at he
       subst he; exact Nat.lt_succ_self _
     ·rw [List.pairwise_append]
      refine ⟨hb2, by simp, fun a ha b hb => ?_⟩
      simp only [List.mem_singleton] at hb
      subst hb
      exact Nat.ne_of_lt (hb1 a ha)
   ·exact hs.elim
  ·exact hs.elim
 ·exact hs.elim
end
section
variable {P : Program} {GL : Glob} {E : Env} {A : Nat -> Nat -> Prop} {G : Gd} {h : List AObj} {w : World} {τ : List (Nat × AV)} {ρ : Operand -> Value} {K : AV -> List AObj -> Prop}
theorem sR (hW : Wf GL E A G h w) (hρ : Opds GL E A G w τ ρ) {t : TypeId} {x : Operand} (hu : P.underlying t = some .string) (hs : stepA GL (.rangeStr (compOpd x)) τ h K) :
  OpOk P GL E A G w (do pure (.value (<- Instr.range t (ρ x)))) K := by
 have hx := hρ x
 simp only [stepA] at hs
 split at hs
 ·rename_i l hl
  rw [hl] at hx
  simp only [Rep] at hx
  have := hW.push (.stringIter ⟨l.toArray⟩ 0) (.siter ⟨l.toArray⟩ 0) 0 undef 0 (fun _ => False) (fun _ hf => hf.elim) ?_ ?_
  ·rw [bK] at this
   refine ⟨.value (.pointer (some ⟨w.heap.size, 0, none⟩)), _, w.alloc (.stringIter ⟨l.toArray⟩ 0), _, A, G, _, _, ?_, .inl rfl, E.le_push _ _ _ _, this.2, this.1, ?_, hs⟩
   ·rw [Sem.run_bind, hx, run_range_string w t _ hu]; rfl
   ·simp [Rep, <- hW.n]
  ·rw [bK]
   refine ⟨by rw [Env.push_blk]; exact heap_alloc_new w _, fun hg => ?_⟩
   rw [Env.push_blk] at hg
   have := hW.g _ hg; omega
  ·intro b hb; simp [obk] at hb; exact hb.symm
 ·exact hs.elim
theorem uH (hW : Wf GL E A G h w) (hρ : Opds GL E A G w τ ρ) {ty : TypeId} {x : Operand} (hs : stepA GL (.nextStr (compOpd x)) τ h K) :
  OpOk P GL E A G w (do pure (.value (<- Instr.next (ρ x) true ty))) K := by
 have hx := hρ x
 simp only [stepA] at hs
 split at hs
 ·rename_i k hk
  rw [hk] at hx
  simp only [Rep] at hx
  obtain ⟨hkn, hv⟩ := hx
  split at hs
  ·rename_i s pos ho
   obtain ⟨hb, hG⟩ := hW.o k _ ho
   cases hlt : Nat.blt pos s.size with
   | true =>
    have hp : pos < s.size := Nat.le_of_ble_eq_true hlt
    have hs := hs.1 hlt
    have hA : ∀ i, ¬ A (E.blk k) i := fun i ha => by
     obtain ⟨v, hv⟩ := hW.a _ _ ha
     simp [World.cell?, hb] at hv
    have hset := MapKept.heap_set (o' := .stringIter s (pos + (Utf8.decode s pos).2)) hb
    have hg : w.grownBy { w with heap := w.heap.setIfInBounds (E.blk k) (.stringIter s (pos + (Utf8.decode s pos).2)) } (some (E.blk k)) :=
     ⟨rfl, rfl, rfl, by simp, fun i _ hi => hset.2 i (fun e => hi (by rw [e]))⟩
    have hX := aV hW hg (fun _ _ h => h) (fun b e => by cases e; exact ⟨hG, hW.ho k _ _ ho rfl, fun o ho => absurd ho (hA o)⟩) (fun _ _ => .inl)
    refine ⟨.value (.tuple #[.bool true, goInt pos, .int .i32 (Utf8.decode s pos).1]), _, _, E, A, G, _, h.set k (.siter s (pos + (Utf8.decode s pos).2)), ?_, .inl rfl, E.le_refl, hX, hW.put ho rfl rfl hg hA hG hX ⟨hset.1, hG⟩, ?_, hs⟩
    ·simp [Instr.next, hv, getObj, setObj, Sem.run, hb, hp]
    ·simp only [Rep]
     exact ⟨_, rfl, by simp [Reps, Rep, goInt]⟩
   | false =>
    have hp : ¬ pos < s.size := fun hp => by
     have : Nat.blt pos s.size = true := Nat.ble_eq_true_of_le hp
     rw [hlt] at this; cases this
    refine OpOk.quiet hW (v := .tuple #[.bool false]) ?_ (by simp only [Rep]; exact ⟨_, rfl, by simp [Reps, Rep]⟩) (hs.2 hlt)
    simp [Instr.next, hv, getObj, Sem.run, hb, hp]
  ·exact hs.elim
 ·exact hs.elim
theorem tW (hW : Wf GL E A G h w) (hρ : Opds GL E A G w τ ρ) {xt T : TypeId} {z : AV} {ok : Bool} {x : Operand} {d : TypeDesc} (hu : P.underlying T = some d) (hd : ∀ ms, d ≠ .interface ms) (hz : tyZero P T = some z)
  (hs : stepA GL (.tyAssert T z ok (compOpd x)) τ h K) : OpOk P GL E A G w (do pure (.value (<- Instr.typeAssert (ρ x) xt T ok))) K := by
 have hx := hρ x
 obtain ⟨ie, zv, z1, z2, _, _, z5⟩ := bL hz
 have hzr : (zeroValue T).run P w = .ok zv w := by simp [zeroValue, typeInfo, z1, z2]
 simp only [stepA] at hs
 have step : ∀ u, ρ x = u -> (∀ ms, d ≠ .interface ms) -> ((Instr.typeAssert u xt T ok).run P w = match u with
   | .iface t v => if t = T then .ok (if ok then .tuple #[v, .bool true] else v) w else (if ok then .ok (.tuple #[zv, .bool false]) w else (runtimePanic (.typeAssertion (some xt) (some t) T "") : Sem Value).run P w)
   | .nilIface => if ok then .ok (.tuple #[zv, .bool false]) w else (runtimePanic (.typeAssertion (some xt) none T "") : Sem Value).run P w
   | _ => (Instr.typeAssert u xt T ok).run P w) := by
  intro u _ hd
  cases u <;> try rfl
  ·unfold Instr.typeAssert
   rw [Sem.run_bind, run_underlying hu, Result.andThen_ok]
   cases d <;> first | exact absurd rfl (hd _) | (cases ok <;> simp [hzr, Sem.run_ite] <;> split <;> simp_all)
  ·unfold Instr.typeAssert
   rw [Sem.run_bind, run_underlying hu, Result.andThen_ok]
   cases d <;> first | exact absurd rfl (hd _) | (cases ok <;> simp [hzr])
 have hrun := step _ rfl hd
 split at hs
 ·rename_i t y hy
  rw [hy] at hx
  simp only [Rep] at hx
  obtain ⟨u, hv, hu'⟩ := hx
  rw [hv] at hrun
  simp only [if_true] at hrun
  split at hs
  ·rename_i hb
   rw [if_pos (Nat.eq_of_beq_eq_true hb)] at hrun
   refine OpOk.quiet hW (by rw [hv]; exact hrun) ?_ hs
   simp only [Rep]
   exact ⟨_, rfl, by simp only [Reps]; exact ⟨_, _, rfl, hu', _, _, rfl, by simp [Rep], rfl⟩⟩
  ·rename_i hb
   rw [if_neg (fun e => by rw [e, Nat.beq_refl] at hb; cases hb)] at hrun
   refine OpOk.quiet hW (by rw [hv]; exact hrun) ?_ hs
   simp only [Rep]
   exact ⟨_, rfl, by simp only [Reps]; exact ⟨_, _, rfl, (z5 _ _ _ _).1, _, _, rfl, by simp [Rep], rfl⟩⟩
 ·rename_i t y hy
  rw [hy] at hx
  simp only [Rep] at hx
  obtain ⟨u, hv, hu'⟩ := hx
  rw [hv] at hrun
  split at hs
  ·rename_i hb
   simp only [if_pos (Nat.eq_of_beq_eq_true hb)] at hrun
   exact OpOk.quiet hW (by rw [hv]; exact hrun) hu' hs
  ·exact hs.elim
 ·rename_i hy
  rw [hy] at hx
  simp only [Rep] at hx
  rw [hx] at hrun
  simp only [if_true] at hrun
  refine OpOk.quiet hW (by rw [hx]; exact hrun) ?_ hs
  simp only [Rep]
  exact ⟨_, rfl, by simp only [Reps]; exact ⟨_, _, rfl, (z5 _ _ _ _).1, _, _, rfl, by simp [Rep], rfl⟩⟩
 ·exact hs.elim
theorem push_sl (hW : Wf GL E A G h w) (e : TypeId) (cs : Array Value) (l : List AV) (sz cap : Nat) (ho : ∀ u ∈ cs.toList, u.oneCell' = true) (hl : ∀ x ∈ l, x.cells.length = sz)
  (hr : Reps E A G w (l.flatMap AV.cells) (cs.toList.take (l.length * sz))) (hc : cs.size = cap * sz) (hle : l.length <= cap) (h50 : l.length <= 2 ^ 50) :
  ∃ A', Ext A G w A' G (w.alloc (.cells cs e)) /\ Wf GL E A' G h (w.alloc (.cells cs e)) /\ Rep E A' G (w.alloc (.cells cs e)) (.sl sz l) (.slice (some ⟨w.heap.size, 0, none⟩) l.length cap) := by
 have hX : Ext A G w (addA A w.heap.size fun i => i < l.length * sz) G (w.alloc (.cells cs e)) :=
  aV hW (World.grownBy_alloc w _ none) (fun _ _ => .inl) (fun _ e => by cases e) (fun b o ho => ho.imp id fun h hh => by have := hW.hf b hh; omega)
 refine ⟨_, hX, hW.step E.le_refl hX hW.n ?_ ?_ (fun _ => False) ?_ (fun _ _ _ h => h.elim) (fun _ _ _ _ _ _ _ h => h.elim) (fun _ _ _ _ h => h.elim), ?_⟩
 ·rintro b o (ha | ⟨rfl, hn⟩)
  ·obtain ⟨v, hv⟩ := hW.a b o ha
   exact ⟨v, (hX.cell b o ha).trans hv⟩
  ·rw [cell_of_row _ _ o cs e (0, 0) (heap_alloc_new w _)]
   have : o < cs.size := by rw [hc]; exact Nat.lt_of_lt_of_le hn (Nat.mul_le_mul_right _ hle)
   exact ⟨_, Array.getElem?_eq_getElem this⟩
 ·intro b hb; exact Nat.lt_of_lt_of_le (hW.g b hb) (by simp)
 ·intro k x hx _
  refine ⟨hx, fun b hb => ?_⟩
  have hlt := cJ (hW.o k x hx) hb
  exact ⟨heap_alloc_old w _ b hlt, fun o ho => ho.resolve_right (fun h => by omega), id⟩
 ·simp only [Rep]
  refine ⟨_, _, _, rfl, rfl, hle, h50, .inr ⟨_, 0, rfl, ?_⟩⟩
  refine fC hl (hr.mono E.le_refl hX) fun i u hu hi => ?_
  rw [List.getElem?_take] at hu
  split at hu
  ·refine ⟨?_, .inr ⟨rfl, hi⟩, ho u (List.mem_of_getElem? hu)⟩
   rw [cell_of_row _ _ i cs e (0, 0) (heap_alloc_new w _)]
   simpa using hu
  ·exact absurd hi (by assumption)
theorem oP (hW : Wf GL E A G h w) (hρ : Opds GL E A G w τ ρ) {t e : TypeId} {len sz : Nat} {z : AV} {ps : Array (Nat × Operand)} (hu : P.underlying t = some (.slice e)) (hsz : tySize P e = some sz) (hz : tyZero P e = some z)
  (hpos : 0 < sz) (hlen : len * sz <= 2 ^ 24) (hs : stepA GL (.buildSliceF e sz z len (ps.toList.map fun (i, x) => (i, compOpd x))) τ h K) :
  OpOk P GL E A G w (do pure (.value (<- Instr.buildSlice t len (ps.map fun (i, x) => (i, ρ x))))) K := by
 simp only [stepA] at hs
 split at hs
 ·rename_i l hl
  obtain ⟨cells, hrun, f2, hlen50, f3, g3, g2, hcl⟩ := eZ hρ hu hsz hz hpos hlen hl
  obtain ⟨A', hX, hW', hr'⟩ := push_sl hW e cells l sz len g3 f3 (by rw [f2, <- hcl, <- Array.length_toList, List.take_length]; exact g2) hcl (by omega) (by omega)
  rw [f2] at hr'
  exact ⟨_, _, _, E, A', G, _, _, by rw [Sem.run_bind, hrun]; rfl, .inl rfl, E.le_refl, hX, hW', hr', hs⟩
 ·exact hs.elim
theorem ok_cap (hW : Wf GL E A G h w) (hρ : Opds GL E A G w τ ρ) {t ty e : TypeId} {x : Operand} (hu : P.underlying t = some (.slice e)) (hs : stepA GL (.cap (compOpd x)) τ h K) :
  OpOk P GL E A G w (do pure (.value (<- Builtin.cap_ #[t] ty #[ρ x]))) K := by
 have hx := hρ x
 have he : P.elem t = e := by simp [Program.elem, hu]
 simp only [stepA] at hs
 split at hs
 ·rename_i hxa
  rw [hxa] at hx
  simp only [Rep] at hx
  refine OpOk.quiet hW (v := goInt 0) ?_ (by simp [Rep, goInt]) hs
  rw [hx, run_cap_slice w t ty none 0 0 (by rw [he]; exact hu)]
  rfl
 ·exact hs.elim
theorem wG (hW : Wf GL E A G h w) (hρ : Opds GL E A G w τ ρ) {t u ty e : TypeId} {kk : IntKind} {size bytes : Nat} {z : AV} (ht : P.underlying t = some (.slice e)) (hu : P.underlying u = some (.int kk)) (hsz : tySize P e = some size) (hby : tyBytes P e = some bytes)
  (hz : tyZero P e = some z) (hpos : 0 < size) (hbp : 0 < bytes) {a b : Operand} (hs : stepA GL (.appendZ e size bytes z (compOpd a) (compOpd b)) τ h K) :
  OpOk P GL E A G w (do pure (.value (<- Builtin.append_ #[t, u] ty #[ρ a, ρ b]))) K := by
 have ha := hρ a
 simp only [stepA] at hs
 split at hs
 ·rename_i n hax hbx
  obtain ⟨⟨hn0, hnb⟩, hs⟩ := hs
  rw [hax] at ha
  simp only [Rep] at ha
  obtain ⟨kb, hb⟩ := bV (hρ b) hbx
  obtain ⟨i, zv, i1, i2, i3, i4, i5⟩ := bL hz
  obtain ⟨i', hi', hsi⟩ := bX hsz
  rw [i1] at hi'; cases hi'
  obtain ⟨i', hi', hbi⟩ := dA hby
  rw [i1] at hi'; cases hi'
  have hzs : zv.cells.size = size := by rw [i3, hsi]
  have hzr := (i5 E A G w).2
  have hzl : z.cells.length = size := by rw [<- hzr.length]; simpa using hzs
  have hle : n <= 2 ^ 47 := by
   have := Int.mul_le_mul_of_nonneg_left (show (1 : Int) <= bytes by omega) (show 0 <= n by omega)
   omega
  obtain ⟨m, rfl⟩ : ∃ m : Nat, n = m := ⟨n.toNat, by omega⟩
  simp only [Int.toNat_natCast] at hs
  have hm0 : 0 < m := by omega
  have hmb : m * bytes <= 2 ^ 47 := by exact_mod_cast hnb
  have wm : IntKind.i64.wrap (m : Int) = m := by rw [IntKind.wrap_i64]; omega
  have hcap := grownCap_ge w m 0 e
  have hcm : grownCap w m 0 e <= maxLen := grownCap_le_maxLen w m 0 e (by simp only [maxLen]; omega)
  have hrun : (Builtin.append_ #[t, u] ty #[ρ a, ρ b]).run P w = .ok (.slice (some ⟨w.heap.size, 0, none⟩) m (grownCap w m 0 e))
    (w.drew.alloc (.cells (Builtin.zeroCells zv.cells m ++ Builtin.zeroCells zv.cells (grownCap w m 0 e - m)) e)) := by
   have hn : m ≠ 0 := by omega
   have h63' : ¬ (9223372036854775807 < (m : Int)) := by omega
   have h48' : ¬ (281474976710656 < Builtin.nextslicecap m 0 * i.bytes) := by rw [nextslicecap_zero hm0, hbi]; omega
   have h48'' : ¬ ((281474976710656 : Int) < (m : Int) * (i.bytes : Int)) := by
    rw [hbi]
    have : (m : Int) * (bytes : Int) <= 2 ^ 47 := hnb
    omega
   have hneg : ¬ ((m : Int) < 0) := by omega
   have hms : m * i.size ≠ 0 := by rw [hsi]; exact Nat.mul_ne_zero hn (by omega)
   rw [ha, hb]
   simp [Builtin.append_, run_underlying ht, run_underlying hu, sizeOf, typeInfo, zeroValue, i1, i2, asInt, asIntOf, wm, hn, h63', h48', h48'', hneg, hms, Question.forced, run_firstCells_none, newRow, grownCap]
  have hW2 := hW.drawn
  have hd : w.drew = { w with drawn := w.drawn + 1 } := rfl
  rw [<- hd] at hW2
  have hXd : Ext A G w A G w.drew := Ext.drawn
  have hfl : ∀ x ∈ List.replicate m z, x.cells.length = size := fun x hx => by rw [List.eq_of_mem_replicate hx]; exact hzl
  have zc : ∀ k, Builtin.zeroCells zv.cells k = (Array.range (k * size)).map (zv.cells[· % zv.cells.size]!) := fun k => by simp only [Builtin.zeroCells, hzs]
  have hsize : (Builtin.zeroCells zv.cells m ++ Builtin.zeroCells zv.cells (grownCap w m 0 e - m)).size = grownCap w m 0 e * size := by
   simp only [Array.size_append, size_zeroCells, hzs, <- Nat.add_mul]
   congr 1; omega
  have hone : ∀ u ∈ (Builtin.zeroCells zv.cells m ++ Builtin.zeroCells zv.cells (grownCap w m 0 e - m)).toList, u.oneCell' = true := fun u hu => by
   rw [Array.toList_append, zc, zc] at hu
   rcases List.mem_append.1 hu with hu | hu
   ·exact cE i4 hzs hpos m u hu
   ·exact cE i4 hzs hpos _ u hu
  have := hW2.push (.cells (Builtin.zeroCells zv.cells m ++ Builtin.zeroCells zv.cells (grownCap w m 0 e - m)) e) (.buf e size (List.replicate m z)) (grownCap w m 0 e) undef size (fun _ => False) (fun _ hf => hf.elim) ?_ ?_
  ·rw [bK] at this
   refine ⟨.value (.slice (some ⟨w.heap.size, 0, none⟩) m (grownCap w m 0 e)), _, _, _, A, G, _, _, by rw [Sem.run_bind, hrun]; rfl, .inl rfl, E.le_push _ _ _ _, hXd.trans this.2, this.1, ?_, hs⟩
   simp only [Rep, <- hW.n]
   exact ⟨by simp, by simp, by rw [Env.push_blk, Env.push_cap]; rfl, by simpa using hcap, by omega, by simpa using hcm⟩
  ·rw [bK]
   have hX : Ext A G w.drew A G (w.drew.alloc (.cells (Builtin.zeroCells zv.cells m ++ Builtin.zeroCells zv.cells (grownCap w m 0 e - m)) e)) := aV hW2 (World.grownBy_alloc _ _ none) (fun _ _ h => h) (fun _ e => by cases e) (fun _ _ => .inl)
   refine ⟨_, by rw [Env.push_blk]; exact heap_alloc_new _ _, hone, by simp, by simpa using hcap, ?_, hfl, ?_, fun o ha => ?_, fun hg => ?_⟩
   ·simp only [Env.push_cap]; exact hsize
   ·have h1 := (kL hzr hzs hpos m).mono (E.le_push w.heap.size (grownCap w m 0 e) undef size) (hXd.trans hX)
    have e1 : (Builtin.zeroCells zv.cells m ++ Builtin.zeroCells zv.cells (grownCap w m 0 e - m)).toList.take ((List.replicate m z).length * size) = ((Array.range (m * size)).map (zv.cells[· % zv.cells.size]!)).toList := by
     rw [List.length_replicate, Array.toList_append, List.take_left' (by simp [size_zeroCells, hzs]), zc]
    rw [e1]
    exact h1
   ·rw [Env.push_blk] at ha; have := hW2.a_lt ha; omega
   ·rw [Env.push_blk] at hg; have := hW2.g _ hg; omega
  ·intro b hb; simp [obk] at hb; exact hb.symm
 ·exact hs.elim
theorem jH (hW : Wf GL E A G h w) {k sz b : Nat} {T : TypeId} {s' : Nat} {l : List AV} (hk : h[k]? = some (.buf T s' l)) (hkn : k < E.n) (hwid : E.wid k = sz) (hb : b <= l.length) (hcm : E.cap k <= maxLen) (h50 : b <= 2 ^ 50) :
  ∃ E' A', E.le E' /\ Ext A G w A' G w /\ Wf GL E' A' G (h.set k .dead ++ [.spare T sz]) w /\ Rep E' A' G w (.own h.length sz (l.take b)) (.slice (some ⟨E.blk k, 0, none⟩) b (E.cap k)) := by
 obtain ⟨cs, h1, h9, h5, h6, h7, h8, h2, h3, h4⟩ := hW.o k _ hk
 have hs : s' = sz := by rw [<- h5, hwid]
 subst hs
 have hlt := (List.getElem?_eq_some_iff.1 hk).1
 have hbc : b * s' <= cs.size := by rw [h7]; exact Nat.mul_le_mul_right _ (by omega)
 let A' := addA A (E.blk k) (fun i => i < b * s')
 have hnh := hW.ho k _ _ hk rfl
 have hX : Ext A G w A' G w := ⟨fun _ _ => .inl, fun _ h => h, fun _ _ _ => rfl, fun _ _ => rfl, Nat.le_refl _, rfl, rfl, rfl, fun _ => Iff.rfl,
  fun b hb => ⟨rfl, fun o ho => ho.resolve_right (fun h => hnh (h.1 ▸ hb)), id⟩⟩
 have hlen : ∀ x ∈ l.take b, x.cells.length = s' := fun x hx => h8 x (List.mem_of_mem_take hx)
 have hrow : Reps E A G w ((l.take b).flatMap AV.cells) (cs.toList.take (b * s')) := by
  have := h2.take (b * s')
  rw [List.take_take, Nat.min_eq_left (Nat.mul_le_mul_right _ hb)] at this
  have e : (l.take b).flatMap AV.cells = (l.flatMap AV.cells).take (b * s') := by
   have e1 : l.flatMap AV.cells = (l.take b).flatMap AV.cells ++ (l.drop b).flatMap AV.cells := by rw [<- List.flatMap_append, List.take_append_drop]
   have e2 : b * s' = ((l.take b).flatMap AV.cells).length := by rw [cI hlen, List.length_take, Nat.min_eq_left hb]
   rw [e1, e2, List.take_left]
  rw [e]; exact this
 have hn := hW.n
 refine ⟨E.push 0 0 (.slice (some ⟨E.blk k, 0, none⟩) b (E.cap k)) 0, A', E.le_push _ _ _ _, hX, hW.step (E.le_push _ _ _ _) hX (by simp [hn]) ?_ hW.g (fun j => j = h.length ∨ j = k) ?_ ?_ ?_ ?_, ?_⟩
 ·rintro b' o (ha | ⟨rfl, ho⟩)
  ·exact hW.a b' o ha
  ·rw [cell_of_row w _ o cs T (0, 0) h1]
   exact ⟨_, Array.getElem?_eq_getElem (Nat.lt_of_lt_of_le ho hbc)⟩
 ·intro j x hx hj
  simp only [not_or] at hj
  have hjl : j < h.length := by
   have := (List.getElem?_eq_some_iff.1 hx).1
   simp at this; omega
  rw [List.getElem?_append_left (by simpa using hjl), List.getElem?_set_ne (Ne.symm hj.2)] at hx
  refine ⟨hx, fun b' hb' => ⟨rfl, fun o ho => ho.resolve_right (fun he => ?_), id⟩⟩
  exact hj.2 (hW.d j k x _ b' hx hk hb' (by rw [he.1]; rfl))
 ·rintro j x hx (rfl | rfl)
  ·simp at hx
   subst hx
   rw [<- hn]
   refine ⟨b, cs.toList.take (b * s'), ?_, fun u hu => h9 u (List.mem_of_mem_take hu), fun b' hb' => ?_⟩
   ·rw [Env.push_tok]
    exact ⟨by rw [List.length_take, Array.length_toList]; exact Nat.min_eq_left hbc, .inr ⟨E.blk k, E.cap k, cs, rfl, Nat.zero_le _, h1, by omega, hcm, h7, rfl⟩⟩
   ·rw [Env.push_tok] at hb'
    simp [Value.ownBlock] at hb'
    subst hb'
    refine ⟨fun i hi ha => ?_, h4⟩
    rcases ha with ha | ⟨_, ho⟩
    ·exact h3 i ha
    ·omega
  ·rw [List.getElem?_append_left (by simpa using hlt)] at hx
   simp [hlt] at hx
   subst hx
   trivial
 ·intro i j x y b' hx hy hi hbx hby
  rcases hi with rfl | rfl
  ·simp at hx
   subst hx
   rw [<- hn] at hbx
   simp [obk, Value.ownBlock] at hbx
   subst hbx
   by_cases hj : j = h.length
   ·exact hj.symm
   ·have hjl : j < h.length := by
     have := (List.getElem?_eq_some_iff.1 hy).1
     simp at this; omega
    rw [List.getElem?_append_left (by simpa using hjl)] at hy
    by_cases hjk : j = k
    ·subst hjk
     simp [hlt] at hy
     subst hy
     simp [obk] at hby
    ·rw [List.getElem?_set_ne (Ne.symm hjk)] at hy
     rw [(E.le_push _ _ _ _).obk (by omega)] at hby
     exact absurd (hW.d j k y _ _ hy hk hby rfl) hjk
  ·rw [List.getElem?_append_left (by simpa using hlt)] at hx
   simp [hlt] at hx
   subst hx
   simp [obk] at hbx
 ·rintro i x b' hx (rfl | rfl) hbx
  ·simp at hx
   subst hx
   rw [<- hn] at hbx
   simp [obk, Value.ownBlock] at hbx
   subst hbx
   exact hnh
  ·rw [List.getElem?_append_left (by simpa using hlt)] at hx
   simp [hlt] at hx
   subst hx
   simp [obk] at hbx
 ·simp only [Rep]
  have hl : (l.take b).length = b := by simp; omega
  refine ⟨by simp [hn], by rw [<- hn, Env.push_tok], _, _, _, rfl, hl.symm, by omega, h50, .inr ⟨_, 0, rfl, ?_⟩⟩
  refine fC hlen (hrow.mono (E.le_push _ _ _ _) hX) fun i u hu hi => ?_
  rw [hl] at hi
  rw [List.getElem?_take] at hu
  split at hu
  ·refine ⟨?_, .inr ⟨rfl, hi⟩, h9 u (List.mem_of_getElem? hu)⟩
   rw [cell_of_row w _ i cs T (0, 0) h1]
   simpa using hu
  ·exact absurd hi (by assumption)
theorem rep_part3 {p : Option Addr} {l : List AV} {sz a b m : Nat} (hc : l.length <= 2 ^ 50) (hr : l = [] ∨ ∃ b o, p = some ⟨b, o, none⟩ /\ RepL E A G w sz b o l) (h1 : a <= b) (h2 : b <= m) (h3 : b <= l.length) :
  Rep E A G w (.sl sz ((l.drop a).take (b - a))) (sliced p a b m sz) := by
 simp only [Rep, sliced]
 refine ⟨_, _, _, rfl, by simp; omega, by omega, by omega, ?_⟩
 by_cases he : b - a = 0
 ·left; simp [he]
 ·right
  rcases hr with rfl | ⟨bl, o, rfl, hr⟩
  ·simp at h3; omega
  ·exact ⟨bl, o + a * sz, by rw [if_neg (by omega)]; simp [cP], hr.part a (b - a)⟩
theorem ok_slice (hW : Wf GL E A G h w) (hρ : Opds GL E A G w τ ρ) {t e : TypeId} {sz : Nat} {x : Operand} {lo hi mx : Option Operand} (hu : P.underlying t = some (.slice e)) (hsz : tySize P e = some sz)
  (hs : stepA GL (.slice sz (compOpd x) (lo.map compOpd) (hi.map compOpd) (mx.map compOpd)) τ h K) : OpOk P GL E A G w (do pure (.value (<- Instr.sliceAt t (ρ x) (lo.map ρ) (hi.map ρ) (mx.map ρ)))) K := by
 have he : P.elem t = e := by simp [Program.elem, hu]
 have hx := hρ x
 simp only [stepA] at hs
 split at hs
 ·rename_i hxa hm
  have hm : mx = none := by simpa using hm
  subst hm
  rw [hxa] at hx
  simp only [Rep] at hx
  split at hs
  ·rename_i a b ha hb
   obtain ⟨⟨rfl, rfl⟩, hs⟩ := hs
   refine OpOk.quiet hW (v := .slice none 0 0) ?_ (by simp [Rep]) hs
   have hb' := dM (P := P) (w := w) (len := 0) (cap := 0) true hρ ha hb (Int.le_refl _) (Int.le_refl _) (Int.le_refl _) (Nat.le_refl _)
   rw [run_sliceAt_slice _ _ _ _ _ _ (by rw [he]; exact hu), hx, Option.map_none, run_slice_any _ _ _ _ _ (by rw [he]; exact hu), hb']
   simp [he, bG hsz, sliced]
  ·exact hs.elim
 ·rename_i k s m hxa hm
  have hm : mx = none := by simpa using hm
  subst hm
  rw [hxa] at hx
  simp only [Rep] at hx
  obtain ⟨hkn, hwid, hv, hmc, h50, hcm⟩ := hx
  split at hs
  ·rename_i hj hjo
   obtain ⟨hj, rfl, rfl⟩ : ∃ j, hi = some j /\ compOpd j = hj := by simpa using hjo
   split at hs
   ·rename_i a b T s' l ha hb ho hbq
    have := Nat.eq_of_beq_eq_true hbq
    subst this
    obtain ⟨⟨rfl, h0, h1, h2⟩, hs⟩ := hs
    obtain ⟨E', A', g1, g2, g3, g4⟩ := jH hW ho hkn hwid (b := b.toNat) (by omega) hcm (by omega)
    refine ⟨.value (.slice (some ⟨E.blk k, 0, none⟩) b.toNat (E.cap k)), _, w, E', A', G, _, _, ?_, .inl rfl, g1, g2, g3, g4, hs⟩
    have hb' := dM (P := P) (w := w) (hi := some hj) (len := m) (cap := E.cap k) true hρ ha hb (Int.le_refl _) h0 h1 hmc
    rw [Sem.run_bind, run_sliceAt_slice _ _ _ _ _ _ (by rw [he]; exact hu), hv, Option.map_none, run_slice_any _ _ _ _ _ (by rw [he]; exact hu), hb']
    simp [he, bG hsz, sliced, cP]
   ·exact hs.elim
  ·rename_i hjo
   obtain rfl : hi = none := by simpa using hjo
   split at hs
   ·rename_i a T s' l ha ho hbq
    have := Nat.eq_of_beq_eq_true hbq
    subst this
    obtain ⟨⟨h0, h1, h2⟩, hs⟩ := hs
    refine OpOk.quiet hW (v := .slice (some ⟨E.blk k, a.toNat * s, none⟩) (m - a.toNat) (E.cap k - a.toNat)) ?_ (by simp only [Rep]; exact ⟨hkn, hwid, trivial, by omega, by omega, hcm⟩) hs
    have hb' := dM (P := P) (w := w) (hi := none) (b := m) (len := m) (cap := E.cap k) true hρ ha (by simp [optInt]) h0 (by omega) (Int.le_refl _) hmc
    simp only [Option.map_none] at hb'
    rw [run_sliceAt_slice _ _ _ _ _ _ (by rw [he]; exact hu), hv, Option.map_none, run_slice_any _ _ _ _ _ (by rw [he]; exact hu), hb']
    have hne : E.cap k ≠ a.toNat := by omega
    simp [he, bG hsz, sliced, cP, hne]
   ·exact hs.elim
 ·rename_i hm _ _
  have hm : mx = none := by simpa using hm
  subst hm
  refine pO hW hρ hu hsz ?_
  simp only [stepA, Option.map_none]
  split at hs
  ·rename_i l hl
   rw [hl]
   exact hs
  ·exact hs.elim
 ·rename_i mx' hm
  obtain ⟨c', rfl, rfl⟩ : ∃ c, mx = some c /\ compOpd c = mx' := by simpa using hm
  split at hs
  ·rename_i l hi' hl hjo
   obtain ⟨hj, rfl, rfl⟩ : ∃ j, hi = some j /\ compOpd j = hi' := by simpa using hjo
   obtain ⟨p, c, hv, hc, h50, hr⟩ := sl_rep hx hl
   split at hs
   ·rename_i i j n ha hb hcn
    obtain ⟨⟨h0, h1, h2, h3⟩, hs⟩ := hs
    have hb' := lU (P := P) (w := w) (len := l.length) (cap := c) true hρ ha hb hcn h0 h1 h2 (by omega)
    refine OpOk.quiet hW (v := sliced p i.toNat j.toNat n.toNat sz) ?_ ?_ hs
    ·rw [run_sliceAt_slice _ _ _ _ _ _ (by rw [he]; exact hu), hv, Option.map_some, Option.map_some, run_slice_any _ _ _ _ _ (by rw [he]; exact hu), hb']
     simp [he, bG hsz]
    ·exact rep_part3 h50 hr (by omega) (by omega) (by omega)
   ·exact hs.elim
  ·exact hs.elim
end
end Go.Rip
