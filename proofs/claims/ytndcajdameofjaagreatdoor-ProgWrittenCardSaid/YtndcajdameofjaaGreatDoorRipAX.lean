/- The codes of functions, as the machine reads them. -/
import Derived.Test.YtndcajdameofjaaGreatDoorProg
import Derived.KernelRfl
import Derived.Test.YtndcajdameofjaaGreatDoorRipAI
import Derived.Test.YtndcajdameofjaaGreatDoorRipAW
import Derived.Test.YtndcajdameofjaaGreatDoorRipAL
namespace Go.Rip
open Go Go.Proofs
set_option maxRecDepth 100000
end Go.Rip
namespace Go.Rip
open Go
set_option maxRecDepth 100000
variable {GL : Glob}
def SegP (a b : Nat) (l l' : List Int) : Prop := l'.length = l.length /\ l.Perm l' /\ ∀ i, (i < a ∨ b <= i) -> l'[i]? = l[i]?
theorem SegP.refl (a b : Nat) (l : List Int) : SegP a b l l := ⟨rfl, List.Perm.refl _, fun _ _ => rfl⟩
theorem SegP.trans {a b : Nat} {l l' l'' : List Int} (h : SegP a b l l') (k : SegP a b l' l'') : SegP a b l l'' := ⟨k.1.trans h.1, h.2.1.trans k.2.1, fun i hi => (k.2.2 i hi).trans (h.2.2 i hi)⟩
theorem SegP.mono {a b a' b' : Nat} {l l' : List Int} (h : SegP a b l l') (ha : a' <= a) (hb : b <= b') : SegP a' b' l l' := ⟨h.1, h.2.1, fun i hi => h.2.2 i (by omega)⟩
def swp (l : List Int) (i j : Nat) : List Int := (l.set i (l.getD j 0)).set j (l.getD i 0)
theorem xU (l : List Int) (i j : Nat) : (swp l i j).length = l.length := by simp [swp]
theorem bnd {i n : Nat} (h : i < n) : bounds (i : Int) n = True := by simp [bounds, h]
theorem cV (n : Nat) : n.ble n = true := by simp
section
variable {eS : Int -> AV}
end
theorem nS {l : List Int} {i j : Nat} (hi : i < l.length) (hj : j < l.length) (x : Nat) : (swp l i j).getD x 0 = if x = j then l.getD i 0 else if x = i then l.getD j 0 else l.getD x 0 := by
 simp only [swp, List.getD_eq_getElem?_getD, List.getElem?_set]
 by_cases h1 : x = j
 ·subst h1; simp [hj]
 ·rw [if_neg (fun e => h1 e.symm), if_neg h1]
  by_cases h2 : x = i
  ·subst h2; simp [hi]
  ·rw [if_neg (fun e => h2 e.symm), if_neg h2]
def Srt (a b : Nat) (l : List Int) : Prop := ∀ p q, a <= p -> p < q -> q < b -> l.getD p 0 <= l.getD q 0
def SrtBut (a b j : Nat) (l : List Int) : Prop := ∀ p q, a <= p -> p < q -> q < b -> q ≠ j -> l.getD p 0 <= l.getD q 0
theorem SrtBut.all {a b j : Nat} {l : List Int} (h : SrtBut a b j l) (hj : a < j -> ¬ l.getD j 0 < l.getD (j - 1) 0) : Srt a b l := by
 intro p q hp hpq hq
 by_cases hq1 : q = j
 ·subst hq1
  have h1 := hj (by omega)
  by_cases p1 : p = q - 1
  ·subst p1; omega
  ·have := h p (q - 1) hp (by omega) (by omega) (by omega)
   omega
 ·exact h p q hp hpq hq hq1
theorem Srt.next {a i : Nat} {l : List Int} (h : Srt a i l) : SrtBut a (i + 1) i l := fun p q hp hpq hq hne => h p q hp hpq (by omega)
def Kid (i c : Nat) : Prop := c = 2 * i + 1 ∨ c = 2 * i + 2
def Heap (lo hi f : Nat) (l : List Int) : Prop := ∀ i c, lo <= i -> Kid i c -> c < hi -> l.getD (f + c) 0 <= l.getD (f + i) 0
def HeapBut (lo hi f r : Nat) (l : List Int) : Prop := (∀ i c, lo <= i -> i ≠ r -> Kid i c -> c < hi -> l.getD (f + c) 0 <= l.getD (f + i) 0) /\ ∀ p c, lo <= p -> Kid p r -> Kid r c -> c < hi -> l.getD (f + c) 0 <= l.getD (f + p) 0
theorem HeapBut.done {lo hi f r : Nat} {l : List Int} (h : HeapBut lo hi f r l) (hr : ∀ c, Kid r c -> c < hi -> l.getD (f + c) 0 <= l.getD (f + r) 0) : Heap lo hi f l := fun i c h1 h2 h3 => by
 by_cases e : i = r
 ·subst e; exact hr c h2 h3
 ·exact h.1 i c h1 e h2 h3
theorem HeapBut.step {lo hi f r m : Nat} {l : List Int} (h : HeapBut lo hi f r l) (hr : lo <= r) (hm : Kid r m) (hmi : m < hi) (hb : f + hi <= l.length) (hlt : l.getD (f + r) 0 < l.getD (f + m) 0) (hmax : ∀ c, Kid r c -> c < hi -> l.getD (f + c) 0 <= l.getD (f + m) 0) :
  HeapBut lo hi f m (swp l (f + r) (f + m)) := by
 have hrm : r < m := by unfold Kid at hm; omega
 have g := nS (l := l) (i := f + r) (j := f + m) (by omega) (by omega)
 have gr : (swp l (f + r) (f + m)).getD (f + r) 0 = l.getD (f + m) 0 := by rw [g, if_neg (by omega), if_pos rfl]
 have gm : (swp l (f + r) (f + m)).getD (f + m) 0 = l.getD (f + r) 0 := by rw [g, if_pos rfl]
 have go : ∀ x, x ≠ r -> x ≠ m -> (swp l (f + r) (f + m)).getD (f + x) 0 = l.getD (f + x) 0 := fun x h1 h2 => by rw [g, if_neg (by omega), if_neg (by omega)]
 refine ⟨fun i c h1 h2 h3 h4 => ?_, fun p c h1 h2 h3 h4 => ?_⟩
 ·by_cases ei : i = r
  ·subst ei
   rw [gr]
   by_cases ec : c = m
   ·subst ec; rw [gm]; omega
   ·rw [go c (by unfold Kid at h3; omega) ec]
    exact hmax c h3 h4
  ·rw [go i ei h2]
   by_cases ec : c = r
   ·subst ec; rw [gr]; exact h.2 i m h1 h3 hm hmi
   ·have ec2 : c ≠ m := by unfold Kid at h3 hm; omega
    rw [go c ec ec2]
    exact h.1 i c h1 ei h3 h4
 ·have ep : p = r := by unfold Kid at h2 hm; omega
  subst ep
  rw [gr, go c (by unfold Kid at h3; omega) (by unfold Kid at h3; omega)]
  exact h.1 m c (by omega) (by omega) h3 h4
theorem heap_max {hi f : Nat} {l : List Int} (h : Heap 0 hi f l) : ∀ i, i < hi -> l.getD (f + i) 0 <= l.getD f 0 := by
 intro i
 induction i using Nat.strongRecOn with
 | _ i ih =>
 intro hi'
 by_cases e : i = 0
 ·subst e; simp
 ·have h1 := h ((i - 1) / 2) i (by omega) (by unfold Kid; omega) hi'
  have h2 := ih ((i - 1) / 2) (by omega) (by omega)
  omega
theorem SegP.mem {a b : Nat} {l l' : List Int} (h : SegP a b l l') (hb : b <= l.length) {x : Nat} (hx : a <= x /\ x < b) : ∃ y, (a <= y /\ y < b) /\ l'.getD x 0 = l.getD y 0 := by
 obtain ⟨h1, h2, h3⟩ := h
 have e1 : l'.take a = l.take a := List.ext_getElem? fun i => by
  rw [List.getElem?_take, List.getElem?_take]
  split
  ·exact h3 i (by omega)
  ·rfl
 have e2 : l'.drop b = l.drop b := List.ext_getElem? fun i => by
  rw [List.getElem?_drop, List.getElem?_drop]
  exact h3 _ (by omega)
 have split3 : ∀ m : List Int, m = m.take a ++ ((m.drop a).take (b - a) ++ m.drop b) := fun m => by
  rw [show m.drop b = (m.drop a).drop (b - a) by rw [List.drop_drop]; congr 1; omega, List.take_append_drop, List.take_append_drop]
 have hp : ((l.drop a).take (b - a)).Perm ((l'.drop a).take (b - a)) := by
  rw [split3 l, split3 l', e1, e2] at h2
  exact (List.perm_append_right_iff _).1 ((List.perm_append_left_iff _).1 h2)
 have hm : l'.getD x 0 ∈ (l'.drop a).take (b - a) := by
  rw [List.getD_eq_getElem?_getD, List.getElem?_eq_getElem (by omega : x < l'.length)]
  refine List.mem_take_iff_getElem.2 ⟨x - a, by simp; omega, ?_⟩
  rw [List.getElem_drop]
  simp only [Option.getD_some]
  congr 1; omega
 obtain ⟨i, hi, he⟩ := List.mem_take_iff_getElem.1 (hp.mem_iff.2 hm)
 simp only [List.length_drop] at hi
 refine ⟨a + i, by omega, ?_⟩
 rw [<- he, List.getElem_drop, List.getD_eq_getElem?_getD, List.getElem?_eq_getElem (by omega : a + i < l.length)]
 rfl
theorem SegP.same {a b : Nat} {l l' : List Int} (h : SegP a b l l') {x : Nat} (hx : x < a ∨ b <= x) : l'.getD x 0 = l.getD x 0 := by
 rw [List.getD_eq_getElem?_getD, List.getD_eq_getElem?_getD, h.2.2 x hx]
def Popped (n hi f : Nat) (l : List Int) : Prop := Heap 0 n f l /\ Srt (f + n) (f + hi) l /\ ∀ x y, x < n -> n <= y -> y < hi -> l.getD (f + x) 0 <= l.getD (f + y) 0
theorem Popped.step {i hi f : Nat} {l l2 : List Int} (h : Popped (i + 1) hi f l) (hi1 : i < hi) (hb : f + hi <= l.length) (hs : SegP f (f + i) (swp l f (f + i)) l2) (hh : Heap 0 i f l2) : Popped i hi f l2 := by
 obtain ⟨h1, h2, h3⟩ := h
 have g := nS (l := l) (i := f) (j := f + i) (by omega) (by omega)
 have mx := heap_max h1
 have ei : l2.getD (f + i) 0 = l.getD f 0 := by rw [hs.same (by omega), g, if_pos rfl]
 have ey : ∀ y, i < y -> l2.getD (f + y) 0 = l.getD (f + y) 0 := fun y hy => by rw [hs.same (by omega), g, if_neg (by omega), if_neg (by omega)]
 have ex : ∀ x, x < i -> ∃ z, z <= i /\ l2.getD (f + x) 0 = l.getD (f + z) 0 := fun x hx => by
  obtain ⟨y, hy, e⟩ := hs.mem (by rw [xU]; omega) (x := f + x) (by omega)
  rw [e, g, if_neg (by omega)]
  by_cases hyf : y = f
  ·rw [if_pos hyf]; exact ⟨i, Nat.le_refl _, rfl⟩
  ·rw [if_neg hyf]; exact ⟨y - f, by omega, by congr 1; omega⟩
 have lei : ∀ y, i < y -> y < hi -> l.getD f 0 <= l.getD (f + y) 0 := fun y hy1 hy2 => by have := h3 0 y (by omega) (by omega) hy2; simpa using this
 refine ⟨hh, fun p q hp hpq hq => ?_, fun x y hx hy hyh => ?_⟩
 ·obtain ⟨p', rfl⟩ : ∃ p', p = f + p' := ⟨p - f, by omega⟩
  obtain ⟨q', rfl⟩ : ∃ q', q = f + q' := ⟨q - f, by omega⟩
  rw [ey q' (by omega)]
  by_cases e : p' = i
  ·subst e; rw [ei]; exact lei q' (by omega) (by omega)
  ·rw [ey p' (by omega)]; exact h2 _ _ (by omega) hpq hq
 ·obtain ⟨z, hz, e⟩ := ex x hx
  rw [e]
  by_cases e2 : y = i
  ·subst e2; rw [ei]; exact mx z (by omega)
  ·rw [ey y (by omega)]; exact h3 z y (by omega) (by omega) hyh
end Go.Rip
