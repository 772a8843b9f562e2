/- Numbers are sorted: what is moved stays within the bounds. -/
import Derived.Test.YtndcajdameofjaaGreatDoorRipAX
import Derived.Test.YtndcajdameofjaaGreatDoorRipAL
import Derived.Test.YtndcajdameofjaaGreatDoorRipAI
namespace Go.Rip
open Go
set_option maxRecDepth 100000
variable {GL : Glob}
def SegP (a b : Nat) (l l' : List Int) : Prop := l'.length = l.length /\ l.Perm l' /\ ∀ i, (i < a ∨ b <= i) -> l'[i]? = l[i]?
theorem SegP.refl (a b : Nat) (l : List Int) : SegP a b l l := ⟨rfl, List.Perm.refl _, fun _ _ => rfl⟩
theorem SegP.trans {a b : Nat} {l l' l'' : List Int} (h : SegP a b l l') (k : SegP a b l' l'') : SegP a b l l'' := ⟨k.1.trans h.1, h.2.1.trans k.2.1, fun i hi => (k.2.2 i hi).trans (h.2.2 i hi)⟩
theorem SegP.mono {a b a' b' : Nat} {l l' : List Int} (h : SegP a b l l') (ha : a' <= a) (hb : b <= b') : SegP a' b' l l' := ⟨h.1, h.2.1, fun i hi => h.2.2 i (by omega)⟩
def swp (l : List Int) (i j : Nat) : List Int := (l.set i (l.getD j 0)).set j (l.getD i 0)
theorem eA (l : List Int) (i j : Nat) : (swp l i j).length = l.length := by simp [swp]
theorem oG {l : List Int} {i j : Nat} (hi : i < l.length) (hj : j < l.length) : l.Perm (swp l i j) := by
 have := List.set_set_perm hi hj
 rw [swp, List.getD_eq_getElem?_getD, List.getD_eq_getElem?_getD, List.getElem?_eq_getElem hi, List.getElem?_eq_getElem hj]
 exact this.symm
theorem SegP.swp {a b : Nat} {l : List Int} {i j : Nat} (hi : a <= i /\ i < b) (hj : a <= j /\ j < b) (hb : b <= l.length) : SegP a b l (swp l i j) := by
 refine ⟨eA _ _ _, oG (by omega) (by omega), fun x hx => ?_⟩
 rw [Go.Rip.swp, List.getElem?_set_ne (by omega), List.getElem?_set_ne (by omega)]
theorem h241 (x : Int) : Pure (PC GL) 241 [.i x] (.b false) := by
 refine k241.pure (by simp) (by simp [go_sem]) (by simp [go_sem]) ?_
 simp -implicitDefEqProofs only [c241, r241, go_sem]
 have e : (x != x) = false := by simp
 simp -implicitDefEqProofs only [go_sem, e]
 refine aD ?_ ?_ <;> simp [go_sem]
theorem bnd {i n : Nat} (h : i < n) : bounds (i : Int) n = True := by simp [bounds, h]
theorem aY (n : Nat) : n.ble n = true := by simp
theorem dP {l : List Int} {i j : Nat} (hi : i < l.length) (hj : j < l.length) (x : Nat) : (swp l i j).getD x 0 = if x = j then l.getD i 0 else if x = i then l.getD j 0 else l.getD x 0 := by
 simp only [swp, List.getD_eq_getElem?_getD, List.getElem?_set]
 by_cases h1 : x = j
 ·subst h1; simp [hj]
 ·rw [if_neg (fun e => h1 e.symm), if_neg h1]
  by_cases h2 : x = i
  ·subst h2; simp [hi]
  ·rw [if_neg (fun e => h2 e.symm), if_neg h2]
def Srt (a b : Nat) (l : List Int) : Prop := ∀ p q, a <= p -> p < q -> q < b -> l.getD p 0 <= l.getD q 0
def SrtBut (a b j : Nat) (l : List Int) : Prop := ∀ p q, a <= p -> p < q -> q < b -> q ≠ j -> l.getD p 0 <= l.getD q 0
theorem SrtBut.swp {a b j : Nat} {l : List Int} (h : SrtBut a b j l) (hj : a < j) (hjb : j < b) (hb : b <= l.length) (hlt : l.getD j 0 < l.getD (j - 1) 0) : SrtBut a b (j - 1) (swp l j (j - 1)) := by
 intro p q hp hpq hq hne
 have g := dP (l := l) (i := j) (j := j - 1) (by omega) (by omega)
 rw [g p, g q]
 have n1 : ¬ q = j - 1 := hne
 rw [if_neg n1]
 by_cases q1 : q = j
 ·rw [if_pos q1]
  by_cases p1 : p = j - 1
  ·rw [if_pos p1]; omega
  ·rw [if_neg p1, if_neg (by omega)]
   exact h p (j - 1) hp (by omega) (by omega) (by omega)
 ·rw [if_neg q1]
  by_cases p1 : p = j - 1
  ·rw [if_pos p1]
   exact h j q (by omega) (by omega) hq q1
  ·rw [if_neg p1]
   by_cases p2 : p = j
   ·rw [if_pos p2]
    exact h (j - 1) q (by omega) (by omega) hq q1
   ·rw [if_neg p2]
    exact h p q hp hpq hq q1
theorem SrtBut.all {a b j : Nat} {l : List Int} (h : SrtBut a b j l) (hj : a < j -> ¬ l.getD j 0 < l.getD (j - 1) 0) : Srt a b l := by
 intro p q hp hpq hq
 by_cases hq1 : q = j
 ·subst hq1
  have h1 := hj (by omega)
  by_cases p1 : p = q - 1
  ·subst p1; omega
  ·have := h p (q - 1) hp (by omega) (by omega) (by omega)
   omega
 ·exact h p q hp hpq hq hq1
theorem Srt.next {a i : Nat} {l : List Int} (h : Srt a i l) : SrtBut a (i + 1) i l := fun p q hp hpq hq hne => h p q hp hpq (by omega)
def Kid (i c : Nat) : Prop := c = 2 * i + 1 ∨ c = 2 * i + 2
def Heap (lo hi f : Nat) (l : List Int) : Prop := ∀ i c, lo <= i -> Kid i c -> c < hi -> l.getD (f + c) 0 <= l.getD (f + i) 0
def HeapBut (lo hi f r : Nat) (l : List Int) : Prop := (∀ i c, lo <= i -> i ≠ r -> Kid i c -> c < hi -> l.getD (f + c) 0 <= l.getD (f + i) 0) /\ ∀ p c, lo <= p -> Kid p r -> Kid r c -> c < hi -> l.getD (f + c) 0 <= l.getD (f + p) 0
theorem HeapBut.start {lo hi f : Nat} {l : List Int} (h : Heap (lo + 1) hi f l) : HeapBut lo hi f lo l :=
 ⟨fun i c h1 h2 h3 h4 => h i c (by omega) h3 h4, fun p c h1 h2 _ _ => by unfold Kid at h2; omega⟩
theorem HeapBut.done {lo hi f r : Nat} {l : List Int} (h : HeapBut lo hi f r l) (hr : ∀ c, Kid r c -> c < hi -> l.getD (f + c) 0 <= l.getD (f + r) 0) : Heap lo hi f l := fun i c h1 h2 h3 => by
 by_cases e : i = r
 ·subst e; exact hr c h2 h3
 ·exact h.1 i c h1 e h2 h3
theorem HeapBut.step {lo hi f r m : Nat} {l : List Int} (h : HeapBut lo hi f r l) (hr : lo <= r) (hm : Kid r m) (hmi : m < hi) (hb : f + hi <= l.length) (hlt : l.getD (f + r) 0 < l.getD (f + m) 0) (hmax : ∀ c, Kid r c -> c < hi -> l.getD (f + c) 0 <= l.getD (f + m) 0) :
  HeapBut lo hi f m (swp l (f + r) (f + m)) := by
 have hrm : r < m := by unfold Kid at hm; omega
 have g := dP (l := l) (i := f + r) (j := f + m) (by omega) (by omega)
 have gr : (swp l (f + r) (f + m)).getD (f + r) 0 = l.getD (f + m) 0 := by rw [g, if_neg (by omega), if_pos rfl]
 have gm : (swp l (f + r) (f + m)).getD (f + m) 0 = l.getD (f + r) 0 := by rw [g, if_pos rfl]
 have go : ∀ x, x ≠ r -> x ≠ m -> (swp l (f + r) (f + m)).getD (f + x) 0 = l.getD (f + x) 0 := fun x h1 h2 => by rw [g, if_neg (by omega), if_neg (by omega)]
 refine ⟨fun i c h1 h2 h3 h4 => ?_, fun p c h1 h2 h3 h4 => ?_⟩
 ·by_cases ei : i = r
  ·subst ei
   rw [gr]
   by_cases ec : c = m
   ·subst ec; rw [gm]; omega
   ·rw [go c (by unfold Kid at h3; omega) ec]
    exact hmax c h3 h4
  ·rw [go i ei h2]
   by_cases ec : c = r
   ·subst ec; rw [gr]; exact h.2 i m h1 h3 hm hmi
   ·have ec2 : c ≠ m := by unfold Kid at h3 hm; omega
    rw [go c ec ec2]
    exact h.1 i c h1 ei h3 h4
 ·have ep : p = r := by unfold Kid at h2 hm; omega
  subst ep
  rw [gr, go c (by unfold Kid at h3; omega) (by unfold Kid at h3; omega)]
  exact h.1 m c (by omega) (by omega) h3 h4
theorem heap_max {hi f : Nat} {l : List Int} (h : Heap 0 hi f l) : ∀ i, i < hi -> l.getD (f + i) 0 <= l.getD f 0 := by
 intro i
 induction i using Nat.strongRecOn with
 | _ i ih =>
 intro hi'
 by_cases e : i = 0
 ·subst e; simp
 ·have h1 := h ((i - 1) / 2) i (by omega) (by unfold Kid; omega) hi'
  have h2 := ih ((i - 1) / 2) (by omega) (by omega)
  omega
theorem SegP.mem {a b : Nat} {l l' : List Int} (h : SegP a b l l') (hb : b <= l.length) {x : Nat} (hx : a <= x /\ x < b) : ∃ y, (a <= y /\ y < b) /\ l'.getD x 0 = l.getD y 0 := by
 obtain ⟨h1, h2, h3⟩ := h
 have e1 : l'.take a = l.take a := List.ext_getElem? fun i => by
  rw [List.getElem?_take, List.getElem?_take]
  split
  ·exact h3 i (by omega)
  ·rfl
 have e2 : l'.drop b = l.drop b := List.ext_getElem? fun i => by
  rw [List.getElem?_drop, List.getElem?_drop]
  exact h3 _ (by omega)
 have split3 : ∀ m : List Int, m = m.take a ++ ((m.drop a).take (b - a) ++ m.drop b) := fun m => by
  rw [show m.drop b = (m.drop a).drop (b - a) by rw [List.drop_drop]; congr 1; omega, List.take_append_drop, List.take_append_drop]
 have hp : ((l.drop a).take (b - a)).Perm ((l'.drop a).take (b - a)) := by
  rw [split3 l, split3 l', e1, e2] at h2
  exact (List.perm_append_right_iff _).1 ((List.perm_append_left_iff _).1 h2)
 have hm : l'.getD x 0 ∈ (l'.drop a).take (b - a) := by
  rw [List.getD_eq_getElem?_getD, List.getElem?_eq_getElem (by omega : x < l'.length)]
  refine List.mem_take_iff_getElem.2 ⟨x - a, by simp; omega, ?_⟩
  rw [List.getElem_drop]
  simp only [Option.getD_some]
  congr 1; omega
 obtain ⟨i, hi, he⟩ := List.mem_take_iff_getElem.1 (hp.mem_iff.2 hm)
 simp only [List.length_drop] at hi
 refine ⟨a + i, by omega, ?_⟩
 rw [<- he, List.getElem_drop, List.getD_eq_getElem?_getD, List.getElem?_eq_getElem (by omega : a + i < l.length)]
 rfl
theorem SegP.same {a b : Nat} {l l' : List Int} (h : SegP a b l l') {x : Nat} (hx : x < a ∨ b <= x) : l'.getD x 0 = l.getD x 0 := by
 rw [List.getD_eq_getElem?_getD, List.getD_eq_getElem?_getD, h.2.2 x hx]
def Popped (n hi f : Nat) (l : List Int) : Prop := Heap 0 n f l /\ Srt (f + n) (f + hi) l /\ ∀ x y, x < n -> n <= y -> y < hi -> l.getD (f + x) 0 <= l.getD (f + y) 0
theorem Heap.swp {i f : Nat} {l : List Int} (h : Heap 0 (i + 1) f l) (hb : f + i < l.length) : Heap 1 i f (swp l f (f + i)) := fun j c h1 h2 h3 => by
 have g := dP (l := l) (i := f) (j := f + i) (by omega) hb
 have : j < c := by unfold Kid at h2; omega
 rw [g, g, if_neg (by omega), if_neg (by omega), if_neg (by omega), if_neg (by omega)]
 exact h j c (by omega) h2 (by omega)
theorem Popped.step {i hi f : Nat} {l l2 : List Int} (h : Popped (i + 1) hi f l) (hi1 : i < hi) (hb : f + hi <= l.length) (hs : SegP f (f + i) (swp l f (f + i)) l2) (hh : Heap 0 i f l2) : Popped i hi f l2 := by
 obtain ⟨h1, h2, h3⟩ := h
 have g := dP (l := l) (i := f) (j := f + i) (by omega) (by omega)
 have mx := heap_max h1
 have ei : l2.getD (f + i) 0 = l.getD f 0 := by rw [hs.same (by omega), g, if_pos rfl]
 have ey : ∀ y, i < y -> l2.getD (f + y) 0 = l.getD (f + y) 0 := fun y hy => by rw [hs.same (by omega), g, if_neg (by omega), if_neg (by omega)]
 have ex : ∀ x, x < i -> ∃ z, z <= i /\ l2.getD (f + x) 0 = l.getD (f + z) 0 := fun x hx => by
  obtain ⟨y, hy, e⟩ := hs.mem (by rw [eA]; omega) (x := f + x) (by omega)
  rw [e, g, if_neg (by omega)]
  by_cases hyf : y = f
  ·rw [if_pos hyf]; exact ⟨i, Nat.le_refl _, rfl⟩
  ·rw [if_neg hyf]; exact ⟨y - f, by omega, by congr 1; omega⟩
 have lei : ∀ y, i < y -> y < hi -> l.getD f 0 <= l.getD (f + y) 0 := fun y hy1 hy2 => by have := h3 0 y (by omega) (by omega) hy2; simpa using this
 refine ⟨hh, fun p q hp hpq hq => ?_, fun x y hx hy hyh => ?_⟩
 ·obtain ⟨p', rfl⟩ : ∃ p', p = f + p' := ⟨p - f, by omega⟩
  obtain ⟨q', rfl⟩ : ∃ q', q = f + q' := ⟨q - f, by omega⟩
  rw [ey q' (by omega)]
  by_cases e : p' = i
  ·subst e; rw [ei]; exact lei q' (by omega) (by omega)
  ·rw [ey p' (by omega)]; exact h2 _ _ (by omega) hpq hq
 ·obtain ⟨z, hz, e⟩ := ex x hx
  rw [e]
  by_cases e2 : y = i
  ·subst e2; rw [ei]; exact mx z (by omega)
  ·rw [ey y (by omega)]; exact h3 z y (by omega) (by omega) hyh
theorem nn13 : ((13 : Int) < 0) = False := by decide
theorem nn7 : ((7 : Int) < 0) = False := by decide
theorem nn17 : ((17 : Int) < 0) = False := by decide
theorem nn16 : ((16 : Int) < 0) = False := by decide
theorem nn8 : ((8 : Int) < 0) = False := by decide
theorem h305 (c : Nat) (T : TypeId) (r : Int) (h : List AObj) (hc : h[c]? = some (.cells T [.v (.int .u64 r)])) :
  Gives (PC GL) 305 [.ref c 0] h fun x h' => ∃ r', x = .v (.int .u64 r') /\ h'[c]? = some (.cells T [.v (.int .u64 r')]) /\ Keep (fun i _ => i = c) h h' := by
 refine k305.gives (by simp) ?_
 simp -implicitDefEqProofs only [go_sem, c305, r305, hc, aL hc, List.set_set, shiftBin, nn13, nn7, nn17, if_false, if_true]
 exact aS (by simp) ⟨_, rfl, aL hc, Keep.set _ hc rfl⟩
theorem u64w (n : Nat) (h : n < 2 ^ 64) : IntKind.u64.wrap (n : Int) = (n : Int) := by
 simp [IntKind.wrap, IntKind.signed, IntKind.bits]; omega
theorem u8w (n : Nat) (h : n < 256) : IntKind.u8.wrap (n : Int) = (n : Int) := by
 simp [IntKind.wrap, IntKind.signed, IntKind.bits]; omega
def len8 : List UInt8 := [0, 1, 2, 2, 3, 3, 3, 3] ++ List.replicate 8 4 ++ List.replicate 16 5 ++ List.replicate 32 6 ++ List.replicate 64 7 ++ List.replicate 128 8
theorem rB : ∀ x, x < 256 -> 0 < x -> x < 2 ^ (len8.getD x 0).toNat /\ 2 ^ (len8.getD x 0).toNat <= 2 * x := by decide +kernel
theorem oW : [0, 1, 2, 2, 3, 3, 3, 3, 4, 4, 4, 4, 4, 4, 4, 4, 5, 5, 5, 5, 5, 5, 5, 5, 5, 5, 5, 5, 5, 5, 5, 5, 6, 6, 6, 6, 6, 6, 6, 6, 6, 6, 6, 6, 6, 6, 6, 6, 6, 6, 6, 6, 6, 6, 6, 6, 6, 6, 6, 6, 6, 6, 6, 6, 7, 7, 7, 7, 7, 7, 7, 7, 7, 7, 7, 7, 7, 7, 7, 7, 7, 7, 7, 7, 7, 7, 7, 7, 7, 7, 7, 7, 7, 7, 7, 7, 7, 7, 7, 7, 7, 7, 7, 7, 7, 7, 7, 7, 7, 7, 7, 7, 7, 7, 7, 7, 7, 7, 7, 7, 7, 7, 7, 7, 7, 7, 7, 7, 8, 8, 8, 8, 8, 8, 8, 8, 8, 8, 8, 8, 8, 8, 8, 8, 8, 8, 8, 8, 8, 8, 8, 8, 8, 8, 8, 8, 8, 8, 8, 8, 8, 8, 8, 8, 8, 8, 8, 8, 8, 8, 8, 8, 8, 8, 8, 8, 8, 8, 8, 8, 8, 8, 8, 8, 8, 8, 8, 8, 8, 8, 8, 8, 8, 8, 8, 8, 8, 8, 8, 8, 8, 8, 8, 8, 8, 8, 8, 8, 8, 8, 8, 8, 8, 8, 8, 8, 8, 8, 8, 8, 8, 8, 8, 8, 8, 8, 8, 8, 8, 8, 8, 8, 8, 8, 8, 8, 8, 8, 8, 8, 8, 8, 8, 8, 8, 8, 8, 8, 8, 8, 8, 8, 8, 8, 8, 8] = len8 := rfl
theorem uR : len8.length = 256 := rfl
theorem len_up {x t : Nat} (s : Nat) (h : x / 2 ^ s < 2 ^ t /\ 2 ^ t <= 2 * (x / 2 ^ s)) : x < 2 ^ (s + t) /\ 2 ^ (s + t) <= 2 * x := by
 rw [Nat.pow_add]
 have h1 : 2 ^ s * (x / 2 ^ s) <= x := Nat.mul_div_le _ _
 refine ⟨?_, ?_⟩
 ·have := (Nat.div_lt_iff_lt_mul (Nat.two_pow_pos s)).1 h.1
  rwa [Nat.mul_comm] at this
 ·calc 2 ^ s * 2 ^ t <= 2 ^ s * (2 * (x / 2 ^ s)) := Nat.mul_le_mul_left _ h.2
   _ = 2 * (2 ^ s * (x / 2 ^ s)) := by rw [Nat.mul_left_comm]
   _ <= 2 * x := by omega
theorem h272 (x : Nat) (hx : 0 < x /\ x < 2 ^ 24) : ∃ r : Nat, (x < 2 ^ r /\ 2 ^ r <= 2 * x) /\ Pure (PC GL) 272 [.v (.int .u64 x)] (.i r) := by
 have d32 : decide ((x : Int) >= 4294967296) = false := decide_eq_false (by omega)
 have tl : ∀ y, y < 256 -> (len8.getD y 0).toNat <= 255 := fun y _ => by have := (len8.getD y 0).toNat_lt; omega
 have b8 : ∀ y : Nat, y < 256 -> bounds (y : Int) len8.length = True := fun y hy => bnd (by rw [uR]; exact hy)
 have wi : ∀ n : Nat, n <= 255 -> IntKind.i64.wrap (n : Int) = (n : Int) := fun n hn => aF _ (by omega)
 by_cases h16 : x >= 65536
 ·have d16 : decide ((x : Int) >= 65536) = true := decide_eq_true (by omega)
  have f1 : ((x : Int)).fdiv (2 ^ min (Int.toNat 16) 64) = ((x / 65536 : Nat) : Int) := by
   rw [show min (Int.toNat 16) 64 = 16 from rfl, Int.fdiv_eq_ediv_of_nonneg _ (by decide)]; omega
  have d8 : decide (((x / 65536 : Nat) : Int) >= 256) = false := decide_eq_false (by omega)
  have hy : x / 65536 < 256 := by omega
  have hlen := rB (x / 65536) hy (by omega)
  have ht := tl _ hy
  have w8 := u8w _ hy
  have b := b8 _ hy
  generalize hT : (len8.getD (x / 65536) 0).toNat = T at *
  refine ⟨16 + T, len_up 16 hlen, ?_⟩
  refine k272.pure (by simp) (by simp [go_sem]) (by simp [go_sem]) ?_
  simp -implicitDefEqProofs only [c272, r272, go_sem]
  simp -implicitDefEqProofs only [go_sem, d32, d16, shiftBin, nn16, if_false, f1, d8, oW, w8, b, Int.toNat_natCast, true_and, hT, wi T ht]
  have wz : IntKind.i64.wrap (IntKind.i64.wrap (0 + 16) + (T : Int)) = ((16 + T : Nat) : Int) := by rw [aF (0 + 16) (by omega), aF _ (by omega)]; omega
  rw [wz]
  refine aD ?_ ?_ <;> simp [go_sem]
 have d16 : decide ((x : Int) >= 65536) = false := decide_eq_false (by omega)
 by_cases h8 : x >= 256
 ·have d8 : decide ((x : Int) >= 256) = true := decide_eq_true (by omega)
  have f1 : ((x : Int)).fdiv (2 ^ min (Int.toNat 8) 64) = ((x / 256 : Nat) : Int) := by
   rw [show min (Int.toNat 8) 64 = 8 from rfl, Int.fdiv_eq_ediv_of_nonneg _ (by decide)]; omega
  have hy : x / 256 < 256 := by omega
  have hlen := rB (x / 256) hy (by omega)
  have ht := tl _ hy
  have w8 := u8w _ hy
  have b := b8 _ hy
  generalize hT : (len8.getD (x / 256) 0).toNat = T at *
  refine ⟨8 + T, len_up 8 hlen, ?_⟩
  refine k272.pure (by simp) (by simp [go_sem]) (by simp [go_sem]) ?_
  simp -implicitDefEqProofs only [c272, r272, go_sem]
  simp -implicitDefEqProofs only [go_sem, d32, d16, shiftBin, nn8, if_false, f1, d8, oW, w8, b, Int.toNat_natCast, true_and, hT, wi T ht]
  have wz : IntKind.i64.wrap (IntKind.i64.wrap (0 + 8) + (T : Int)) = ((8 + T : Nat) : Int) := by rw [aF (0 + 8) (by omega), aF _ (by omega)]; omega
  rw [wz]
  refine aD ?_ ?_ <;> simp [go_sem]
 have d8 : decide ((x : Int) >= 256) = false := decide_eq_false (by omega)
 have hlen := rB x (by omega) hx.1
 have ht := tl x (by omega)
 have w8 := u8w x (by omega)
 have b := b8 x (by omega)
 generalize hT : (len8.getD x 0).toNat = T at *
 refine ⟨T, hlen, ?_⟩
 refine k272.pure (by simp) (by simp [go_sem]) (by simp [go_sem]) ?_
 simp -implicitDefEqProofs only [c272, r272, go_sem]
 simp -implicitDefEqProofs only [go_sem, d32, d16, d8, oW, w8, b, Int.toNat_natCast, true_and, hT, wi T ht]
 have wz : IntKind.i64.wrap (0 + (T : Int)) = (T : Int) := by rw [aF _ (by omega)]; omega
 rw [wz]
 refine aD ?_ ?_ <;> simp [go_sem]
theorem h239 (x : Nat) (hx : 0 < x /\ x < 2 ^ 24) : ∃ r : Nat, (x < 2 ^ r /\ 2 ^ r <= 2 * x) /\ Pure (PC GL) 239 [.v (.int .u64 x)] (.i r) := by
 obtain ⟨r, h1, h2⟩ := h272 (GL := GL) x hx
 refine ⟨r, h1, ?_⟩
 refine k239.pure (by simp) (by simp [go_sem]) (by simp [go_sem]) ?_
 simp -implicitDefEqProofs only [c239, r239, go_sem]
 refine aC hC h2 ?_
 simp -implicitDefEqProofs only [go_sem]
 refine aD ?_ ?_ <;> simp [go_sem]
theorem h304 (x : Nat) (hx : 0 < x /\ x < 2 ^ 24) : ∃ m : Nat, (0 < m /\ m <= 2 * x) /\ Pure (PC GL) 304 [.i x] (.v (.int .u64 m)) := by
 obtain ⟨r, h1, h2⟩ := h239 (GL := GL) x hx
 have hr : r < 64 := by
  by_cases h : r < 64
  ·exact h
  ·have : 2 ^ 64 <= 2 ^ r := Nat.pow_le_pow_right (by omega) (by omega)
   omega
 refine ⟨2 ^ r, ⟨Nat.two_pow_pos r, h1.2⟩, ?_⟩
 have w1 := u64w x (by omega)
 have w2 : IntKind.u64.wrap (1 * 2 ^ min ((r : Int)).toNat 64) = ((2 ^ r : Nat) : Int) := by
  rw [Int.toNat_natCast, Nat.min_eq_left (by omega), Int.one_mul, show ((2 : Int) ^ r) = ((2 ^ r : Nat) : Int) by rw [Int.natCast_pow]; rfl]
  exact u64w _ (by omega)
 have w3 := w2
 rw [Int.toNat_natCast] at w3
 have nr : ((r : Int) < 0) = False := by simp
 refine k304.pure (by simp) (by simp [go_sem]) (by simp [go_sem]) ?_
 simp -implicitDefEqProofs only [c304, r304, go_sem]
 simp -implicitDefEqProofs only [go_sem, w1]
 refine aC hC h2 ?_
 simp -implicitDefEqProofs only [go_sem, shiftBin, nr, if_false, w3]
 refine aD ?_ ?_ <;> simp [go_sem]
theorem and_le (r : Int) (m : Nat) : (BitVec.ofInt 64 r &&& BitVec.ofInt 64 (m : Int)).toNat <= m := by
 rw [BitVec.toNat_and]
 refine Nat.le_trans Nat.and_le_right ?_
 rw [BitVec.toNat_ofInt]
 have : ((m : Int) % ((2 ^ 64 : Nat) : Int)).toNat = m % 2 ^ 64 := by omega
 rw [this]
 exact Nat.mod_le _ _
end Go.Rip
