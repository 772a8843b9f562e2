/- Numbers are sorted: what is moved stays within the bounds. -/
import Derived.Test.YtndcajdameofjaaGreatDoorRipAY
import Derived.Test.YtndcajdameofjaaGreatDoorRipAL
import Derived.Test.YtndcajdameofjaaGreatDoorRipAI
namespace Go.Rip
open Go
set_option maxRecDepth 100000
variable {GL : Glob}
def SegP (a b : Nat) (l l' : List Int) : Prop := l'.length = l.length /\ l.Perm l' /\ ∀ i, (i < a ∨ b <= i) -> l'[i]? = l[i]?
theorem SegP.refl (a b : Nat) (l : List Int) : SegP a b l l := ⟨rfl, List.Perm.refl _, fun _ _ => rfl⟩
theorem SegP.trans {a b : Nat} {l l' l'' : List Int} (h : SegP a b l l') (k : SegP a b l' l'') : SegP a b l l'' := ⟨k.1.trans h.1, h.2.1.trans k.2.1, fun i hi => (k.2.2 i hi).trans (h.2.2 i hi)⟩
theorem SegP.mono {a b a' b' : Nat} {l l' : List Int} (h : SegP a b l l') (ha : a' <= a) (hb : b <= b') : SegP a' b' l l' := ⟨h.1, h.2.1, fun i hi => h.2.2 i (by omega)⟩
def swp (l : List Int) (i j : Nat) : List Int := (l.set i (l.getD j 0)).set j (l.getD i 0)
theorem swp_length (l : List Int) (i j : Nat) : (swp l i j).length = l.length := by simp [swp]
theorem swp_perm {l : List Int} {i j : Nat} (hi : i < l.length) (hj : j < l.length) : l.Perm (swp l i j) := by
 have := List.set_set_perm hi hj
 rw [swp, List.getD_eq_getElem?_getD, List.getD_eq_getElem?_getD, List.getElem?_eq_getElem hi, List.getElem?_eq_getElem hj]
 exact this.symm
theorem SegP.swp {a b : Nat} {l : List Int} {i j : Nat} (hi : a <= i /\ i < b) (hj : a <= j /\ j < b) (hb : b <= l.length) : SegP a b l (swp l i j) := by
 refine ⟨swp_length _ _ _, swp_perm (by omega) (by omega), fun x hx => ?_⟩
 rw [Go.Rip.swp, List.getElem?_set_ne (by omega), List.getElem?_set_ne (by omega)]
theorem h241 (x : Int) : Pure (PC GL) 241 [.i x] (.b false) := by
 refine k241.pure (by simp) (by simp [go_sem]) (by simp [go_sem]) ?_
 simp -implicitDefEqProofs only [c241, r241, go_sem]
 have e : (x != x) = false := by simp
 simp -implicitDefEqProofs only [go_sem, e]
 refine aF ?_ ?_ <;> simp [go_sem]
theorem h298 (x y : Int) : Pure (PC GL) 298 [.i x, .i y] (.b (decide (x < y))) := by
 refine k298.pure (by simp) (by simp [go_sem]) (by simp [go_sem]) ?_
 simp -implicitDefEqProofs only [c298, r298, go_sem]
 refine aC hC (h241 x) ?_
 simp -implicitDefEqProofs only [go_sem, Bool.not_false]
 refine aF ?_ ?_ <;> simp [go_sem]
theorem aI {l : List Int} {i : Nat} (hi : i < l.length) : (l.map encI)[i]? = some (.v (.int .i64 (l.getD i 0))) := by simp [List.getElem?_map, List.getElem?_eq_getElem hi, encI, List.getD]
theorem bnd {i n : Nat} (h : i < n) : bounds (i : Int) n = True := by simp [bounds, h]
theorem aO (n : Nat) : n.ble n = true := by simp
theorem aP (l : List Int) : (l.map encI).take l.length = l.map encI := List.take_of_length_le (by simp)
theorem bU (l : List Int) (i j : Nat) : ((l.map encI).set i (.v (.int .i64 (l.getD j 0)))).set j (.v (.int .i64 (l.getD i 0))) = (swp l i j).map encI := by simp [swp, List.map_set, encI]
theorem bD (l : List Int) (i : Nat) (x : AV) : ((l.map encI).set i x).take l.length = (l.map encI).set i x := List.take_of_length_le (by simp)
theorem bJ {l : List Int} {i j : Nat} (hj : j < l.length) (x : Int) : ((l.map encI).set i (.v (.int .i64 x)))[j]? = some (.v (.int .i64 ((l.set i x).getD j 0))) := by
 rw [show AV.v (.int .i64 x) = encI x from rfl, <- List.map_set, List.getElem?_map, List.getElem?_eq_getElem (by simpa using hj)]
 simp [encI, List.getD, hj]
theorem dH {l : List Int} {i j : Nat} (hi : i < l.length) (hj : j < l.length) (x : Nat) : (swp l i j).getD x 0 = if x = j then l.getD i 0 else if x = i then l.getD j 0 else l.getD x 0 := by
 simp only [swp, List.getD_eq_getElem?_getD, List.getElem?_set]
 by_cases h1 : x = j
 ·subst h1; simp [hj]
 ·rw [if_neg (fun e => h1 e.symm), if_neg h1]
  by_cases h2 : x = i
  ·subst h2; simp [hi]
  ·rw [if_neg (fun e => h2 e.symm), if_neg h2]
def Srt (a b : Nat) (l : List Int) : Prop := ∀ p q, a <= p -> p < q -> q < b -> l.getD p 0 <= l.getD q 0
def SrtBut (a b j : Nat) (l : List Int) : Prop := ∀ p q, a <= p -> p < q -> q < b -> q ≠ j -> l.getD p 0 <= l.getD q 0
theorem SrtBut.swp {a b j : Nat} {l : List Int} (h : SrtBut a b j l) (hj : a < j) (hjb : j < b) (hb : b <= l.length) (hlt : l.getD j 0 < l.getD (j - 1) 0) : SrtBut a b (j - 1) (swp l j (j - 1)) := by
 intro p q hp hpq hq hne
 have g := dH (l := l) (i := j) (j := j - 1) (by omega) (by omega)
 rw [g p, g q]
 have n1 : ¬ q = j - 1 := hne
 rw [if_neg n1]
 by_cases q1 : q = j
 ·rw [if_pos q1]
  by_cases p1 : p = j - 1
  ·rw [if_pos p1]; omega
  ·rw [if_neg p1, if_neg (by omega)]
   exact h p (j - 1) hp (by omega) (by omega) (by omega)
 ·rw [if_neg q1]
  by_cases p1 : p = j - 1
  ·rw [if_pos p1]
   exact h j q (by omega) (by omega) hq q1
  ·rw [if_neg p1]
   by_cases p2 : p = j
   ·rw [if_pos p2]
    exact h (j - 1) q (by omega) (by omega) hq q1
   ·rw [if_neg p2]
    exact h p q hp hpq hq q1
theorem SrtBut.all {a b j : Nat} {l : List Int} (h : SrtBut a b j l) (hj : a < j -> ¬ l.getD j 0 < l.getD (j - 1) 0) : Srt a b l := by
 intro p q hp hpq hq
 by_cases hq1 : q = j
 ·subst hq1
  have h1 := hj (by omega)
  by_cases p1 : p = q - 1
  ·subst p1; omega
  ·have := h p (q - 1) hp (by omega) (by omega) (by omega)
   omega
 ·exact h p q hp hpq hq hq1
theorem Srt.next {a i : Nat} {l : List Int} (h : Srt a i l) : SrtBut a (i + 1) i l := fun p q hp hpq hq hne => h p q hp hpq (by omega)
theorem h292 (l0 : List Int) (a b : Nat) (hb : b <= l0.length) (hl : l0.length < 2 ^ 40) (k : Nat) (h : List AObj) (hk : h[k]? = some (.buf 3 1 (l0.map encI))) (ha : a < 2 ^ 40) :
  Gives (PC GL) 292 [.vec k 1 l0.length, .i a, .i b] h fun _ h' => ∃ l', SegP a b l0 l' /\ Srt a b l' /\ h'[k]? = some (.buf 3 1 (l'.map encI)) /\ Keep (fun i _ => i = k) h h' := by
 have w1 : IntKind.i64.wrap ((a : Int) + 1) = ((a + 1 : Nat) : Int) := by rw [aD _ (by omega)]; simp
 refine k292.gives (by simp) ?_
 simp -implicitDefEqProofs only [go_sem, c292, r292, w1]
 refine bB hC (fun t (_ : List Int) => [(6, .i ((a + 1 + t : Nat) : Int)), (0, .vec k 1 l0.length), (1, .i a), (2, .i b)]) (fun t l h' => SegP a b l0 l /\ h'[k]? = some (.buf 3 1 (l.map encI)) /\ Keep (fun i _ => i = k) h h' /\ Srt a (a + 1 + t) l) (b - (a + 1)) ⟨l0, h, Wk.pick (Nat.le_refl _) (by simp [go_sem]), SegP.refl _ _ _, hk, Keep.refl _ _, fun p q _ _ _ => by omega⟩ fun t l h1 ht ⟨g1, g2, g3, g4⟩ => ?_
 simp -implicitDefEqProofs only [go_sem]
 refine aJ (fun hlt => ?_) (fun hlt => ?_)
 ·have hlt : a + 1 + t < b := by have := of_decide_eq_true hlt; omega
  simp -implicitDefEqProofs only [go_sem]
  refine bB hC (fun u (_ : List Int) => [(7, .i ((a + 1 + t - u : Nat) : Int)), (6, .i ((a + 1 + t : Nat) : Int)), (0, .vec k 1 l0.length), (1, .i a), (2, .i b)]) (fun u l h' => SegP a b l0 l /\ h'[k]? = some (.buf 3 1 (l.map encI)) /\ Keep (fun i _ => i = k) h h' /\ SrtBut a (a + 1 + t + 1) (a + 1 + t - u) l) (1 + t) ⟨l, h1, Wk.pick g3.1 (by simp [go_sem]), g1, g2, g3, g4.next⟩ fun u l h2 hu ⟨g1, g2, g3, g4⟩ => ?_
  simp -implicitDefEqProofs only [go_sem]
  have hlen : l0.length = l.length := g1.1.symm
  have hjb : a + 1 + t - u < l.length := by omega
  have hju : a + 1 + t - (u + 1) = a + 1 + t - u - 1 := by omega
  have hji : a + 1 + t - u < a + 1 + t + 1 := by omega
  have w3 : IntKind.i64.wrap (((a + 1 + t : Nat) : Int) + 1) = ((a + 1 + (t + 1) : Nat) : Int) := by rw [aD _ (by omega)]; omega
  rw [hju]
  by_cases hja : a < a + 1 + t - u
  ·have hu1 : u < 1 + t := by omega
   generalize a + 1 + t - u = j at *
   have d : decide ((j : Int) > (a : Int)) = true := decide_eq_true (by omega)
   have w2 : IntKind.i64.wrap ((j : Int) - 1) = ((j - 1 : Nat) : Int) := by rw [aD _ (by omega)]; omega
   have hj1 : j - 1 < l.length := by omega
   have e1 := aI hjb
   have e2 := aI hj1
   simp -implicitDefEqProofs only [go_sem, d, w2, g2, hlen, bnd hjb, bnd hj1, e1, e2, List.length_map, aO, Int.toNat_natCast, true_and, aP]
   refine aC hC (h298 _ _) ?_
   simp -implicitDefEqProofs only [go_sem]
   refine aJ (fun hc => ?_) (fun hc => ?_)
   ·simp -implicitDefEqProofs only [go_sem, w2, g2, bnd hjb, bnd hj1, e1, e2, aL g2, bJ hj1, List.length_map, List.length_set, aO, Int.toNat_natCast, true_and, aP, bD, List.set_set, bU]
    exact ⟨hu1, swp l j (j - 1), _, Wk.pick (by simpa using g3.1) (by simp [go_sem]), g1.trans (SegP.swp (by omega) (by omega) (by omega)), aL g2, g3.trans (Keep.set _ g2 rfl), g4.swp hja hji (by omega) (of_decide_eq_true hc)⟩
   ·simp -implicitDefEqProofs only [go_sem, w3]
    exact ⟨by omega, l, h2, Wk.pick g3.1 (by simp [go_sem]), g1, g2, g3, g4.all fun _ => of_decide_eq_false hc⟩
  ·generalize a + 1 + t - u = j at *
   have d : decide ((j : Int) > (a : Int)) = false := decide_eq_false (by omega)
   simp -implicitDefEqProofs only [go_sem, d, w3]
   exact ⟨by omega, l, h2, Wk.pick g3.1 (by simp [go_sem]), g1, g2, g3, g4.all fun h => absurd h hja⟩
 ·have hlt : ¬ (a + 1 + t < b) := fun hh => by have := of_decide_eq_false hlt; omega
  simp -implicitDefEqProofs only [go_sem]
  exact aK g3.1 ⟨l, g1, fun p q hp hpq hq => g4 p q hp hpq (by omega), g2, g3⟩
theorem h322 (l : List Int) (i j : Nat) (hi : i < l.length) (hj : j < l.length) (k c : Nat) (T : TypeId) (s : Int) (h : List AObj) (hk : h[k]? = some (.buf 3 1 (l.map encI))) (hc : h[c]? = some (.cells T [.v (.int .i64 s)])) :
  Gives (PC GL) 322 [.vec k 1 l.length, .i i, .i j, .ref c 0] h fun x h' => ∃ i' j' : Nat, x = .tup [.i i', .i j'] /\ ((i' = i /\ j' = j) ∨ (i' = j /\ j' = i)) /\ (∃ s', h'[c]? = some (.cells T [.v (.int .i64 s')])) /\ Keep (fun i _ => i = c) h h' := by
 refine k322.gives (by simp) ?_
 have e1 := aI hi
 have e2 := aI hj
 simp -implicitDefEqProofs only [go_sem, c322, r322, hk, bnd hi, bnd hj, e1, e2, List.length_map, aO, Int.toNat_natCast, true_and, aP]
 refine aC hC (h298 _ _) ?_
 simp -implicitDefEqProofs only [go_sem]
 refine aJ (fun hlt => ?_) (fun hlt => ?_)
 ·simp -implicitDefEqProofs only [go_sem, hc]
  exact aK (by simp) ⟨j, i, rfl, .inr ⟨rfl, rfl⟩, ⟨_, aL hc⟩, Keep.set _ hc rfl⟩
 ·simp -implicitDefEqProofs only [go_sem]
  exact aK (Nat.le_refl _) ⟨i, j, rfl, .inl ⟨rfl, rfl⟩, ⟨_, hc⟩, Keep.refl _ _⟩
theorem h314 (l : List Int) (i j m : Nat) (hi : i < l.length) (hj : j < l.length) (hm : m < l.length) (k c : Nat) (T : TypeId) (s : Int) (h : List AObj) (hk : h[k]? = some (.buf 3 1 (l.map encI))) (hc : h[c]? = some (.cells T [.v (.int .i64 s)])) :
  Gives (PC GL) 314 [.vec k 1 l.length, .i i, .i j, .i m, .ref c 0] h fun x h' => ∃ p : Nat, x = .i p /\ (p = i ∨ p = j ∨ p = m) /\ (∃ s', h'[c]? = some (.cells T [.v (.int .i64 s')])) /\ Keep (fun i _ => i = c) h h' := by
 have hkc : k ≠ c := by rintro rfl; rw [hk] at hc; cases hc
 refine k314.gives (by simp) ?_
 simp -implicitDefEqProofs only [go_sem, c314, r314]
 refine aH hC (h322 l i j hi hj k c T s h hk hc) fun x h1 ⟨i1, j1, hx, q, ⟨s1, c1⟩, k1⟩ => ?_
 subst hx
 have hk1 := k1.get hk hkc
 have b1 : i1 < l.length /\ j1 < l.length := by omega
 simp -implicitDefEqProofs only [go_sem]
 refine aH hC (h322 l j1 m b1.2 hm k c T s1 h1 hk1 c1) fun x h2 ⟨j2, m2, hx, q2, ⟨s2, c2⟩, k2⟩ => ?_
 subst hx
 have hk2 := k2.get hk1 hkc
 have b2 : j2 < l.length := by omega
 simp -implicitDefEqProofs only [go_sem]
 refine aH hC (h322 l i1 j2 b1.1 b2 k c T s2 h2 hk2 c2) fun x h3 ⟨i3, j3, hx, q3, ⟨s3, c3⟩, k3⟩ => ?_
 subst hx
 simp -implicitDefEqProofs only [go_sem]
 have kk := (k1.trans k2).trans k3
 refine aK kk.1 ⟨j3, rfl, ?_, ⟨s3, c3⟩, kk⟩
 omega
theorem h313 (l : List Int) (i : Nat) (hi : 0 < i /\ i + 1 < l.length) (hl : l.length < 2 ^ 40) (k c : Nat) (T : TypeId) (s : Int) (h : List AObj) (hk : h[k]? = some (.buf 3 1 (l.map encI))) (hc : h[c]? = some (.cells T [.v (.int .i64 s)])) :
  Gives (PC GL) 313 [.vec k 1 l.length, .i i, .ref c 0] h fun x h' => ∃ p : Nat, x = .i p /\ (i - 1 <= p /\ p <= i + 1) /\ (∃ s', h'[c]? = some (.cells T [.v (.int .i64 s')])) /\ Keep (fun i _ => i = c) h h' := by
 have w1 : IntKind.i64.wrap ((i : Int) - 1) = ((i - 1 : Nat) : Int) := by rw [aD _ (by omega)]; omega
 have w2 : IntKind.i64.wrap ((i : Int) + 1) = ((i + 1 : Nat) : Int) := by rw [aD _ (by omega)]; omega
 refine k313.gives (by simp) ?_
 simp -implicitDefEqProofs only [go_sem, c313, r313, w1, w2]
 refine aH hC (h314 l (i - 1) i (i + 1) (by omega) (by omega) (by omega) k c T s h hk hc) fun x h1 ⟨p, hx, q, c1, k1⟩ => ?_
 subst hx
 simp -implicitDefEqProofs only [go_sem]
 exact aK k1.1 ⟨p, rfl, by omega, c1, k1⟩
theorem h296 (l0 : List Int) (a b : Nat) (hab : a < b) (hb : b <= l0.length) (hl : l0.length < 2 ^ 40) (k : Nat) (h : List AObj) (hk : h[k]? = some (.buf 3 1 (l0.map encI))) :
  Gives (PC GL) 296 [.vec k 1 l0.length, .i a, .i b] h fun _ h' => ∃ l', SegP a b l0 l' /\ h'[k]? = some (.buf 3 1 (l'.map encI)) /\ Keep (fun i _ => i = k) h h' := by
 have w1 : IntKind.i64.wrap ((b : Int) - 1) = ((b - 1 - 0 : Nat) : Int) := by rw [aD _ (by omega)]; omega
 refine k296.gives (by simp) ?_
 simp -implicitDefEqProofs only [go_sem, c296, r296, w1]
 refine bB hC (fun t (_ : List Int) => [(6, .i ((a + t : Nat) : Int)), (7, .i ((b - 1 - t : Nat) : Int)), (0, .vec k 1 l0.length)]) (fun t l h' => SegP a b l0 l /\ h'[k]? = some (.buf 3 1 (l.map encI)) /\ Keep (fun i _ => i = k) h h') (b - 1 - a) ⟨l0, h, Wk.pick (Nat.le_refl _) (by simp [go_sem]), SegP.refl _ _ _, hk, Keep.refl _ _⟩ fun t l h1 ht ⟨g1, g2, g3⟩ => ?_
 simp -implicitDefEqProofs only [go_sem]
 have hlen : l0.length = l.length := g1.1.symm
 refine aJ (fun hlt => ?_) (fun hlt => ?_)
 ·have hlt : a + t < b - 1 - t := by have := of_decide_eq_true hlt; omega
  have w2 : IntKind.i64.wrap (((a + t : Nat) : Int) + 1) = ((a + (t + 1) : Nat) : Int) := by rw [aD _ (by omega)]; omega
  have w3 : IntKind.i64.wrap (((b - 1 - t : Nat) : Int) - 1) = ((b - 1 - (t + 1) : Nat) : Int) := by rw [aD _ (by omega)]; omega
  have hi : a + t < l.length := by omega
  have hj : b - 1 - t < l.length := by omega
  have ht1 : t < b - 1 - a := by omega
  have hsw := SegP.swp (l := l) (a := a) (b := b) (i := a + t) (j := b - 1 - t) (by omega) (by omega) (by omega)
  generalize hp : a + t = p at *
  generalize hq : b - 1 - t = q at *
  have e1 := aI hi
  have e2 := aI hj
  simp -implicitDefEqProofs only [go_sem, g2, hlen, bnd hi, bnd hj, e1, e2, aL g2, bJ hj, w2, w3, List.length_map, List.length_set, aO, Int.toNat_natCast, true_and, aP, bD, List.set_set, bU]
  exact ⟨ht1, swp l p q, _, Wk.pick (by simpa using g3.1) (by simp [go_sem]), g1.trans hsw, aL g2, g3.trans (Keep.set _ g2 rfl)⟩
 ·simp -implicitDefEqProofs only [go_sem]
  exact aK g3.1 ⟨l, g1, g2, g3⟩
theorem h295 (l : List Int) (a b : Nat) (hab : a + 12 < b) (hb : b <= l.length) (hl : l.length < 2 ^ 40) (k : Nat) (h : List AObj) (hk : h[k]? = some (.buf 3 1 (l.map encI))) :
  Gives (PC GL) 295 [.vec k 1 l.length, .i a, .i b] h fun x h' => ∃ (p : Nat) (z : Int), x = .tup [.i p, .i z] /\ (a <= p /\ p < b) /\ Keep All h h' := by
 obtain ⟨L, hL⟩ : ∃ L : Nat, L = b - a := ⟨_, rfl⟩
 have wL : IntKind.i64.wrap ((b : Int) - (a : Int)) = (L : Int) := by rw [aD _ (by omega)]; omega
 have wq : IntKind.i64.wrap (Int.tdiv (L : Int) 4) = ((L / 4 : Nat) : Int) := by
  rw [show Int.tdiv (L : Int) 4 = ((L / 4 : Nat) : Int) from by rw [Int.tdiv_eq_ediv_of_nonneg (by omega)]; omega]
  exact aD _ (by omega)
 have wm : ∀ n : Nat, n <= 3 -> IntKind.i64.wrap (((L / 4 : Nat) : Int) * (n : Int)) = ((L / 4 * n : Nat) : Int) := fun n hn => by
  have : L / 4 * n <= L / 4 * 3 := Nat.mul_le_mul_left _ hn
  have e : ((L / 4 : Nat) : Int) * (n : Int) = ((L / 4 * n : Nat) : Int) := by rw [Int.natCast_mul]
  rw [e]; exact aD _ (by omega)
 have wa : ∀ n : Nat, n <= 3 -> IntKind.i64.wrap ((a : Int) + ((L / 4 * n : Nat) : Int)) = ((a + L / 4 * n : Nat) : Int) := fun n hn => by
  have : L / 4 * n <= L / 4 * 3 := Nat.mul_le_mul_left _ hn
  rw [aD _ (by omega)]; omega
 have m1 := wm 1 (by omega)
 have m2 := wm 2 (by omega)
 have m3 := wm 3 (by omega)
 have a1 := wa 1 (by omega)
 have a2 := wa 2 (by omega)
 have a3 := wa 3 (by omega)
 simp only [Int.cast_ofNat_Int] at m1 m2 m3
 have d8 : decide ((L : Int) >= 8) = true := decide_eq_true (by omega)
 generalize hi1 : a + L / 4 * 1 = i1 at *
 generalize hi2 : a + L / 4 * 2 = i2 at *
 generalize hi3 : a + L / 4 * 3 = i3 at *
 refine k295.gives (by simp) ?_
 simp -implicitDefEqProofs only [go_sem, c295, r295, wL, wq, show ((4 : Int) = 0) = False from by simp, if_false]
 have bi1 : a <= i1 /\ i1 < b := by omega
 have bi2 : a <= i2 /\ i2 < b := by omega
 have bi3 : a <= i3 /\ i3 < b := by omega
 simp -implicitDefEqProofs only [go_sem, d8, m1, m2, m3, a1, a2, a3]
 have kk0 : Keep All h (h ++ [.cells 3 [.v (.int .i64 0)]]) := Keep.app _ _ _
 have hk0 : (h ++ [AObj.cells 3 [.v (.int .i64 0)]])[k]? = some (.buf 3 1 (l.map encI)) := aG hk
 have hc0 : (h ++ [AObj.cells 3 [.v (.int .i64 0)]])[h.length]? = some (.cells 3 [.v (.int .i64 0)]) := by rw [get_at]; rfl
 have hkc : k ≠ h.length := by have := aQ hk; omega
 generalize hh0 : h ++ [AObj.cells 3 [.v (.int .i64 0)]] = g0 at kk0 hk0 hc0 ⊢
 by_cases h50 : 50 <= L
 ·have d50 : decide ((L : Int) >= 50) = true := decide_eq_true (by omega)
  simp -implicitDefEqProofs only [go_sem, d50]
  refine aH hC (h313 l i1 (by omega) hl k h.length 3 0 g0 hk0 hc0) fun x g1 ⟨j1, hx, hj1, ⟨s1, c1⟩, k1⟩ => ?_
  subst hx
  have hk1 := k1.get hk0 hkc
  simp -implicitDefEqProofs only [go_sem]
  refine aH hC (h313 l i2 (by omega) hl k h.length 3 s1 g1 hk1 c1) fun x g2 ⟨j2, hx, hj2, ⟨s2, c2⟩, k2⟩ => ?_
  subst hx
  have hk2 := k2.get hk1 hkc
  simp -implicitDefEqProofs only [go_sem]
  refine aH hC (h313 l i3 (by omega) hl k h.length 3 s2 g2 hk2 c2) fun x g3 ⟨j3, hx, hj3, ⟨s3, c3⟩, k3⟩ => ?_
  subst hx
  have hk3 := k3.get hk2 hkc
  have kk3 : Keep All h g3 := kk0.trans' ((k1.trans k2).trans k3) fun i o hi e => by have := aQ hi; omega
  clear k1 k2 k3 c1 c2 hk1 hk2 kk0
  have bj1 : a <= j1 /\ j1 < b := by omega
  have bj2 : a <= j2 /\ j2 < b := by omega
  have bj3 : a <= j3 /\ j3 < b := by omega
  clear bi1 bi2 bi3 a1 a2 a3 hi1 hi2 hi3 hj1 hj2 hj3
  simp -implicitDefEqProofs only [go_sem]
  revert bj1 bj2 bj3 kk3 hk3 c3
  generalize j1 = i1; generalize j2 = i2; generalize j3 = i3; generalize g3 = h1; generalize s3 = s1
  intro hc1 hk1 kk1 bi1 bi2 bi3
  refine aH hC (h314 l i1 i2 i3 (by omega) (by omega) (by omega) k h.length 3 s1 h1 hk1 hc1) fun x h2 ⟨p, hx, hp, ⟨s2, hc2⟩, k2⟩ => ?_
  subst hx
  have kk : Keep All h h2 := kk1.trans' k2 fun i o hi e => by have := aQ hi; omega
  have hpb : a <= p /\ p < b := by omega
  simp -implicitDefEqProofs only [go_sem, hc2]
  by_cases z0 : s2 = 0
  ·have d0 : (s2 == 0) = true := by simpa using z0
   simp -implicitDefEqProofs only [go_sem, d0]
   exact aK kk.1 ⟨p, 1, rfl, hpb, kk⟩
  have d0 : (s2 == 0) = false := by simpa using z0
  by_cases z1 : s2 = 12
  ·have d1 : (s2 == 12) = true := by simpa using z1
   simp -implicitDefEqProofs only [go_sem, d0, d1]
   exact aK kk.1 ⟨p, 2, rfl, hpb, kk⟩
  have d1 : (s2 == 12) = false := by simpa using z1
  simp -implicitDefEqProofs only [go_sem, d0, d1]
  exact aK kk.1 ⟨p, 0, rfl, hpb, kk⟩
 ·have d50 : decide ((L : Int) >= 50) = false := decide_eq_false (by omega)
  simp -implicitDefEqProofs only [go_sem, d50]
  have hk1 := hk0
  have hc1 := hc0
  have kk1 := kk0
  obtain ⟨s1, hs1⟩ : ∃ s1 : Int, s1 = 0 := ⟨0, rfl⟩
  rw [<- hs1] at hc1
  generalize g0 = h1 at *
  refine aH hC (h314 l i1 i2 i3 (by omega) (by omega) (by omega) k h.length 3 s1 h1 hk1 hc1) fun x h2 ⟨p, hx, hp, ⟨s2, hc2⟩, k2⟩ => ?_
  subst hx
  have kk : Keep All h h2 := kk1.trans' k2 fun i o hi e => by have := aQ hi; omega
  have hpb : a <= p /\ p < b := by omega
  simp -implicitDefEqProofs only [go_sem, hc2]
  by_cases z0 : s2 = 0
  ·have d0 : (s2 == 0) = true := by simpa using z0
   simp -implicitDefEqProofs only [go_sem, d0]
   exact aK kk.1 ⟨p, 1, rfl, hpb, kk⟩
  have d0 : (s2 == 0) = false := by simpa using z0
  by_cases z1 : s2 = 12
  ·have d1 : (s2 == 12) = true := by simpa using z1
   simp -implicitDefEqProofs only [go_sem, d0, d1]
   exact aK kk.1 ⟨p, 2, rfl, hpb, kk⟩
  have d1 : (s2 == 12) = false := by simpa using z1
  simp -implicitDefEqProofs only [go_sem, d0, d1]
  exact aK kk.1 ⟨p, 0, rfl, hpb, kk⟩
def Kid (i c : Nat) : Prop := c = 2 * i + 1 ∨ c = 2 * i + 2
def Heap (lo hi f : Nat) (l : List Int) : Prop := ∀ i c, lo <= i -> Kid i c -> c < hi -> l.getD (f + c) 0 <= l.getD (f + i) 0
def HeapBut (lo hi f r : Nat) (l : List Int) : Prop := (∀ i c, lo <= i -> i ≠ r -> Kid i c -> c < hi -> l.getD (f + c) 0 <= l.getD (f + i) 0) /\ ∀ p c, lo <= p -> Kid p r -> Kid r c -> c < hi -> l.getD (f + c) 0 <= l.getD (f + p) 0
theorem HeapBut.start {lo hi f : Nat} {l : List Int} (h : Heap (lo + 1) hi f l) : HeapBut lo hi f lo l :=
 ⟨fun i c h1 h2 h3 h4 => h i c (by omega) h3 h4, fun p c h1 h2 _ _ => by unfold Kid at h2; omega⟩
theorem HeapBut.done {lo hi f r : Nat} {l : List Int} (h : HeapBut lo hi f r l) (hr : ∀ c, Kid r c -> c < hi -> l.getD (f + c) 0 <= l.getD (f + r) 0) : Heap lo hi f l := fun i c h1 h2 h3 => by
 by_cases e : i = r
 ·subst e; exact hr c h2 h3
 ·exact h.1 i c h1 e h2 h3
theorem HeapBut.step {lo hi f r m : Nat} {l : List Int} (h : HeapBut lo hi f r l) (hr : lo <= r) (hm : Kid r m) (hmi : m < hi) (hb : f + hi <= l.length) (hlt : l.getD (f + r) 0 < l.getD (f + m) 0) (hmax : ∀ c, Kid r c -> c < hi -> l.getD (f + c) 0 <= l.getD (f + m) 0) :
  HeapBut lo hi f m (swp l (f + r) (f + m)) := by
 have hrm : r < m := by unfold Kid at hm; omega
 have g := dH (l := l) (i := f + r) (j := f + m) (by omega) (by omega)
 have gr : (swp l (f + r) (f + m)).getD (f + r) 0 = l.getD (f + m) 0 := by rw [g, if_neg (by omega), if_pos rfl]
 have gm : (swp l (f + r) (f + m)).getD (f + m) 0 = l.getD (f + r) 0 := by rw [g, if_pos rfl]
 have go : ∀ x, x ≠ r -> x ≠ m -> (swp l (f + r) (f + m)).getD (f + x) 0 = l.getD (f + x) 0 := fun x h1 h2 => by rw [g, if_neg (by omega), if_neg (by omega)]
 refine ⟨fun i c h1 h2 h3 h4 => ?_, fun p c h1 h2 h3 h4 => ?_⟩
 ·by_cases ei : i = r
  ·subst ei
   rw [gr]
   by_cases ec : c = m
   ·subst ec; rw [gm]; omega
   ·rw [go c (by unfold Kid at h3; omega) ec]
    exact hmax c h3 h4
  ·rw [go i ei h2]
   by_cases ec : c = r
   ·subst ec; rw [gr]; exact h.2 i m h1 h3 hm hmi
   ·have ec2 : c ≠ m := by unfold Kid at h3 hm; omega
    rw [go c ec ec2]
    exact h.1 i c h1 ei h3 h4
 ·have ep : p = r := by unfold Kid at h2 hm; omega
  subst ep
  rw [gr, go c (by unfold Kid at h3; omega) (by unfold Kid at h3; omega)]
  exact h.1 m c (by omega) (by omega) h3 h4
theorem heap_max {hi f : Nat} {l : List Int} (h : Heap 0 hi f l) : ∀ i, i < hi -> l.getD (f + i) 0 <= l.getD f 0 := by
 intro i
 induction i using Nat.strongRecOn with
 | _ i ih =>
 intro hi'
 by_cases e : i = 0
 ·subst e; simp
 ·have h1 := h ((i - 1) / 2) i (by omega) (by unfold Kid; omega) hi'
  have h2 := ih ((i - 1) / 2) (by omega) (by omega)
  omega
theorem h312 (l0 : List Int) (lo hi f : Nat) (hb : f + hi <= l0.length) (hl : l0.length < 2 ^ 40) (hlo : lo < 2 ^ 40) (hh : Heap (lo + 1) hi f l0) (k : Nat) (h : List AObj) (hk : h[k]? = some (.buf 3 1 (l0.map encI))) :
  Gives (PC GL) 312 [.vec k 1 l0.length, .i lo, .i hi, .i f] h fun _ h' => ∃ l', SegP f (f + hi) l0 l' /\ Heap lo hi f l' /\ h'[k]? = some (.buf 3 1 (l'.map encI)) /\ Keep (fun i _ => i = k) h h' := by
 refine k312.gives (by simp) ?_
 simp -implicitDefEqProofs only [go_sem, c312, r312]
 refine bB hC (fun t (a : List Int × Nat) => [(8, .i (a.2 : Nat)), (0, .vec k 1 l0.length), (2, .i hi), (3, .i f)]) (fun t a h' => SegP f (f + hi) l0 a.1 /\ HeapBut lo hi f a.2 a.1 /\ h'[k]? = some (.buf 3 1 (a.1.map encI)) /\ Keep (fun i _ => i = k) h h' /\ lo + t <= a.2 /\ a.2 < 2 ^ 40) (hi - lo) ⟨(l0, lo), h, Wk.pick (Nat.le_refl _) (by simp [go_sem]), SegP.refl _ _ _, HeapBut.start hh, hk, Keep.refl _ _, Nat.le_refl _, hlo⟩ fun t a h1 ht ⟨g1, g2, g3, g4, g5, g6⟩ => ?_
 obtain ⟨l, r⟩ := a
 dsimp only at g1 g2 g3 g5 g6
 have hlen : l0.length = l.length := g1.1.symm
 have w1 : IntKind.i64.wrap (2 * (r : Int)) = ((2 * r : Nat) : Int) := by rw [aD _ (by omega)]; omega
 have w2 : IntKind.i64.wrap (((2 * r : Nat) : Int) + 1) = ((2 * r + 1 : Nat) : Int) := by rw [aD _ (by omega)]; omega
 have w3 : IntKind.i64.wrap (((2 * r + 1 : Nat) : Int) + 1) = ((2 * r + 2 : Nat) : Int) := by rw [aD _ (by omega)]; omega
 have wf : ∀ x : Nat, x < 2 ^ 42 -> IntKind.i64.wrap ((f : Int) + (x : Int)) = ((f + x : Nat) : Int) := fun x hx => by rw [aD _ (by omega)]; omega
 have wr := wf r (by omega)
 have wc1 := wf (2 * r + 1) (by omega)
 have wc2 := wf (2 * r + 2) (by omega)
 have wc3 : IntKind.i64.wrap (((f + (2 * r + 1) : Nat) : Int) + 1) = ((f + (2 * r + 2) : Nat) : Int) := by rw [aD _ (by omega)]; omega
 simp -implicitDefEqProofs only [go_sem, w1, w2]
 by_cases hch : 2 * r + 1 >= hi
 ·have d1 : decide (((2 * r + 1 : Nat) : Int) >= (hi : Int)) = true := decide_eq_true (by omega)
  simp -implicitDefEqProofs only [go_sem, d1]
  exact aK g4.1 ⟨l, g1, g2.done fun c hc hci => by unfold Kid at hc; omega, g3, g4⟩
 have d1 : decide (((2 * r + 1 : Nat) : Int) >= (hi : Int)) = false := decide_eq_false (by omega)
 have er := aI (l := l) (i := f + r) (by omega)
 have ec1 := aI (l := l) (i := f + (2 * r + 1)) (by omega)
 have br := bnd (i := f + r) (n := l.length) (by omega)
 have bc1 := bnd (i := f + (2 * r + 1)) (n := l.length) (by omega)
 simp -implicitDefEqProofs only [go_sem, d1, w3]
 by_cases hc2 : 2 * r + 2 < hi
 ·have d2 : decide (((2 * r + 2 : Nat) : Int) < (hi : Int)) = true := decide_eq_true (by omega)
  have ec2 := aI (l := l) (i := f + (2 * r + 2)) (by omega)
  have bc2 := bnd (i := f + (2 * r + 2)) (n := l.length) (by omega)
  simp -implicitDefEqProofs only [go_sem, d2, wc1, wc3, g3, hlen, bc1, bc2, ec1, ec2, List.length_map, aO, Int.toNat_natCast, true_and, aP]
  refine aC hC (h298 _ _) ?_
  simp -implicitDefEqProofs only [go_sem]
  by_cases hlc : l.getD (f + (2 * r + 1)) 0 < l.getD (f + (2 * r + 2)) 0
  ·have d3 := decide_eq_true hlc
   simp -implicitDefEqProofs only [go_sem, d3, w3]
   obtain ⟨m, hmd⟩ : ∃ m, m = 2 * r + 2 := ⟨_, rfl⟩
   have hm : Kid r m := .inr hmd
   have hmi : m < hi := by omega
   have hmax : ∀ c, Kid r c -> c < hi -> l.getD (f + c) 0 <= l.getD (f + m) 0 := fun c hc _ => by
    subst hmd
    rcases hc with rfl | rfl
    ·omega
    ·exact Int.le_refl _
   simp only [<- hmd]
   have em := aI (l := l) (i := f + m) (by omega)
   have bm := bnd (i := f + m) (n := l.length) (by omega)
   have wm := wf m (by omega)
   have hml : f + m < l.length := by omega
   simp -implicitDefEqProofs only [go_sem, wr, wm, g3, br, bm, er, em, List.length_map, aO, Int.toNat_natCast, true_and, aP]
   refine aC hC (h298 _ _) ?_
   simp -implicitDefEqProofs only [go_sem]
   by_cases hlt : l.getD (f + r) 0 < l.getD (f + m) 0
   ·have d := decide_eq_true hlt
    simp -implicitDefEqProofs only [go_sem, d, Bool.not_true, wr, wm, g3, br, bm, er, em, aL g3, bJ hml, List.length_map, List.length_set, aO, Int.toNat_natCast, true_and, aP, bD, List.set_set, bU]
    exact ⟨by omega, (swp l (f + r) (f + m), m), _, Wk.pick (by simpa using g4.1) (by simp [go_sem]), g1.trans (SegP.swp (by omega) (by omega) (by omega)), g2.step (by omega) hm hmi (by omega) hlt hmax, aL g3, g4.trans (Keep.set _ g3 rfl), by dsimp only; unfold Kid at hm; omega, by dsimp only; omega⟩
   ·have d := decide_eq_false hlt
    simp -implicitDefEqProofs only [go_sem, d, Bool.not_false]
    exact aK g4.1 ⟨l, g1, g2.done fun c hc hci => by have := hmax c hc hci; omega, g3, g4⟩
  ·have d3 := decide_eq_false hlc
   simp -implicitDefEqProofs only [go_sem, d3]
   obtain ⟨m, hmd⟩ : ∃ m, m = 2 * r + 1 := ⟨_, rfl⟩
   have hm : Kid r m := .inl hmd
   have hmi : m < hi := by omega
   have hmax : ∀ c, Kid r c -> c < hi -> l.getD (f + c) 0 <= l.getD (f + m) 0 := fun c hc _ => by
    subst hmd
    rcases hc with rfl | rfl
    ·exact Int.le_refl _
    ·omega
   simp only [<- hmd]
   have em := aI (l := l) (i := f + m) (by omega)
   have bm := bnd (i := f + m) (n := l.length) (by omega)
   have wm := wf m (by omega)
   have hml : f + m < l.length := by omega
   simp -implicitDefEqProofs only [go_sem, wr, wm, g3, br, bm, er, em, List.length_map, aO, Int.toNat_natCast, true_and, aP]
   refine aC hC (h298 _ _) ?_
   simp -implicitDefEqProofs only [go_sem]
   by_cases hlt : l.getD (f + r) 0 < l.getD (f + m) 0
   ·have d := decide_eq_true hlt
    simp -implicitDefEqProofs only [go_sem, d, Bool.not_true, wr, wm, g3, br, bm, er, em, aL g3, bJ hml, List.length_map, List.length_set, aO, Int.toNat_natCast, true_and, aP, bD, List.set_set, bU]
    exact ⟨by omega, (swp l (f + r) (f + m), m), _, Wk.pick (by simpa using g4.1) (by simp [go_sem]), g1.trans (SegP.swp (by omega) (by omega) (by omega)), g2.step (by omega) hm hmi (by omega) hlt hmax, aL g3, g4.trans (Keep.set _ g3 rfl), by dsimp only; unfold Kid at hm; omega, by dsimp only; omega⟩
   ·have d := decide_eq_false hlt
    simp -implicitDefEqProofs only [go_sem, d, Bool.not_false]
    exact aK g4.1 ⟨l, g1, g2.done fun c hc hci => by have := hmax c hc hci; omega, g3, g4⟩
 ·have d2 : decide (((2 * r + 2 : Nat) : Int) < (hi : Int)) = false := decide_eq_false (by omega)
  simp -implicitDefEqProofs only [go_sem, d2]
  obtain ⟨m, hmd⟩ : ∃ m, m = 2 * r + 1 := ⟨_, rfl⟩
  have hm : Kid r m := .inl hmd
  have hmi : m < hi := by omega
  have hmax : ∀ c, Kid r c -> c < hi -> l.getD (f + c) 0 <= l.getD (f + m) 0 := fun c hc hci => by
   subst hmd
   rcases hc with rfl | rfl
   ·exact Int.le_refl _
   ·omega
  simp only [<- hmd]
  have em := aI (l := l) (i := f + m) (by omega)
  have bm := bnd (i := f + m) (n := l.length) (by omega)
  have wm := wf m (by omega)
  have hml : f + m < l.length := by omega
  simp -implicitDefEqProofs only [go_sem, wr, wm, g3, hlen, br, bm, er, em, List.length_map, aO, Int.toNat_natCast, true_and, aP]
  refine aC hC (h298 _ _) ?_
  simp -implicitDefEqProofs only [go_sem]
  by_cases hlt : l.getD (f + r) 0 < l.getD (f + m) 0
  ·have d := decide_eq_true hlt
   simp -implicitDefEqProofs only [go_sem, d, Bool.not_true, wr, wm, g3, br, bm, er, em, aL g3, bJ hml, List.length_map, List.length_set, aO, Int.toNat_natCast, true_and, aP, bD, List.set_set, bU]
   exact ⟨by omega, (swp l (f + r) (f + m), m), _, Wk.pick (by simpa using g4.1) (by simp [go_sem]), g1.trans (SegP.swp (by omega) (by omega) (by omega)), g2.step (by omega) hm hmi (by omega) hlt hmax, aL g3, g4.trans (Keep.set _ g3 rfl), by dsimp only; unfold Kid at hm; omega, by dsimp only; omega⟩
  ·have d := decide_eq_false hlt
   simp -implicitDefEqProofs only [go_sem, d, Bool.not_false]
   exact aK g4.1 ⟨l, g1, g2.done fun c hc hci => by have := hmax c hc hci; omega, g3, g4⟩
theorem SegP.mem {a b : Nat} {l l' : List Int} (h : SegP a b l l') (hb : b <= l.length) {x : Nat} (hx : a <= x /\ x < b) : ∃ y, (a <= y /\ y < b) /\ l'.getD x 0 = l.getD y 0 := by
 obtain ⟨h1, h2, h3⟩ := h
 have e1 : l'.take a = l.take a := List.ext_getElem? fun i => by
  rw [List.getElem?_take, List.getElem?_take]
  split
  ·exact h3 i (by omega)
  ·rfl
 have e2 : l'.drop b = l.drop b := List.ext_getElem? fun i => by
  rw [List.getElem?_drop, List.getElem?_drop]
  exact h3 _ (by omega)
 have split3 : ∀ m : List Int, m = m.take a ++ ((m.drop a).take (b - a) ++ m.drop b) := fun m => by
  rw [show m.drop b = (m.drop a).drop (b - a) by rw [List.drop_drop]; congr 1; omega, List.take_append_drop, List.take_append_drop]
 have hp : ((l.drop a).take (b - a)).Perm ((l'.drop a).take (b - a)) := by
  rw [split3 l, split3 l', e1, e2] at h2
  exact (List.perm_append_right_iff _).1 ((List.perm_append_left_iff _).1 h2)
 have hm : l'.getD x 0 ∈ (l'.drop a).take (b - a) := by
  rw [List.getD_eq_getElem?_getD, List.getElem?_eq_getElem (by omega : x < l'.length)]
  refine List.mem_take_iff_getElem.2 ⟨x - a, by simp; omega, ?_⟩
  rw [List.getElem_drop]
  simp only [Option.getD_some]
  congr 1; omega
 obtain ⟨i, hi, he⟩ := List.mem_take_iff_getElem.1 (hp.mem_iff.2 hm)
 simp only [List.length_drop] at hi
 refine ⟨a + i, by omega, ?_⟩
 rw [<- he, List.getElem_drop, List.getD_eq_getElem?_getD, List.getElem?_eq_getElem (by omega : a + i < l.length)]
 rfl
theorem SegP.same {a b : Nat} {l l' : List Int} (h : SegP a b l l') {x : Nat} (hx : x < a ∨ b <= x) : l'.getD x 0 = l.getD x 0 := by
 rw [List.getD_eq_getElem?_getD, List.getD_eq_getElem?_getD, h.2.2 x hx]
def Popped (n hi f : Nat) (l : List Int) : Prop := Heap 0 n f l /\ Srt (f + n) (f + hi) l /\ ∀ x y, x < n -> n <= y -> y < hi -> l.getD (f + x) 0 <= l.getD (f + y) 0
theorem Heap.swp {i f : Nat} {l : List Int} (h : Heap 0 (i + 1) f l) (hb : f + i < l.length) : Heap 1 i f (swp l f (f + i)) := fun j c h1 h2 h3 => by
 have g := dH (l := l) (i := f) (j := f + i) (by omega) hb
 have : j < c := by unfold Kid at h2; omega
 rw [g, g, if_neg (by omega), if_neg (by omega), if_neg (by omega), if_neg (by omega)]
 exact h j c (by omega) h2 (by omega)
theorem Popped.step {i hi f : Nat} {l l2 : List Int} (h : Popped (i + 1) hi f l) (hi1 : i < hi) (hb : f + hi <= l.length) (hs : SegP f (f + i) (swp l f (f + i)) l2) (hh : Heap 0 i f l2) : Popped i hi f l2 := by
 obtain ⟨h1, h2, h3⟩ := h
 have g := dH (l := l) (i := f) (j := f + i) (by omega) (by omega)
 have mx := heap_max h1
 have ei : l2.getD (f + i) 0 = l.getD f 0 := by rw [hs.same (by omega), g, if_pos rfl]
 have ey : ∀ y, i < y -> l2.getD (f + y) 0 = l.getD (f + y) 0 := fun y hy => by rw [hs.same (by omega), g, if_neg (by omega), if_neg (by omega)]
 have ex : ∀ x, x < i -> ∃ z, z <= i /\ l2.getD (f + x) 0 = l.getD (f + z) 0 := fun x hx => by
  obtain ⟨y, hy, e⟩ := hs.mem (by rw [swp_length]; omega) (x := f + x) (by omega)
  rw [e, g, if_neg (by omega)]
  by_cases hyf : y = f
  ·rw [if_pos hyf]; exact ⟨i, Nat.le_refl _, rfl⟩
  ·rw [if_neg hyf]; exact ⟨y - f, by omega, by congr 1; omega⟩
 have lei : ∀ y, i < y -> y < hi -> l.getD f 0 <= l.getD (f + y) 0 := fun y hy1 hy2 => by have := h3 0 y (by omega) (by omega) hy2; simpa using this
 refine ⟨hh, fun p q hp hpq hq => ?_, fun x y hx hy hyh => ?_⟩
 ·obtain ⟨p', rfl⟩ : ∃ p', p = f + p' := ⟨p - f, by omega⟩
  obtain ⟨q', rfl⟩ : ∃ q', q = f + q' := ⟨q - f, by omega⟩
  rw [ey q' (by omega)]
  by_cases e : p' = i
  ·subst e; rw [ei]; exact lei q' (by omega) (by omega)
  ·rw [ey p' (by omega)]; exact h2 _ _ (by omega) hpq hq
 ·obtain ⟨z, hz, e⟩ := ex x hx
  rw [e]
  by_cases e2 : y = i
  ·subst e2; rw [ei]; exact mx z (by omega)
  ·rw [ey y (by omega)]; exact h3 z y (by omega) (by omega) hyh
theorem h293 (l0 : List Int) (a b : Nat) (hab : a < b) (hb : b <= l0.length) (hl : l0.length < 2 ^ 40) (k : Nat) (h : List AObj) (hk : h[k]? = some (.buf 3 1 (l0.map encI))) :
  Gives (PC GL) 293 [.vec k 1 l0.length, .i a, .i b] h fun _ h' => ∃ l', SegP a b l0 l' /\ Srt a b l' /\ h'[k]? = some (.buf 3 1 (l'.map encI)) /\ Keep (fun i _ => i = k) h h' := by
 obtain ⟨n, rfl⟩ : ∃ n, b = a + (n + 1) := ⟨b - a - 1, by omega⟩
 have w1 : IntKind.i64.wrap (((a + (n + 1) : Nat) : Int) - (a : Int)) = ((n + 1 : Nat) : Int) := by rw [aD _ (by omega)]; omega
 have w2 : IntKind.i64.wrap (((n + 1 : Nat) : Int) - 1) = (n : Int) := by rw [aD _ (by omega)]; omega
 have w3 : IntKind.i64.wrap (Int.tdiv (n : Int) 2) = ((n / 2 : Nat) : Int) := by
  rw [show Int.tdiv (n : Int) 2 = ((n / 2 : Nat) : Int) from by rw [Int.tdiv_eq_ediv_of_nonneg (by omega)]; omega]
  exact aD _ (by omega)
 refine k293.gives (by simp) ?_
 simp -implicitDefEqProofs only [go_sem, c293, r293, w1, w2, w3, show ((2 : Int) = 0) = False from by simp, if_false]
 refine bB hC (fun t (_ : List Int) => [(9, .i (((n / 2 : Nat) : Int) - (t : Int))), (0, .vec k 1 l0.length), (8, .i ((n + 1 : Nat) : Int)), (6, .i a), (7, .i 0)]) (fun t l h' => SegP a (a + (n + 1)) l0 l /\ Heap (n / 2 + 1 - t) (n + 1) a l /\ h'[k]? = some (.buf 3 1 (l.map encI)) /\ Keep (fun i _ => i = k) h h') (n / 2 + 1) ⟨l0, h, Wk.pick (Nat.le_refl _) (by simp [go_sem]), SegP.refl _ _ _, fun i c h1 h2 h3 => by unfold Kid at h2; omega, hk, Keep.refl _ _⟩ fun t l h1 ht ⟨g1, g2, g3, g4⟩ => ?_
 have hlen : l0.length = l.length := g1.1.symm
 simp -implicitDefEqProofs only [go_sem]
 by_cases hlt : t <= n / 2
 ·have d1 : decide (((n / 2 : Nat) : Int) - (t : Int) >= 0) = true := decide_eq_true (by omega)
  obtain ⟨i, hi⟩ : ∃ i : Nat, i = n / 2 - t := ⟨_, rfl⟩
  have ei : ((n / 2 : Nat) : Int) - (t : Int) = (i : Int) := by omega
  have w4 : IntKind.i64.wrap ((i : Int) - 1) = ((n / 2 : Nat) : Int) - ((t + 1 : Nat) : Int) := by rw [aD _ (by omega)]; omega
  rw [ei] at d1
  simp -implicitDefEqProofs only [go_sem, ei, d1, hlen]
  refine aH hC (h312 l i (n + 1) a (by omega) (by omega) (by omega) (by rw [show i + 1 = n / 2 + 1 - t by omega]; exact g2) k h1 g3) fun x h2 ⟨l2, q1, q2, q3, q4⟩ => ?_
  simp -implicitDefEqProofs only [go_sem, w4]
  exact ⟨by omega, l2, h2, Wk.pick (g4.trans q4).1 (by simp [go_sem]), g1.trans q1, by rw [show n / 2 + 1 - (t + 1) = i by omega]; exact q2, q3, g4.trans q4⟩
 have d1 : decide (((n / 2 : Nat) : Int) - (t : Int) >= 0) = false := decide_eq_false (by omega)
 have g2' : Heap 0 (n + 1) a l := by have := g2; rwa [show n / 2 + 1 - t = 0 by omega] at this
 simp -implicitDefEqProofs only [go_sem, d1, w2]
 refine bB hC (fun t (_ : List Int) => [(10, .i ((n : Int) - (t : Int))), (0, .vec k 1 l0.length), (6, .i a), (7, .i 0)]) (fun t l h' => SegP a (a + (n + 1)) l0 l /\ Popped (n + 1 - t) (n + 1) a l /\ h'[k]? = some (.buf 3 1 (l.map encI)) /\ Keep (fun i _ => i = k) h h') (n + 1) ⟨l, h1, Wk.pick g4.1 (by simp [go_sem]), g1, ⟨g2', fun p q _ _ _ => by omega, fun x y _ _ _ => by omega⟩, g3, g4⟩ fun t l h1 ht ⟨g1, g2, g3, g4⟩ => ?_
 have hlen : l0.length = l.length := g1.1.symm
 simp -implicitDefEqProofs only [go_sem]
 by_cases hlt : t <= n
 ·have d1 : decide ((n : Int) - (t : Int) >= 0) = true := decide_eq_true (by omega)
  obtain ⟨i, hi⟩ : ∃ i : Nat, i = n - t := ⟨_, rfl⟩
  have ei : (n : Int) - (t : Int) = (i : Int) := by omega
  have w4 : IntKind.i64.wrap ((i : Int) - 1) = (n : Int) - ((t + 1 : Nat) : Int) := by rw [aD _ (by omega)]; omega
  have w5 : IntKind.i64.wrap ((a : Int) + (i : Int)) = ((a + i : Nat) : Int) := by rw [aD _ (by omega)]; omega
  have hal : a < l.length := by omega
  have hil : a + i < l.length := by omega
  have e1 := aI hal
  have e2 := aI hil
  rw [show n + 1 - t = i + 1 by omega] at g2
  rw [ei] at d1
  simp -implicitDefEqProofs only [go_sem, ei, d1, hlen, w5, g3, bnd hal, bnd hil, e1, e2, aL g3, bJ hil, List.length_map, List.length_set, aO, Int.toNat_natCast, true_and, aP, bD, List.set_set, bU]
  have hsw : SegP a (a + (n + 1)) l (swp l a (a + i)) := SegP.swp (by omega) (by omega) (by omega)
  have hls : l.length = (swp l a (a + i)).length := (swp_length _ _ _).symm
  rw [hls]
  refine aH hC (h312 (swp l a (a + i)) 0 i a (by rw [swp_length]; omega) (by rw [swp_length]; omega) (by omega) (g2.1.swp hil) k _ (aL g3)) fun x h2 ⟨l2, q1, q2, q3, q4⟩ => ?_
  simp -implicitDefEqProofs only [go_sem, w4]
  have kk := (g4.trans (Keep.set (.buf 3 1 ((swp l a (a + i)).map encI)) g3 rfl)).trans q4
  refine ⟨by omega, l2, h2, Wk.pick kk.1 (by simp [go_sem]), (g1.trans hsw).trans (q1.mono (by omega) (by omega)), ?_, q3, kk⟩
  rw [show n + 1 - (t + 1) = i by omega]
  exact g2.step (by omega) (by omega) q1 q2
 ·have d1 : decide ((n : Int) - (t : Int) >= 0) = false := decide_eq_false (by omega)
  simp -implicitDefEqProofs only [go_sem, d1]
  refine aK g4.1 ⟨l, g1, fun p q hp hpq hq => ?_, g3, g4⟩
  exact g2.2.1 p q (by omega) hpq hq
theorem nn13 : ((13 : Int) < 0) = False := by decide
theorem nn7 : ((7 : Int) < 0) = False := by decide
theorem nn17 : ((17 : Int) < 0) = False := by decide
theorem nn16 : ((16 : Int) < 0) = False := by decide
theorem nn8 : ((8 : Int) < 0) = False := by decide
theorem h305 (c : Nat) (T : TypeId) (r : Int) (h : List AObj) (hc : h[c]? = some (.cells T [.v (.int .u64 r)])) :
  Gives (PC GL) 305 [.ref c 0] h fun x h' => ∃ r', x = .v (.int .u64 r') /\ h'[c]? = some (.cells T [.v (.int .u64 r')]) /\ Keep (fun i _ => i = c) h h' := by
 refine k305.gives (by simp) ?_
 simp -implicitDefEqProofs only [go_sem, c305, r305, hc, aL hc, List.set_set, shiftBin, nn13, nn7, nn17, if_false, if_true]
 exact aK (by simp) ⟨_, rfl, aL hc, Keep.set _ hc rfl⟩
theorem u64w (n : Nat) (h : n < 2 ^ 64) : IntKind.u64.wrap (n : Int) = (n : Int) := by
 simp [IntKind.wrap, IntKind.signed, IntKind.bits]; omega
theorem u8w (n : Nat) (h : n < 256) : IntKind.u8.wrap (n : Int) = (n : Int) := by
 simp [IntKind.wrap, IntKind.signed, IntKind.bits]; omega
def len8 : List UInt8 := [0, 1, 2, 2, 3, 3, 3, 3] ++ List.replicate 8 4 ++ List.replicate 16 5 ++ List.replicate 32 6 ++ List.replicate 64 7 ++ List.replicate 128 8
theorem len8_ok : ∀ x, x < 256 -> 0 < x -> x < 2 ^ (len8.getD x 0).toNat /\ 2 ^ (len8.getD x 0).toNat <= 2 * x := by decide +kernel
theorem len8_tab : [0, 1, 2, 2, 3, 3, 3, 3, 4, 4, 4, 4, 4, 4, 4, 4, 5, 5, 5, 5, 5, 5, 5, 5, 5, 5, 5, 5, 5, 5, 5, 5, 6, 6, 6, 6, 6, 6, 6, 6, 6, 6, 6, 6, 6, 6, 6, 6, 6, 6, 6, 6, 6, 6, 6, 6, 6, 6, 6, 6, 6, 6, 6, 6, 7, 7, 7, 7, 7, 7, 7, 7, 7, 7, 7, 7, 7, 7, 7, 7, 7, 7, 7, 7, 7, 7, 7, 7, 7, 7, 7, 7, 7, 7, 7, 7, 7, 7, 7, 7, 7, 7, 7, 7, 7, 7, 7, 7, 7, 7, 7, 7, 7, 7, 7, 7, 7, 7, 7, 7, 7, 7, 7, 7, 7, 7, 7, 7, 8, 8, 8, 8, 8, 8, 8, 8, 8, 8, 8, 8, 8, 8, 8, 8, 8, 8, 8, 8, 8, 8, 8, 8, 8, 8, 8, 8, 8, 8, 8, 8, 8, 8, 8, 8, 8, 8, 8, 8, 8, 8, 8, 8, 8, 8, 8, 8, 8, 8, 8, 8, 8, 8, 8, 8, 8, 8, 8, 8, 8, 8, 8, 8, 8, 8, 8, 8, 8, 8, 8, 8, 8, 8, 8, 8, 8, 8, 8, 8, 8, 8, 8, 8, 8, 8, 8, 8, 8, 8, 8, 8, 8, 8, 8, 8, 8, 8, 8, 8, 8, 8, 8, 8, 8, 8, 8, 8, 8, 8, 8, 8, 8, 8, 8, 8, 8, 8, 8, 8, 8, 8, 8, 8, 8, 8, 8, 8] = len8 := rfl
theorem len8_length : len8.length = 256 := rfl
theorem len_up {x t : Nat} (s : Nat) (h : x / 2 ^ s < 2 ^ t /\ 2 ^ t <= 2 * (x / 2 ^ s)) : x < 2 ^ (s + t) /\ 2 ^ (s + t) <= 2 * x := by
 rw [Nat.pow_add]
 have h1 : 2 ^ s * (x / 2 ^ s) <= x := Nat.mul_div_le _ _
 refine ⟨?_, ?_⟩
 ·have := (Nat.div_lt_iff_lt_mul (Nat.two_pow_pos s)).1 h.1
  rwa [Nat.mul_comm] at this
 ·calc 2 ^ s * 2 ^ t <= 2 ^ s * (2 * (x / 2 ^ s)) := Nat.mul_le_mul_left _ h.2
   _ = 2 * (2 ^ s * (x / 2 ^ s)) := by rw [Nat.mul_left_comm]
   _ <= 2 * x := by omega
theorem h272 (x : Nat) (hx : 0 < x /\ x < 2 ^ 24) : ∃ r : Nat, (x < 2 ^ r /\ 2 ^ r <= 2 * x) /\ Pure (PC GL) 272 [.v (.int .u64 x)] (.i r) := by
 have d32 : decide ((x : Int) >= 4294967296) = false := decide_eq_false (by omega)
 have tl : ∀ y, y < 256 -> (len8.getD y 0).toNat <= 255 := fun y _ => by have := (len8.getD y 0).toNat_lt; omega
 have b8 : ∀ y : Nat, y < 256 -> bounds (y : Int) len8.length = True := fun y hy => bnd (by rw [len8_length]; exact hy)
 have wi : ∀ n : Nat, n <= 255 -> IntKind.i64.wrap (n : Int) = (n : Int) := fun n hn => aD _ (by omega)
 by_cases h16 : x >= 65536
 ·have d16 : decide ((x : Int) >= 65536) = true := decide_eq_true (by omega)
  have f1 : ((x : Int)).fdiv (2 ^ min (Int.toNat 16) 64) = ((x / 65536 : Nat) : Int) := by
   rw [show min (Int.toNat 16) 64 = 16 from rfl, Int.fdiv_eq_ediv_of_nonneg _ (by decide)]; omega
  have d8 : decide (((x / 65536 : Nat) : Int) >= 256) = false := decide_eq_false (by omega)
  have hy : x / 65536 < 256 := by omega
  have hlen := len8_ok (x / 65536) hy (by omega)
  have ht := tl _ hy
  have w8 := u8w _ hy
  have b := b8 _ hy
  generalize hT : (len8.getD (x / 65536) 0).toNat = T at *
  refine ⟨16 + T, len_up 16 hlen, ?_⟩
  refine k272.pure (by simp) (by simp [go_sem]) (by simp [go_sem]) ?_
  simp -implicitDefEqProofs only [c272, r272, go_sem]
  simp -implicitDefEqProofs only [go_sem, d32, d16, shiftBin, nn16, if_false, f1, d8, len8_tab, w8, b, Int.toNat_natCast, true_and, hT, wi T ht]
  have wz : IntKind.i64.wrap (IntKind.i64.wrap (0 + 16) + (T : Int)) = ((16 + T : Nat) : Int) := by rw [aD (0 + 16) (by omega), aD _ (by omega)]; omega
  rw [wz]
  refine aF ?_ ?_ <;> simp [go_sem]
 have d16 : decide ((x : Int) >= 65536) = false := decide_eq_false (by omega)
 by_cases h8 : x >= 256
 ·have d8 : decide ((x : Int) >= 256) = true := decide_eq_true (by omega)
  have f1 : ((x : Int)).fdiv (2 ^ min (Int.toNat 8) 64) = ((x / 256 : Nat) : Int) := by
   rw [show min (Int.toNat 8) 64 = 8 from rfl, Int.fdiv_eq_ediv_of_nonneg _ (by decide)]; omega
  have hy : x / 256 < 256 := by omega
  have hlen := len8_ok (x / 256) hy (by omega)
  have ht := tl _ hy
  have w8 := u8w _ hy
  have b := b8 _ hy
  generalize hT : (len8.getD (x / 256) 0).toNat = T at *
  refine ⟨8 + T, len_up 8 hlen, ?_⟩
  refine k272.pure (by simp) (by simp [go_sem]) (by simp [go_sem]) ?_
  simp -implicitDefEqProofs only [c272, r272, go_sem]
  simp -implicitDefEqProofs only [go_sem, d32, d16, shiftBin, nn8, if_false, f1, d8, len8_tab, w8, b, Int.toNat_natCast, true_and, hT, wi T ht]
  have wz : IntKind.i64.wrap (IntKind.i64.wrap (0 + 8) + (T : Int)) = ((8 + T : Nat) : Int) := by rw [aD (0 + 8) (by omega), aD _ (by omega)]; omega
  rw [wz]
  refine aF ?_ ?_ <;> simp [go_sem]
 have d8 : decide ((x : Int) >= 256) = false := decide_eq_false (by omega)
 have hlen := len8_ok x (by omega) hx.1
 have ht := tl x (by omega)
 have w8 := u8w x (by omega)
 have b := b8 x (by omega)
 generalize hT : (len8.getD x 0).toNat = T at *
 refine ⟨T, hlen, ?_⟩
 refine k272.pure (by simp) (by simp [go_sem]) (by simp [go_sem]) ?_
 simp -implicitDefEqProofs only [c272, r272, go_sem]
 simp -implicitDefEqProofs only [go_sem, d32, d16, d8, len8_tab, w8, b, Int.toNat_natCast, true_and, hT, wi T ht]
 have wz : IntKind.i64.wrap (0 + (T : Int)) = (T : Int) := by rw [aD _ (by omega)]; omega
 rw [wz]
 refine aF ?_ ?_ <;> simp [go_sem]
theorem h239 (x : Nat) (hx : 0 < x /\ x < 2 ^ 24) : ∃ r : Nat, (x < 2 ^ r /\ 2 ^ r <= 2 * x) /\ Pure (PC GL) 239 [.v (.int .u64 x)] (.i r) := by
 obtain ⟨r, h1, h2⟩ := h272 (GL := GL) x hx
 refine ⟨r, h1, ?_⟩
 refine k239.pure (by simp) (by simp [go_sem]) (by simp [go_sem]) ?_
 simp -implicitDefEqProofs only [c239, r239, go_sem]
 refine aC hC h2 ?_
 simp -implicitDefEqProofs only [go_sem]
 refine aF ?_ ?_ <;> simp [go_sem]
theorem h304 (x : Nat) (hx : 0 < x /\ x < 2 ^ 24) : ∃ m : Nat, (0 < m /\ m <= 2 * x) /\ Pure (PC GL) 304 [.i x] (.v (.int .u64 m)) := by
 obtain ⟨r, h1, h2⟩ := h239 (GL := GL) x hx
 have hr : r < 64 := by
  by_cases h : r < 64
  ·exact h
  ·have : 2 ^ 64 <= 2 ^ r := Nat.pow_le_pow_right (by omega) (by omega)
   omega
 refine ⟨2 ^ r, ⟨Nat.two_pow_pos r, h1.2⟩, ?_⟩
 have w1 := u64w x (by omega)
 have w2 : IntKind.u64.wrap (1 * 2 ^ min ((r : Int)).toNat 64) = ((2 ^ r : Nat) : Int) := by
  rw [Int.toNat_natCast, Nat.min_eq_left (by omega), Int.one_mul, show ((2 : Int) ^ r) = ((2 ^ r : Nat) : Int) by rw [Int.natCast_pow]; rfl]
  exact u64w _ (by omega)
 have w3 := w2
 rw [Int.toNat_natCast] at w3
 have nr : ((r : Int) < 0) = False := by simp
 refine k304.pure (by simp) (by simp [go_sem]) (by simp [go_sem]) ?_
 simp -implicitDefEqProofs only [c304, r304, go_sem]
 simp -implicitDefEqProofs only [go_sem, w1]
 refine aC hC h2 ?_
 simp -implicitDefEqProofs only [go_sem, shiftBin, nr, if_false, w3]
 refine aF ?_ ?_ <;> simp [go_sem]
theorem and_le (r : Int) (m : Nat) : (BitVec.ofInt 64 r &&& BitVec.ofInt 64 (m : Int)).toNat <= m := by
 rw [BitVec.toNat_and]
 refine Nat.le_trans Nat.and_le_right ?_
 rw [BitVec.toNat_ofInt]
 have : ((m : Int) % ((2 ^ 64 : Nat) : Int)).toNat = m % 2 ^ 64 := by omega
 rw [this]
 exact Nat.mod_le _ _
theorem h294 (l0 : List Int) (a b : Nat) (hab : a + 12 < b) (hb : b <= l0.length) (hl : l0.length < 2 ^ 24) (k : Nat) (h : List AObj) (hk : h[k]? = some (.buf 3 1 (l0.map encI))) :
  Gives (PC GL) 294 [.vec k 1 l0.length, .i a, .i b] h fun _ h' => ∃ l', SegP a b l0 l' /\ h'[k]? = some (.buf 3 1 (l'.map encI)) /\ Keep (fun i _ => i = k) h h' := by
 obtain ⟨L, hL⟩ : ∃ L : Nat, L = b - a := ⟨_, rfl⟩
 obtain ⟨M, hM, q304⟩ := h304 (GL := GL) L (by omega)
 have wL : IntKind.i64.wrap ((b : Int) - (a : Int)) = (L : Int) := by rw [aD _ (by omega)]; omega
 have wU := u64w L (by omega)
 have wq : IntKind.i64.wrap (Int.tdiv (L : Int) 4) = ((L / 4 : Nat) : Int) := by
  rw [show Int.tdiv (L : Int) 4 = ((L / 4 : Nat) : Int) from by rw [Int.tdiv_eq_ediv_of_nonneg (by omega)]; omega]
  exact aD _ (by omega)
 have wm : IntKind.i64.wrap (((L / 4 : Nat) : Int) * 2) = ((L / 4 * 2 : Nat) : Int) := by rw [aD _ (by omega)]; omega
 have wa : IntKind.i64.wrap ((a : Int) + ((L / 4 * 2 : Nat) : Int)) = ((a + L / 4 * 2 : Nat) : Int) := by rw [aD _ (by omega)]; omega
 obtain ⟨q, hq⟩ : ∃ q : Nat, q = a + L / 4 * 2 - 1 := ⟨_, rfl⟩
 have ws : IntKind.i64.wrap (((a + L / 4 * 2 : Nat) : Int) - 1) = ((q + 0 : Nat) : Int) := by rw [aD _ (by omega)]; omega
 have wt : IntKind.i64.wrap (((a + L / 4 * 2 : Nat) : Int) + 1) = ((q + 2 : Nat) : Int) := by rw [aD _ (by omega)]; omega
 have d8 : decide ((L : Int) >= 8) = true := decide_eq_true (by omega)
 have wM : IntKind.u64.wrap ((M : Int) - 1) = ((M - 1 : Nat) : Int) := by rw [show (M : Int) - 1 = ((M - 1 : Nat) : Int) by omega]; exact u64w _ (by omega)
 have n4 : ((4 : Int) = 0) = False := by simp
 refine k294.gives (by simp) ?_
 simp -implicitDefEqProofs only [go_sem, c294, r294, wL, d8, wU]
 have hkc : k ≠ h.length := by have := aQ hk; omega
 refine aC hC q304 ?_
 simp -implicitDefEqProofs only [go_sem, wq, wm, wa, ws, n4, if_false]
 refine bB hC (fun t (_ : List Int × Int) => [(9, .i ((q + t : Nat) : Int)), (0, .vec k 1 l0.length), (1, .i a), (6, .i L), (7, .ref h.length 0), (8, .v (.int .u64 M))]) (fun t a' h' => SegP a b l0 a'.1 /\ h'[k]? = some (.buf 3 1 (a'.1.map encI)) /\ h'[h.length]? = some (.cells 296 [.v (.int .u64 a'.2)]) /\ Keep (fun i _ => i = k) h h') 3 ⟨(l0, (L : Int)), _, Wk.pick (by simp) (by simp [go_sem]), SegP.refl _ _ _, aG hk, by rw [get_at]; rfl, Keep.app _ _ _⟩ fun t a' h1 ht ⟨g1, g2, g3, g4⟩ => ?_
 obtain ⟨l, r⟩ := a'
 dsimp only at g1 g2 g3
 have hlen : l0.length = l.length := g1.1.symm
 simp -implicitDefEqProofs only [go_sem, wq, wm, wa, wt, n4, if_false]
 by_cases hlt : t < 3
 ·have d1 : decide (((q + t : Nat) : Int) <= ((q + 2 : Nat) : Int)) = true := decide_eq_true (by omega)
  have w5 : IntKind.i64.wrap (((q + t : Nat) : Int) + 1) = ((q + (t + 1) : Nat) : Int) := by rw [aD _ (by omega)]; omega
  simp -implicitDefEqProofs only [go_sem, d1]
  refine aH hC (h305 _ 296 r h1 g3) fun x h2 ⟨r2, hx, c2, k2⟩ => ?_
  subst hx
  have b2 := k2.get g2 hkc
  have kk : Keep (fun i _ => i = k) h h2 := g4.trans' k2 fun i o hi e => by have := aQ hi; omega
  obtain ⟨o, ho, hob⟩ : ∃ o : Nat, IntKind.i64.wrap (bitAnd .u64 r2 ((M - 1 : Nat) : Int)) = (o : Int) /\ o < 2 * L := by
   have := and_le r2 (M - 1)
   refine ⟨(BitVec.ofInt 64 r2 &&& BitVec.ofInt 64 ((M - 1 : Nat) : Int)).toNat, ?_, by omega⟩
   rw [bitAnd]
   show IntKind.i64.wrap (IntKind.u64.wrap ((BitVec.ofInt 64 r2 &&& BitVec.ofInt 64 ((M - 1 : Nat) : Int)).toNat : Int)) = _
   rw [u64w _ (by omega), aD _ (by omega)]
  have hqt : q + t < l.length := by omega
  have hqb : a <= q + t /\ q + t < b := by omega
  generalize hqq : q + t = e at *
  have e1 := aI hqt
  simp -implicitDefEqProofs only [go_sem, wM, ho]
  by_cases hoL : o >= L
  ·have d2 : decide ((o : Int) >= (L : Int)) = true := decide_eq_true (by omega)
   obtain ⟨p, hp⟩ : ∃ p : Nat, p = o - L := ⟨_, rfl⟩
   have wp : IntKind.i64.wrap ((o : Int) - (L : Int)) = (p : Int) := by rw [aD _ (by omega)]; omega
   simp -implicitDefEqProofs only [go_sem, d2, wp]
   have wap : IntKind.i64.wrap ((a : Int) + (p : Int)) = ((a + p : Nat) : Int) := by rw [aD _ (by omega)]; omega
   have hpl : a + p < l.length := by omega
   have e2 := aI hpl
   simp -implicitDefEqProofs only [go_sem, wap, b2, hlen, bnd hqt, bnd hpl, e1, e2, aL b2, bJ hpl, w5, List.length_map, List.length_set, aO, Int.toNat_natCast, true_and, aP, bD, List.set_set, bU]
   have c3 := (aT (o := .buf 3 1 ((swp l e (a + p)).map encI)) hkc).trans c2
   exact ⟨hlt, (swp l e (a + p), r2), _, Wk.pick (by simpa using kk.1) (by simp [go_sem]), g1.trans (SegP.swp (by omega) (by omega) (by omega)), aL b2, c3, kk.trans (Keep.set _ b2 rfl)⟩
  ·have d2 : decide ((o : Int) >= (L : Int)) = false := decide_eq_false (by omega)
   obtain ⟨p, hp⟩ : ∃ p : Nat, p = o := ⟨_, rfl⟩
   rw [<- hp] at d2 ho ⊢
   simp -implicitDefEqProofs only [go_sem, d2]
   have wap : IntKind.i64.wrap ((a : Int) + (p : Int)) = ((a + p : Nat) : Int) := by rw [aD _ (by omega)]; omega
   have hpl : a + p < l.length := by omega
   have e2 := aI hpl
   simp -implicitDefEqProofs only [go_sem, wap, b2, hlen, bnd hqt, bnd hpl, e1, e2, aL b2, bJ hpl, w5, List.length_map, List.length_set, aO, Int.toNat_natCast, true_and, aP, bD, List.set_set, bU]
   have c3 := (aT (o := .buf 3 1 ((swp l e (a + p)).map encI)) hkc).trans c2
   exact ⟨hlt, (swp l e (a + p), r2), _, Wk.pick (by simpa using kk.1) (by simp [go_sem]), g1.trans (SegP.swp (by omega) (by omega) (by omega)), aL b2, c3, kk.trans (Keep.set _ b2 rfl)⟩
 ·have d1 : decide (((q + t : Nat) : Int) <= ((q + 2 : Nat) : Int)) = false := decide_eq_false (by omega)
  simp -implicitDefEqProofs only [go_sem, d1]
  exact aK g4.1 ⟨l, g1, g2, g4⟩
end Go.Rip
