/- Numbers are sorted: slices.Sort. -/
import Derived.Test.YtndcajdameofjaaGreatDoorRipBC
import Derived.Test.YtndcajdameofjaaGreatDoorRipAX
import Derived.Test.YtndcajdameofjaaGreatDoorRipAI
namespace Go.Rip
open Go
set_option maxRecDepth 100000
variable {GL : Glob}
theorem h227 (l0 : List Int) (h0 : 0 < l0.length) (hl : l0.length < 2 ^ 24) (k : Nat) (h : List AObj) (hk : h[k]? = some (.buf 3 1 (l0.map encI))) :
  Gives (PC GL) 227 [.vec k 1 l0.length] h fun _ h' => ∃ l', l0.Perm l' /\ Srt 0 l0.length l' /\ h'[k]? = some (.buf 3 1 (l'.map encI)) /\ Keep (fun i _ => i = k) h h' := by
 obtain ⟨r, -, q⟩ := h239 (GL := GL) l0.length ⟨h0, hl⟩
 have wU := u64w l0.length (by omega)
 refine k227.gives (by simp) ?_
 simp -implicitDefEqProofs only [go_sem, c227, r227, wU]
 refine aC hC q ?_
 simp -implicitDefEqProofs only [go_sem]
 refine aH hC (h258 _ l0 0 l0.length r rfl (Nat.zero_le _) (Nat.le_refl _) hl (.inl rfl) k h hk) fun x h2 ⟨l2, s1, s2, b3, k1⟩ => ?_
 simp -implicitDefEqProofs only [go_sem]
 exact aK k1.1 ⟨l2, s1.2.1, s2, b3, k1⟩
end Go.Rip
namespace Go.Rip
open Go
set_option maxRecDepth 100000
def mkd (l : List Bool) (i : Nat) : Bool := l.getD i false
theorem mkd_lt {l : List Bool} {i : Nat} (h : mkd l i = true) : i < l.length := by
 rcases Nat.lt_or_ge i l.length with g | g
 ·exact g
 ·simp [mkd, List.getD, List.getElem?_eq_none g] at h
theorem mkd_get {l : List Bool} {i : Nat} (h : i < l.length) : mkd l i = l[i] := by simp [mkd, List.getD, h]
theorem mkd_ext {l l' : List Bool} (hl : l.length = l'.length) (h : ∀ i, mkd l i = mkd l' i) : l = l' := by
 apply List.ext_getElem hl
 intro i h1 h2
 rw [<- mkd_get h1, <- mkd_get h2]; exact h i
theorem mkd_set {l : List Bool} {i j : Nat} (hi : i < l.length) : mkd (l.set i true) j = (mkd l j || j == i) := by
 by_cases h : j = i
 ·subst h; simp [mkd, List.getD, hi]
 ·simp only [mkd, List.getD, List.getElem?_set_ne (fun e => h e.symm)]
  simp [h]
def Sub (a b : List Bool) : Prop := ∀ i, mkd a i = true -> mkd b i = true
theorem Sub.refl (a : List Bool) : Sub a a := fun _ h => h
theorem Sub.trans {a b c : List Bool} (h : Sub a b) (k : Sub b c) : Sub a c := fun i x => k i (h i x)
theorem Sub.eq {a b : List Bool} (h : Sub a b) (k : Sub b a) (hl : a.length = b.length) : a = b :=
 mkd_ext hl fun i => by rw [Bool.eq_iff_iff]; exact ⟨h i, k i⟩
theorem Sub.set {l : List Bool} {i : Nat} (hi : i < l.length) : Sub l (l.set i true) := fun j h => by rw [mkd_set hi, h]; rfl
def cntB (l : List Bool) : Nat := l.count true
theorem Sub.cnt : ∀ {a b : List Bool}, Sub a b -> a.length = b.length -> cntB a <= cntB b /\ (cntB a = cntB b -> a = b)
 | [], [], _, _ => ⟨Nat.le_refl _, fun _ => rfl⟩
 | [], _ :: _, _, h => by simp at h
 | _ :: _, [], _, h => by simp at h
 | x :: xs, y :: ys, h, hl => by
  have h0 := h 0
  have ht : Sub xs ys := fun i hi => by
   have := h (i + 1)
   simp only [mkd, List.getD_cons_succ] at this
   exact this hi
  obtain ⟨i1, i2⟩ := Sub.cnt ht (by simpa using hl)
  simp only [mkd, List.getD_cons_zero] at h0
  simp only [cntB, List.count_cons] at i1 i2 ⊢
  cases x <;> cases y <;> simp at h0 ⊢
  ·exact ⟨i1, i2⟩
  ·exact ⟨by omega, fun e => by omega⟩
  ·exact ⟨i1, i2⟩
def Clo (G : Nat -> List Nat) (l : List Bool) : Prop := ∀ i, mkd l i = true -> ∀ k ∈ G i, mkd l k = true
structure Viss (G : Nat -> List Nat) (ks : List Nat) (l l' : List Bool) : Prop where
 n : l'.length = l.length
 s : Sub l l'
 m : ∀ k ∈ ks, mkd l' k = true
 c : ∀ x, mkd l' x = true -> mkd l x = false -> ∀ k ∈ G x, mkd l' k = true
 t : ∀ T, Clo G T -> (∀ k ∈ ks, mkd T k = true) -> ∀ x, mkd l' x = true -> mkd l x = true ∨ mkd T x = true
theorem Viss.nil {G : Nat -> List Nat} {l : List Bool} : Viss G [] l l := ⟨rfl, Sub.refl _, fun _ h => by simp at h, fun x h1 h2 => (by rw [h1] at h2; cases h2), fun _ _ _ _ h => .inl h⟩
structure LC (G : Nat -> List Nat) (S : Nat -> Prop) (l : List Bool) : Prop where
 m : ∀ k, S k -> mkd l k = true
 c : Clo G l
 t : ∀ T, Clo G T -> (∀ k, S k -> mkd T k = true) -> Sub l T
theorem LC.eq {G : Nat -> List Nat} {S S' : Nat -> Prop} {l l' : List Bool} (h : LC G S l) (k : LC G S' l') (hs : ∀ i, S i ↔ S' i) (hl : l.length = l'.length) : l = l' :=
 Sub.eq (h.t l' k.c fun i hi => k.m i ((hs i).1 hi)) (k.t l h.c fun i hi => h.m i ((hs i).2 hi)) hl
structure Rnds (G : Nat -> List Nat) (r : Nat) (l l' : List Bool) : Prop where
 n : l'.length = l.length
 s : Sub l l'
 t : ∀ T, Clo G T -> Sub l T -> Sub l' T
 e : Clo G l' ∨ r + 1 <= cntB l'
theorem Rnds.zero {G : Nat -> List Nat} {l : List Bool} : Rnds G 0 l l := by
 refine ⟨rfl, Sub.refl _, fun _ _ h => h, ?_⟩
 rcases Nat.eq_zero_or_pos (cntB l) with h | h
 ·refine .inl fun i hi => ?_
  have := mkd_lt hi
  rw [mkd_get this] at hi
  rw [cntB, List.count_eq_zero] at h
  exact absurd (hi ▸ List.getElem_mem this) h
 ·exact .inr h
def ixsN (l : List Bool) (j : Nat) : List Int := ((List.range j).filter (mkd l)).map fun i : Nat => (i : Int)
def ixs (l : List Bool) : List Int := ixsN l l.length
theorem mem_ixsN {l : List Bool} {j : Nat} {x : Int} : x ∈ ixsN l j ↔ ∃ i : Nat, i < j /\ mkd l i = true /\ x = i := by
 simp only [ixsN, List.mem_map, List.mem_filter, List.mem_range]
 constructor
 ·rintro ⟨i, ⟨h1, h2⟩, rfl⟩; exact ⟨i, h1, h2, rfl⟩
 ·rintro ⟨i, h1, h2, rfl⟩; exact ⟨i, ⟨h1, h2⟩, rfl⟩
theorem mem_ixs {l : List Bool} {x : Int} : x ∈ ixs l ↔ ∃ i : Nat, mkd l i = true /\ x = i := by
 rw [ixs, mem_ixsN]
 constructor
 ·rintro ⟨i, _, h⟩; exact ⟨i, h⟩
 ·rintro ⟨i, h, e⟩; exact ⟨i, mkd_lt h, h, e⟩
theorem ixsN_incr (l : List Bool) (j : Nat) : (ixsN l j).Pairwise (· < ·) := by
 simp only [ixsN, List.pairwise_map]
 refine List.Pairwise.imp ?_ ((List.pairwise_lt_range (n := j)).filter _)
 intro a b h
 omega
theorem incr_eq : ∀ {a b : List Int}, a.Pairwise (· < ·) -> b.Pairwise (· < ·) -> (∀ x, x ∈ a ↔ x ∈ b) -> a = b
 | [], [], _, _, _ => rfl
 | [], y :: ys, _, _, h => by have := (h y).2 (by simp); simp at this
 | x :: xs, [], _, _, h => by have := (h x).1 (by simp); simp at this
 | x :: xs, y :: ys, ha, hb, h => by
  obtain ⟨a1, a2⟩ := List.pairwise_cons.1 ha
  obtain ⟨b1, b2⟩ := List.pairwise_cons.1 hb
  have e : x = y := by
   have h1 := (h x).1 (by simp)
   have h2 := (h y).2 (by simp)
   rcases List.mem_cons.1 h1 with h1 | h1
   ·exact h1
   ·rcases List.mem_cons.1 h2 with h2 | h2
    ·exact h2.symm
    ·have := b1 x h1; have := a1 y h2; omega
  subst e
  rw [incr_eq a2 b2 fun z => ?_]
  constructor
  ·intro hz
   have := a1 z hz
   rcases List.mem_cons.1 ((h z).1 (by simp [hz])) with e | e
   ·omega
   ·exact e
  ·intro hz
   have := b1 z hz
   rcases List.mem_cons.1 ((h z).2 (by simp [hz])) with e | e
   ·omega
   ·exact e
theorem ixs_of {xs : List Int} {l : List Bool} (h : xs.Pairwise (· < ·)) (hm : ∀ x, x ∈ xs ↔ ∃ i : Nat, mkd l i = true /\ x = i) : xs = ixs l :=
 incr_eq h (ixsN_incr _ _) fun x => (hm x).trans mem_ixs.symm
def ded (l : List Int) : Nat -> List Int
 | 0 => []
 | j + 1 => if 0 < j /\ l.getD j 0 = l.getD (j - 1) 0 then ded l j else ded l j ++ [l.getD j 0]
theorem mem_ded (l : List Int) : ∀ (j : Nat) (x : Int), x ∈ ded l j ↔ ∃ i, i < j /\ x = l.getD i 0
 | 0, x => by simp [ded]
 | j + 1, x => by
  have ih := mem_ded l j x
  have step : (∃ i, i < j + 1 /\ x = l.getD i 0) ↔ (∃ i, i < j /\ x = l.getD i 0) ∨ x = l.getD j 0 := by
   constructor
   ·rintro ⟨i, h, e⟩
    by_cases hi : i = j
    ·subst hi; exact .inr e
    ·exact .inl ⟨i, by omega, e⟩
   ·rintro (⟨i, h, e⟩ | e)
    ·exact ⟨i, by omega, e⟩
    ·exact ⟨j, by omega, e⟩
  rw [step, ded]
  split
  ·rename_i h
   rw [ih]
   constructor
   ·exact .inl
   ·rintro (h' | h')
    ·exact h'
    ·exact ⟨j - 1, by omega, h'.trans h.2⟩
  ·rw [List.mem_append, ih, List.mem_singleton]
theorem ded_incr {l : List Int} (hs : Srt 0 l.length l) : ∀ j, j <= l.length -> (ded l j).Pairwise (· < ·)
 | 0, _ => by simp [ded]
 | j + 1, hj => by
  have ih := ded_incr hs j (by omega)
  rw [ded]
  split
  ·exact ih
  ·rename_i h
   rw [List.pairwise_append]
   refine ⟨ih, by simp, fun a ha b hb => ?_⟩
   rw [List.mem_singleton] at hb
   subst hb
   obtain ⟨i, hi, rfl⟩ := (mem_ded l j a).1 ha
   have h1 := hs (j - 1) j (by omega) (by omega) (by omega)
   have h2 : l.getD i 0 <= l.getD (j - 1) 0 := by
    by_cases e : i = j - 1
    ·rw [e]; exact Int.le_refl _
    ·exact hs i (j - 1) (by omega) (by omega) (by omega)
   have : l.getD j 0 ≠ l.getD (j - 1) 0 := fun e => h ⟨by omega, e⟩
   omega
theorem ded_take (l : List Int) : ∀ j, j <= l.length -> (∀ i, i + 1 < j -> l.getD (i + 1) 0 ≠ l.getD i 0) -> ded l j = l.take j
 | 0, _, _ => rfl
 | j + 1, hj, h => by
  rw [ded, ded_take l j (by omega) fun i hi => h i (by omega), if_neg, bH (by omega)]
  ·simp [List.getD, show j < l.length by omega]
  ·rintro ⟨h0, e⟩
   have := h (j - 1) (by omega)
   rw [Nat.sub_add_cancel h0] at this
   exact this e
end Go.Rip
namespace Go.Rip
open Go
set_option maxRecDepth 100000
variable {GL : Glob}
theorem put_len {l m : List AV} {p : Nat} (h : p + m.length <= l.length) : (put l p m).length = l.length := by
 simp only [put, List.length_append, List.length_take, List.length_drop]; omega
theorem put_take {l m : List AV} {p : Nat} (h : p <= l.length) : (put l p m).take p = l.take p := by
 rw [put, List.take_append_of_le_length (by simp; omega), List.take_take, Nat.min_self]
theorem ded_dup {l : List Int} {j : Nat} (h0 : 0 < j) (h : l.getD j 0 = l.getD (j - 1) 0) : ded l (j + 1) = ded l j := by rw [ded, if_pos ⟨h0, h⟩]
theorem ded_new {l : List Int} {j : Nat} (h : l.getD j 0 ≠ l.getD (j - 1) 0) : ded l (j + 1) = ded l j ++ [l.getD j 0] := by rw [ded, if_neg fun e => h e.2]
theorem drop_getD {c l : List Int} {a i : Nat} (h : c.drop a = l.drop a) (hi : a <= i) : c.getD i 0 = l.getD i 0 := by
 have : (c.drop a)[i - a]? = (l.drop a)[i - a]? := by rw [h]
 rw [List.getElem?_drop, List.getElem?_drop, show a + (i - a) = i by omega] at this
 simp only [List.getD, this]
theorem drop_step {c l : List Int} {a : Nat} (h : c.drop a = l.drop a) : c.drop (a + 1) = l.drop (a + 1) := by
 have := congrArg (List.drop 1) h
 rwa [List.drop_drop, List.drop_drop] at this
theorem h228d (l : List Int) (hl : l.length < 2 ^ 40) (k : Nat) (h : List AObj) (hk : h[k]? = some (.buf 3 1 (l.map encI))) :
  Gives (PC GL) 228 [.vec k 1 l.length] h fun x h' => (x = .vec k 1 l.length /\ h' = h /\ ded l l.length = l) ∨ ∃ b, x = .own b 1 ((ded l l.length).map encI) /\ Keep (fun i _ => i = k) h h' := by
 refine k228.gives (by simp) ?_
 simp -implicitDefEqProofs only [go_sem, c228, r228]
 by_cases h2 : l.length < 2
 ·have d0 : decide ((l.length : Int) < 2) = true := decide_eq_true (by omega)
  simp -implicitDefEqProofs only [go_sem, d0]
  exact aK (Nat.le_refl _) (.inl ⟨rfl, rfl, by rw [ded_take l _ (Nat.le_refl _) fun i hi => by omega, List.take_length]⟩)
 have d0 : decide ((l.length : Int) < 2) = false := decide_eq_false (by omega)
 simp -implicitDefEqProofs only [go_sem, d0]
 refine bB hC (fun t (_ : Unit) => [(3, .i ((1 + t : Nat) : Int)), (0, .vec k 1 l.length)]) (fun t (_ : Unit) h' => h' = h /\ ∀ i, i + 1 < 1 + t -> l.getD (i + 1) 0 ≠ l.getD i 0) (l.length - 1) ⟨(), h, Wk.pick (Nat.le_refl _) (by simp [go_sem]), rfl, fun i hi => by omega⟩ fun t _ h1 ht ⟨e, hI⟩ => ?_
 subst e
 simp -implicitDefEqProofs only [go_sem]
 by_cases hlt : 1 + t < l.length
 ·have d1 : decide (((1 + t : Nat) : Int) < (l.length : Int)) = true := decide_eq_true (by omega)
  have w1 : IntKind.i64.wrap (((1 + t : Nat) : Int) - 1) = ((t : Nat) : Int) := by rw [aD _ (by omega)]; omega
  have w2 : IntKind.i64.wrap (((1 + t : Nat) : Int) + 1) = ((1 + (t + 1) : Nat) : Int) := by rw [aD _ (by omega)]; omega
  have ht1 : t < l.length := by omega
  rcases he : l.getD (1 + t) 0 == l.getD t 0 with _ | _
  ·simp -implicitDefEqProofs only [go_sem, d1, w1, hk, bnd hlt, bnd ht1, aI hlt, aI ht1, he, w2, List.length_map, aO, Int.toNat_natCast, true_and, aP]
   refine ⟨by omega, (), h1, Wk.pick (Nat.le_refl _) (by simp [go_sem]), rfl, fun i hi => ?_⟩
   by_cases hit : i + 1 < 1 + t
   ·exact hI i hit
   ·have : i = t := by omega
    subst this
    rw [Nat.add_comm i 1]
    simpa using he
  ·have he : l.getD (1 + t) 0 = l.getD t 0 := by simpa using he
   have hb : (l.getD (1 + t) 0 == l.getD t 0) = true := by simpa using he
   have cd : (0 : Int) <= ((1 + t : Nat) : Int) /\ ((1 + t : Nat) : Int) < (l.length : Int) /\ l.length <= l.length := ⟨by omega, by omega, Nat.le_refl _⟩
   simp -implicitDefEqProofs only [go_sem, d1, w1, hk, bnd hlt, bnd ht1, aI hlt, aI ht1, hb, List.length_map, aO, Int.toNat_natCast, true_and, aP]
   refine ⟨cd, ?_⟩
   have hd0 : ded l (1 + t + 1) = l.take (1 + t) := by rw [ded_dup (by omega) (by rw [he]; congr 1; omega), ded_take l _ (by omega) fun i hi => hI i (by omega)]
   have hlt2 := hlt
   generalize hk0 : 1 + t = k0 at *
   refine bB hC (fun u (x : List Int × Nat) => [(5, .i ((1 + u : Nat) : Int)), (3, .i (x.2 : Int)), (4, .view k 1 k0 (l.length - k0)), (0, .vec k 1 l.length)]) (fun u x h' => h'[k]? = some (.buf 3 1 (x.1.map encI)) /\ x.1.length = l.length /\ x.1.take x.2 = ded l (k0 + 1 + u) /\ x.1.drop (k0 + u) = l.drop (k0 + u) /\ x.2 <= k0 + u /\ Keep (fun i _ => i = k) h1 h') (l.length - k0 - 1) ?_ fun u x h2 hu ⟨g1, g2, g3, g4, g5, g6⟩ => ?_
   ·refine ⟨(l, k0), h1, Wk.pick (Nat.le_refl _) (by simp [go_sem]), hk, rfl, ?_, rfl, by omega, Keep.refl _ _⟩
    rw [hd0]
   obtain ⟨c, kk⟩ := x
   dsimp only at g1 g2 g3 g4 g5
   simp only [<- g2]
   have hcl : c.length = l.length := g2
   have bl : Nat.ble (k0 + (c.length - k0)) c.length = true := Nat.ble_eq_true_of_le (by omega)
   simp -implicitDefEqProofs only [go_sem]
   by_cases hlu : 1 + u < c.length - k0
   ·have d2 : decide (((1 + u : Nat) : Int) < ((c.length - k0 : Nat) : Int)) = true := decide_eq_true (by omega)
    have w3 : IntKind.i64.wrap (((1 + u : Nat) : Int) - 1) = ((u : Nat) : Int) := by rw [aD _ (by omega)]; omega
    have w4 : IntKind.i64.wrap (((1 + u : Nat) : Int) + 1) = ((1 + (u + 1) : Nat) : Int) := by rw [aD _ (by omega)]; omega
    have w5 : IntKind.i64.wrap ((kk : Int) + 1) = ((kk + 1 : Nat) : Int) := by rw [aD _ (by omega)]; omega
    have b1 : bounds ((1 + u : Nat) : Int) (List.take (c.length - k0) (List.drop k0 (List.map encI c))).length = True := by simp [bounds]; omega
    have b2 : bounds ((u : Nat) : Int) (List.take (c.length - k0) (List.drop k0 (List.map encI c))).length = True := by simp [bounds]; omega
    have i1 : k0 + (1 + u) < c.length := by omega
    have i2 : k0 + u < c.length := by omega
    have i3 : kk < c.length := by omega
    have c1 : c.getD (k0 + (1 + u)) 0 = l.getD (k0 + 1 + u) 0 := by rw [drop_getD g4 (by omega), Nat.add_assoc]
    have c2 : c.getD (k0 + u) 0 = l.getD (k0 + 1 + u - 1) 0 := by rw [drop_getD g4 (by omega)]; congr 1; omega
    rcases hn : c.getD (k0 + (1 + u)) 0 != c.getD (k0 + u) 0 with _ | _
    ·simp -implicitDefEqProofs only [go_sem, d2, g1, bl, b1, b2, w3, w4, aI i1, aI i2, hn]
     refine ⟨by omega, (c, kk), h2, Wk.pick g6.1 (by simp [go_sem]), g1, rfl, ?_, drop_step g4, by dsimp only; omega, g6⟩
     show c.take kk = ded l (k0 + 1 + u + 1)
     rw [ded_dup (by omega) (by rw [<- c1, <- c2]; simpa using hn)]; exact g3
    ·simp -implicitDefEqProofs only [go_sem, d2, g1, bl, b1, b2, w3, w4, w5, aI i1, aI i2, hn, bnd i3, aI i3, List.length_map, aO, Int.toNat_natCast, true_and, aP]
     refine ⟨by omega, (c.set kk (c.getD (k0 + (1 + u)) 0), kk + 1), _, Wk.pick (by simpa using g6.1) (by simp [go_sem]), ?_, by simp, ?_, ?_, by dsimp only; omega, g6.trans (Keep.set _ g1 rfl)⟩
     ·rw [aL g1, List.map_set]; rfl
     ·show (c.set kk (c.getD (k0 + (1 + u)) 0)).take (kk + 1) = ded l (k0 + 1 + u + 1)
      rw [ded_new (by rw [<- c1, <- c2]; simpa using hn), <- g3, <- c1]
      rw [List.take_succ_eq_append_getElem (by simpa using i3)]
      simp [List.take_set_of_le]
     ·show (c.set kk (c.getD (k0 + (1 + u)) 0)).drop (k0 + u + 1) = l.drop (k0 + u + 1)
      rw [List.drop_set_of_lt (by omega)]
      exact drop_step g4
   ·have d2 : decide (((1 + u : Nat) : Int) < ((c.length - k0 : Nat) : Int)) = false := decide_eq_false (by omega)
    have hend : k0 + 1 + u = c.length := by omega
    have q1 : (0 : Int) <= (kk : Int) /\ (kk : Int) < (c.length : Int) /\ c.length <= c.length := ⟨by omega, by omega, Nat.le_refl _⟩
    have q2 : kk + (c.length - kk) <= c.length := by omega
    have pl : (put (c.map encI) kk (List.replicate (c.length - kk) (.v (.int .i64 0)))).length = c.length := by rw [put_len (by simp; omega)]; simp
    have pt : (put (c.map encI) kk (List.replicate (c.length - kk) (.v (.int .i64 0)))).take kk = (ded l c.length).map encI := by rw [put_take (by simp; omega), <- List.map_take, g3, hend]
    simp -implicitDefEqProofs only [go_sem, d2, g1, List.length_map, List.length_set, Int.toNat_natCast, true_and, List.set_set]
    refine ⟨q1, ?_⟩
    refine ⟨q2, ?_⟩
    simp -implicitDefEqProofs only [go_sem, aL g1, Int.toNat_natCast, true_and]
    refine ⟨⟨by omega, by omega, ?_⟩, ?_⟩
    ·rw [pl]; exact Nat.le_refl _
    rw [pt]
    refine aK ?_ (.inr ⟨_, by rw [hcl], ?_⟩)
    ·simp; have := g6.1; omega
    ·exact (g6.trans (Keep.set _ g1 rfl)).trans (Keep.app _ _ _)
 ·have d1 : decide (((1 + t : Nat) : Int) < (l.length : Int)) = false := decide_eq_false (by omega)
  simp -implicitDefEqProofs only [go_sem, d1]
  exact aK (Nat.le_refl _) (.inl ⟨rfl, rfl, by rw [ded_take l _ (Nat.le_refl _) fun i hi => hI i (by omega), List.take_length]⟩)
end Go.Rip
