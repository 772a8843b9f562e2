/- Numbers that differ: slices.Compact leaves them. -/
import Derived.Test.YtndcajdameofjaaGreatDoorRipAZ
import Derived.Test.YtndcajdameofjaaGreatDoorRipBC
import Derived.Test.YtndcajdameofjaaGreatDoorRipAJ
namespace Go.Rip
open Go
set_option maxRecDepth 100000
variable {GL : Glob}
end Go.Rip
namespace Go.Rip
open Go
set_option maxRecDepth 100000
def mkd (l : List Bool) (i : Nat) : Bool := l.getD i false
theorem dS {l : List Bool} {i : Nat} (h : mkd l i = true) : i < l.length := by
 rcases Fq i l.length with g | g
 ·exact g
 ·simp [mkd, List.getD, Fd g] at h
theorem eH {l : List Bool} {i : Nat} (h : i < l.length) : mkd l i = l[i] := by simp [mkd, List.getD, h]
theorem mkd_ext {l l' : List Bool} (hl : l.length = l'.length) (h : ∀ i, mkd l i = mkd l' i) : l = l' := by
 apply Ew hl
 intro i h1 h2
 rw [<- eH h1, <- eH h2]; exact h i
theorem iR {l : List Bool} {i j : Nat} (hi : i < l.length) : mkd (l.set i true) j = (mkd l j || j == i) := by
 by_cases h : j = i
 ·subst h; simp [mkd, List.getD, hi]
 ·simp only [mkd, List.getD, Au (fun e => h e.symm)]
  simp [h]
theorem nS (n i : Nat) : mkd (List.replicate n false) i = false := by
 simp only [mkd, List.getD, List.getElem?_replicate]; split <;> rfl
def Sub (a b : List Bool) : Prop := ∀ i, mkd a i = true -> mkd b i = true
theorem Sub.refl (a : List Bool) : Sub a a := fun _ h => h
theorem Sub.trans {a b c : List Bool} (h : Sub a b) (k : Sub b c) : Sub a c := fun i x => k i (h i x)
theorem Sub.eq {a b : List Bool} (h : Sub a b) (k : Sub b a) (hl : a.length = b.length) : a = b :=
 mkd_ext hl fun i => by rw [Ce]; exact ⟨h i, k i⟩
theorem Sub.set {l : List Bool} {i : Nat} (hi : i < l.length) : Sub l (l.set i true) := fun j h => by rw [iR hi, h]; rfl
def cntB (l : List Bool) : Nat := l.count true
theorem iZ (l : List Bool) : cntB l <= l.length := List.count_le_length
theorem Sub.cnt : ∀ {a b : List Bool}, Sub a b -> a.length = b.length -> cntB a <= cntB b /\ (cntB a = cntB b -> a = b)
 | [], [], _, _ => ⟨Ak _, fun _ => rfl⟩
 | [], _ :: _, _, h => by simp at h
 | _ :: _, [], _, h => by simp at h
 | x :: xs, y :: ys, h, hl => by
  have h0 := h 0
  have ht : Sub xs ys := fun i hi => by
   have := h (i + 1)
   simp only [mkd, Fw] at this
   exact this hi
  obtain ⟨i1, i2⟩ := Sub.cnt ht (by simpa using hl)
  simp only [mkd, Ee] at h0
  simp only [cntB, List.count_cons] at i1 i2 ⊢
  cases x <;> cases y <;> simp at h0 ⊢
  ·exact ⟨i1, i2⟩
  ·exact ⟨by omega, fun e => by omega⟩
  ·exact ⟨i1, i2⟩
def Clo (G : Nat -> List Nat) (l : List Bool) : Prop := ∀ i, mkd l i = true -> ∀ k ∈ G i, mkd l k = true
structure Vis (G : Nat -> List Nat) (i : Nat) (l l' : List Bool) : Prop where
 n : l'.length = l.length
 s : Sub l l'
 m : mkd l' i = true
 c : ∀ x, mkd l' x = true -> mkd l x = false -> ∀ k ∈ G x, mkd l' k = true
 t : ∀ T, Clo G T -> mkd T i = true -> ∀ x, mkd l' x = true -> mkd l x = true ∨ mkd T x = true
structure Viss (G : Nat -> List Nat) (ks : List Nat) (l l' : List Bool) : Prop where
 n : l'.length = l.length
 s : Sub l l'
 m : ∀ k ∈ ks, mkd l' k = true
 c : ∀ x, mkd l' x = true -> mkd l x = false -> ∀ k ∈ G x, mkd l' k = true
 t : ∀ T, Clo G T -> (∀ k ∈ ks, mkd T k = true) -> ∀ x, mkd l' x = true -> mkd l x = true ∨ mkd T x = true
theorem Viss.nil {G : Nat -> List Nat} {l : List Bool} : Viss G [] l l := ⟨rfl, Sub.refl _, fun _ h => by simp at h, fun x h1 h2 => (by rw [h1] at h2; cases h2), fun _ _ _ _ h => .inl h⟩
theorem Viss.snoc {G : Nat -> List Nat} {ks : List Nat} {k : Nat} {l l1 l2 : List Bool} (h : Viss G ks l l1) (v : Vis G k l1 l2) : Viss G (ks ++ [k]) l l2 := by
 refine ⟨v.n.trans h.n, h.s.trans v.s, fun j hj => ?_, fun x h1 h2 j hj => ?_, fun T hT hk x hx => ?_⟩
 ·rcases Az.1 hj with hj | hj
  ·exact v.s j (h.m j hj)
  ·rw [Cp.1 hj]; exact v.m
 ·rcases hx1 : mkd l1 x with _ | _
  ·exact v.c x h1 hx1 j hj
  ·exact v.s j (h.c x hx1 h2 j hj)
 ·rcases v.t T hT (hk k (by simp)) x hx with h1 | h1
  ·exact h.t T hT (fun j hj => hk j (by simp [hj])) x h1
  ·exact .inr h1
theorem Vis.seen {G : Nat -> List Nat} {i : Nat} {l : List Bool} (h : mkd l i = true) : Vis G i l l := ⟨rfl, Sub.refl _, h, fun x h1 h2 => (by rw [h1] at h2; cases h2), fun _ _ _ _ h => .inl h⟩
theorem Vis.of {G : Nat -> List Nat} {i : Nat} {l l' : List Bool} (hi : i < l.length) (v : Viss G (G i) (l.set i true) l') : Vis G i l l' := by
 have h1 := Sub.set hi
 have hm : mkd (l.set i true) i = true := by rw [iR hi]; simp
 refine ⟨by rw [v.n]; simp, h1.trans v.s, v.s i hm, fun x hx hn k hk => ?_, fun T hT hTi x hx => ?_⟩
 ·by_cases e : x = i
  ·subst e; exact v.m k hk
  ·exact v.c x hx (by rw [iR hi, hn]; simpa using e) k hk
 ·rcases v.t T hT (fun k hk => hT i hTi k hk) x hx with h | h
  ·rw [iR hi, Dn] at h
   rcases h with h | h
   ·exact .inl h
   ·rw [beq_iff_eq] at h; subst h; exact .inr hTi
  ·exact .inr h
structure LC (G : Nat -> List Nat) (S : Nat -> Prop) (l : List Bool) : Prop where
 m : ∀ k, S k -> mkd l k = true
 c : Clo G l
 t : ∀ T, Clo G T -> (∀ k, S k -> mkd T k = true) -> Sub l T
theorem LC.eq {G : Nat -> List Nat} {S S' : Nat -> Prop} {l l' : List Bool} (h : LC G S l) (k : LC G S' l') (hs : ∀ i, S i ↔ S' i) (hl : l.length = l'.length) : l = l' :=
 Sub.eq (h.t l' k.c fun i hi => k.m i ((hs i).1 hi)) (k.t l h.c fun i hi => h.m i ((hs i).2 hi)) hl
theorem Viss.lc {G : Nat -> List Nat} {ks : List Nat} {n : Nat} {l : List Bool} (v : Viss G ks (List.replicate n false) l) : LC G (· ∈ ks) l :=
 ⟨v.m, fun i hi k hk => v.c i hi (nS _ _) k hk, fun T hT hk i hi => (v.t T hT hk i hi).resolve_left (by rw [nS]; simp)⟩
structure Rnd (G : Nat -> List Nat) (l l' : List Bool) : Prop where
 n : l'.length = l.length
 s : Sub l l'
 m : ∀ i, mkd l i = true -> ∀ k ∈ G i, mkd l' k = true
 t : ∀ T, Clo G T -> Sub l T -> Sub l' T
structure Rnds (G : Nat -> List Nat) (r : Nat) (l l' : List Bool) : Prop where
 n : l'.length = l.length
 s : Sub l l'
 t : ∀ T, Clo G T -> Sub l T -> Sub l' T
 e : Clo G l' ∨ r + 1 <= cntB l'
theorem Rnds.zero {G : Nat -> List Nat} {l : List Bool} : Rnds G 0 l l := by
 refine ⟨rfl, Sub.refl _, fun _ _ h => h, ?_⟩
 rcases Nat.eq_zero_or_pos (cntB l) with h | h
 ·refine .inl fun i hi => ?_
  have := dS hi
  rw [eH this] at hi
  rw [cntB, List.count_eq_zero] at h
  exact absurd (hi ▸ Ao this) h
 ·exact .inr h
theorem Rnds.succ {G : Nat -> List Nat} {r : Nat} {l l1 l2 : List Bool} (h : Rnds G r l l1) (k : Rnd G l1 l2) : Rnds G (r + 1) l l2 := by
 refine ⟨k.n.trans h.n, h.s.trans k.s, fun T hT hl => k.t T hT (h.t T hT hl), ?_⟩
 rcases h.e with e | e
 ·have := k.t l1 e (Sub.refl _)
  have : l2 = l1 := Sub.eq this k.s k.n
  subst this
  exact .inl e
 ·obtain ⟨c1, c2⟩ := k.s.cnt k.n.symm
  by_cases he : cntB l1 = cntB l2
  ·have := c2 he
   subst this
   exact .inl fun i hi j hj => k.m i hi j hj
  ·exact .inr (by omega)
theorem Rnds.lc {G : Nat -> List Nat} {l l' : List Bool} (h : Rnds G l.length l l') : LC G (fun k => mkd l k = true) l' := by
 refine ⟨h.s, ?_, fun T hT hk => h.t T hT hk⟩
 rcases h.e with e | e
 ·exact e
 ·have := iZ l'
  rw [h.n] at this
  omega
def ixsN (l : List Bool) (j : Nat) : List Int := ((List.range j).filter (mkd l)).map fun i : Nat => (i : Int)
def ixs (l : List Bool) : List Int := ixsN l l.length
theorem ixsN_succ (l : List Bool) (j : Nat) : ixsN l (j + 1) = if mkd l j then ixsN l j ++ [(j : Int)] else ixsN l j := by
 simp only [ixsN, Fz, List.filter_append, De]
 rcases h : mkd l j with _ | _ <;> simp [h]
theorem mem_ixsN {l : List Bool} {j : Nat} {x : Int} : x ∈ ixsN l j ↔ ∃ i : Nat, i < j /\ mkd l i = true /\ x = i := by
 simp only [ixsN, Bq, Ed, Cn]
 constructor
 ·rintro ⟨i, ⟨h1, h2⟩, rfl⟩; exact ⟨i, h1, h2, rfl⟩
 ·rintro ⟨i, h1, h2, rfl⟩; exact ⟨i, ⟨h1, h2⟩, rfl⟩
theorem mem_ixs {l : List Bool} {x : Int} : x ∈ ixs l ↔ ∃ i : Nat, mkd l i = true /\ x = i := by
 rw [ixs, mem_ixsN]
 constructor
 ·rintro ⟨i, _, h⟩; exact ⟨i, h⟩
 ·rintro ⟨i, h, e⟩; exact ⟨i, dS h, h, e⟩
theorem ixsN_len (l : List Bool) (j : Nat) : (ixsN l j).length <= j := by
 simp only [ixsN, Af]
 have := Dl (mkd l) (List.range j)
 simpa using this
theorem ixsN_incr (l : List Bool) (j : Nat) : (ixsN l j).Pairwise (· < ·) := by
 simp only [ixsN, Fg]
 refine List.Pairwise.imp ?_ ((List.pairwise_lt_range (n := j)).filter _)
 intro a b h
 omega
theorem incr_eq : ∀ {a b : List Int}, a.Pairwise (· < ·) -> b.Pairwise (· < ·) -> (∀ x, x ∈ a ↔ x ∈ b) -> a = b
 | [], [], _, _, _ => rfl
 | [], y :: ys, _, _, h => by have := (h y).2 (by simp); simp at this
 | x :: xs, [], _, _, h => by have := (h x).1 (by simp); simp at this
 | x :: xs, y :: ys, ha, hb, h => by
  obtain ⟨a1, a2⟩ := Dd.1 ha
  obtain ⟨b1, b2⟩ := Dd.1 hb
  have e : x = y := by
   have h1 := (h x).1 (by simp)
   have h2 := (h y).2 (by simp)
   rcases Ar.1 h1 with h1 | h1
   ·exact h1
   ·rcases Ar.1 h2 with h2 | h2
    ·exact h2.symm
    ·have := b1 x h1; have := a1 y h2; omega
  subst e
  rw [incr_eq a2 b2 fun z => ?_]
  constructor
  ·intro hz
   have := a1 z hz
   rcases Ar.1 ((h z).1 (by simp [hz])) with e | e
   ·omega
   ·exact e
  ·intro hz
   have := b1 z hz
   rcases Ar.1 ((h z).2 (by simp [hz])) with e | e
   ·omega
   ·exact e
theorem ixs_of {xs : List Int} {l : List Bool} (h : xs.Pairwise (· < ·)) (hm : ∀ x, x ∈ xs ↔ ∃ i : Nat, mkd l i = true /\ x = i) : xs = ixs l :=
 incr_eq h (ixsN_incr _ _) fun x => (hm x).trans mem_ixs.symm
def ded (l : List Int) : Nat -> List Int
 | 0 => []
 | j + 1 => if 0 < j /\ l.getD j 0 = l.getD (j - 1) 0 then ded l j else ded l j ++ [l.getD j 0]
theorem sW (l : List Int) : ∀ (j : Nat) (x : Int), x ∈ ded l j ↔ ∃ i, i < j /\ x = l.getD i 0
 | 0, x => by simp [ded]
 | j + 1, x => by
  have ih := sW l j x
  have step : (∃ i, i < j + 1 /\ x = l.getD i 0) ↔ (∃ i, i < j /\ x = l.getD i 0) ∨ x = l.getD j 0 := by
   constructor
   ·rintro ⟨i, h, e⟩
    by_cases hi : i = j
    ·subst hi; exact .inr e
    ·exact .inl ⟨i, by omega, e⟩
   ·rintro (⟨i, h, e⟩ | e)
    ·exact ⟨i, by omega, e⟩
    ·exact ⟨j, by omega, e⟩
  rw [step, ded]
  split
  ·rename_i h
   rw [ih]
   constructor
   ·exact .inl
   ·rintro (h' | h')
    ·exact h'
    ·exact ⟨j - 1, by omega, h'.trans h.2⟩
  ·rw [Az, ih, Cp]
theorem wK {l : List Int} (hs : Srt 0 l.length l) : ∀ j, j <= l.length -> (ded l j).Pairwise (· < ·)
 | 0, _ => by simp [ded]
 | j + 1, hj => by
  have ih := wK hs j (by omega)
  rw [ded]
  split
  ·exact ih
  ·rename_i h
   rw [List.pairwise_append]
   refine ⟨ih, by simp, fun a ha b hb => ?_⟩
   rw [Cp] at hb
   subst hb
   obtain ⟨i, hi, rfl⟩ := (sW l j a).1 ha
   have h1 := hs (j - 1) j (by omega) (by omega) (by omega)
   have h2 : l.getD i 0 <= l.getD (j - 1) 0 := by
    by_cases e : i = j - 1
    ·rw [e]; exact Da _
    ·exact hs i (j - 1) (by omega) (by omega) (by omega)
   have : l.getD j 0 ≠ l.getD (j - 1) 0 := fun e => h ⟨by omega, e⟩
   omega
theorem kJ (l : List Int) : ∀ j, j <= l.length -> (∀ i, i + 1 < j -> l.getD (i + 1) 0 ≠ l.getD i 0) -> ded l j = l.take j
 | 0, _, _ => rfl
 | j + 1, hj, h => by
  rw [ded, kJ l j (by omega) fun i hi => h i (by omega), if_neg, bE (by omega)]
  ·simp [List.getD, show j < l.length by omega]
  ·rintro ⟨h0, e⟩
   have := h (j - 1) (by omega)
   rw [Nat.sub_add_cancel h0] at this
   exact this e
def toM (M : List (List Bool)) (i k : Nat) : Bool := mkd (M.getD i []) k
def oneM (M : List (List Bool)) (i k : Nat) : Bool := i == k || (toM M i k && toM M k i)
def okM (M : List (List Bool)) (done : List Bool) (i k : Nat) : Bool := !toM M i k || (mkd done k || oneM M i k)
def freeM (n : Nat) (M : List (List Bool)) (done : List Bool) (i : Nat) : Bool := !mkd done i && (List.range n).all (okM M done i)
def nextM (n : Nat) (M : List (List Bool)) (done : List Bool) : Option Nat := (List.range n).find? (freeM n M done)
def markM (n : Nat) (M : List (List Bool)) (done : List Bool) (i : Nat) : List Bool := (List.range n).map fun k => mkd done k || oneM M i k
def compM (n : Nat) (M : List (List Bool)) (i : Nat) : List Int := ((List.range n).filter (oneM M i)).map fun k : Nat => (k : Int)
def comps (n : Nat) (M : List (List Bool)) : Nat -> List Bool -> List (List Int)
 | 0, _ => []
 | f + 1, done => match nextM n M done with
  | none => []
  | some i => compM n M i :: comps n M f (markM n M done i)
theorem eM (n : Nat) (M : List (List Bool)) (done : List Bool) (i : Nat) : (markM n M done i).length = n := by simp [markM]
theorem jD {n : Nat} {M : List (List Bool)} {done : List Bool} {i k : Nat} (h : k < n) : mkd (markM n M done i) k = (mkd done k || oneM M i k) := by simp [mkd, markM, List.getD, h]
theorem gH {n : Nat} {M : List (List Bool)} {done : List Bool} {i : Nat} (h : nextM n M done = some i) : i < n /\ freeM n M done i = true /\ ∀ j, j < i -> freeM n M done j = false := by
 rw [nextM, List.find?_range_eq_some] at h
 refine ⟨Cn.1 h.2.1, h.1, fun j hj => ?_⟩
 simpa using h.2.2 j hj
theorem yD {n : Nat} {M : List (List Bool)} {done : List Bool} (h : ∀ j, j < n -> freeM n M done j = false) : nextM n M done = none := by
 rw [nextM, List.find?_eq_none]
 intro j hj
 rw [h j (Cn.1 hj)]; simp
theorem nextM_hit {n : Nat} {M : List (List Bool)} {done : List Bool} {i : Nat} (hi : i < n) (h : freeM n M done i = true) (h' : ∀ j, j < i -> freeM n M done j = false) : nextM n M done = some i := by
 rw [nextM, List.find?_range_eq_some]
 exact ⟨h, Cn.2 hi, fun j hj => by rw [h' j hj]; rfl⟩
theorem qM {n : Nat} {M : List (List Bool)} {done : List Bool} {i : Nat} (hl : done.length = n) (h : nextM n M done = some i) : cntB done + 1 <= cntB (markM n M done i) := by
 obtain ⟨h1, h2, -⟩ := gH h
 have hs : Sub done (markM n M done i) := fun k hk => by
  have := dS hk
  rw [jD (by omega), hk]; rfl
 obtain ⟨c1, c2⟩ := hs.cnt (by rw [eM, hl])
 simp only [freeM, Ag, Bu] at h2
 have hne : cntB done ≠ cntB (markM n M done i) := fun e => by
  have := c2 e
  have h3 : mkd (markM n M done i) i = true := by rw [jD h1]; simp [oneM]
  rw [<- this, h2.1] at h3; cases h3
 omega
theorem rI {α : Type} {p q : α -> Bool} : ∀ {l : List α}, (∀ x ∈ l, p x = true -> q x = true) -> (∃ x ∈ l, q x = true /\ p x = false) -> l.countP p < l.countP q
 | [], _, ⟨x, hx, _⟩ => by simp at hx
 | y :: ys, h, ⟨x, hx, h1, h2⟩ => by
  simp only [List.countP_cons]
  have hle : ys.countP p <= ys.countP q := List.countP_mono_left fun x hx => h x (by simp [hx])
  rcases Ar.1 hx with rfl | hx
  ·simp only [h1, h2, if_true, Bc, if_false]; omega
  ·have ih := rI (fun x hx => h x (by simp [hx])) ⟨x, hx, h1, h2⟩
   have hy := h y (by simp)
   rcases hp : p y with _ | _
   ·simp only [Bc, if_false]; split <;> omega
   ·rw [hy hp]; simp only [if_true]; omega
def TrM (n : Nat) (M : List (List Bool)) : Prop := ∀ i k x, i < n -> k < n -> toM M i k = true -> toM M k x = true -> toM M i x = true
theorem free_of {n : Nat} {M : List (List Bool)} (hT : TrM n M) (done : List Bool) : ∀ (m i : Nat), i < n -> mkd done i = false -> (List.range n).countP (fun x => x == i || toM M i x) = m -> ∃ j, j < n /\ freeM n M done j = true := by
 intro m
 induction m using Nat.strongRecOn with
 | _ m ih =>
 intro i hi hd hm
 by_cases hf : freeM n M done i = true
 ·exact ⟨i, hi, hf⟩
 ·have : ∃ k, k < n /\ okM M done i k = false := by
   simp only [freeM, hd, Ax, Fb, Gk] at hf
   rw [Ha] at hf
   obtain ⟨k, hk, h⟩ := hf
   exact ⟨k, Cn.1 hk, by simpa using h⟩
  obtain ⟨k, hk, h⟩ := this
  simp only [okM, oneM, Fl, Gb, Bool.and_eq_false_iff, beq_eq_false_iff_ne] at h
  obtain ⟨h1, h2, h3, h4⟩ := h
  have h4 : toM M k i = false := h4.resolve_left (by rw [h1]; simp)
  refine ih _ ?_ k hk h2 rfl
  rw [<- hm]
  refine rI (fun x _ hx => ?_) ⟨i, Cn.2 hi, by simp, ?_⟩
  ·simp only [Dn, beq_iff_eq] at hx ⊢
   rcases hx with rfl | hx
   ·exact .inr h1
   ·exact .inr (hT i k x hi hk h1 hx)
  ·simp only [Fl, beq_eq_false_iff_ne]
   exact ⟨h3, h4⟩
theorem nextM_ex {n : Nat} {M : List (List Bool)} (hT : TrM n M) {done : List Bool} (hl : done.length = n) (h : cntB done < n) : ∃ i, nextM n M done = some i := by
 have : ∃ i, i < n /\ mkd done i = false := by
  refine Classical.byContradiction fun hn => ?_
  have : ∀ x ∈ done, true = x := fun x hx => by
   obtain ⟨i, hi, rfl⟩ := Dc.1 hx
   rcases hv : done[i] with _ | _
   ·exact absurd ⟨i, by omega, by rw [eH hi, hv]⟩ hn
   ·rfl
  have := List.count_eq_length.2 this
  rw [cntB] at h
  omega
 obtain ⟨i, hi, hd⟩ := this
 obtain ⟨j, hj, hf⟩ := free_of hT done _ i hi hd rfl
 rcases hx : nextM n M done with _ | x
 ·rw [nextM, List.find?_eq_none] at hx
  exact absurd hf (hx j (Cn.2 hj))
 ·exact ⟨x, rfl⟩
theorem trM_of {n : Nat} {G : Nat -> List Nat} {M : List (List Bool)} (hM : ∀ i, i < n -> LC G (· ∈ G i) (M.getD i [])) : TrM n M := fun i k x hi hk h1 h2 =>
 (hM k hk).t _ (hM i hi).c (fun j hj => (hM i hi).c k h1 j hj) x h2
end Go.Rip
namespace Go.Rip
open Go
set_option maxRecDepth 100000
variable {GL : Glob}
theorem put_len {l m : List AV} {p : Nat} (h : p + m.length <= l.length) : (put l p m).length = l.length := by
 simp only [put, Bo, Df, Et]; omega
theorem put_take {l m : List AV} {p : Nat} (h : p <= l.length) : (put l p m).take p = l.take p := by
 rw [put, List.take_append_of_le_length (by simp; omega), Fj, Nat.min_self]
theorem ded_dup {l : List Int} {j : Nat} (h0 : 0 < j) (h : l.getD j 0 = l.getD (j - 1) 0) : ded l (j + 1) = ded l j := by rw [ded, if_pos ⟨h0, h⟩]
theorem ded_new {l : List Int} {j : Nat} (h : l.getD j 0 ≠ l.getD (j - 1) 0) : ded l (j + 1) = ded l j ++ [l.getD j 0] := by rw [ded, if_neg fun e => h e.2]
theorem rA {c l : List Int} {a i : Nat} (h : c.drop a = l.drop a) (hi : a <= i) : c.getD i 0 = l.getD i 0 := by
 have : (c.drop a)[i - a]? = (l.drop a)[i - a]? := by rw [h]
 rw [Co, Co, show a + (i - a) = i by omega] at this
 simp only [List.getD, this]
theorem rC {c l : List Int} {a : Nat} (h : c.drop a = l.drop a) : c.drop (a + 1) = l.drop (a + 1) := by
 have := congrArg (List.drop 1) h
 rwa [Gu, Gu] at this
theorem h228d (l : List Int) (hl : l.length < 2 ^ 40) (k : Nat) (h : List AObj) (hk : h[k]? = some (.buf 3 1 (l.map encI))) :
  Gives (PC GL) 228 [.vec k 1 l.length] h fun x h' => (x = .vec k 1 l.length /\ h' = h /\ ded l l.length = l) ∨ ∃ b, x = .own b 1 ((ded l l.length).map encI) /\ Keep (fun i _ => i = k) h h' := by
 refine k228.gives (by simp) ?_
 simp -implicitDefEqProofs only [go_sem, c228, r228]
 by_cases h2 : l.length < 2
 ·have d0 : decide ((l.length : Int) < 2) = true := Ac (by omega)
  simp -implicitDefEqProofs only [go_sem, d0]
  exact aH (Ak _) (.inl ⟨rfl, rfl, by rw [kJ l _ (Ak _) fun i hi => by omega, Eu]⟩)
 have d0 : decide ((l.length : Int) < 2) = false := Ai (by omega)
 simp -implicitDefEqProofs only [go_sem, d0]
 refine aV hC (fun t (_ : Unit) => [(3, .i ((1 + t : Nat) : Int)), (0, .vec k 1 l.length)]) (fun t (_ : Unit) h' => h' = h /\ ∀ i, i + 1 < 1 + t -> l.getD (i + 1) 0 ≠ l.getD i 0) (l.length - 1) ⟨(), h, Wk.pick (Ak _) (by simp [go_sem]), rfl, fun i hi => by omega⟩ fun t _ h1 ht ⟨e, hI⟩ => ?_
 subst e
 simp -implicitDefEqProofs only [go_sem]
 by_cases hlt : 1 + t < l.length
 ·have d1 : decide (((1 + t : Nat) : Int) < (l.length : Int)) = true := Ac (by omega)
  have w1 : IntKind.i64.wrap (((1 + t : Nat) : Int) - 1) = ((t : Nat) : Int) := by rw [aD _ (by omega)]; omega
  have w2 : IntKind.i64.wrap (((1 + t : Nat) : Int) + 1) = ((1 + (t + 1) : Nat) : Int) := by rw [aD _ (by omega)]; omega
  have ht1 : t < l.length := by omega
  rcases he : l.getD (1 + t) 0 == l.getD t 0 with _ | _
  ·simp -implicitDefEqProofs only [go_sem, d1, w1, hk, bnd hlt, bnd ht1, dL hlt, dL ht1, he, w2, Af, aJ, Ae, true_and, lY]
   refine ⟨by omega, (), h1, Wk.pick (Ak _) (by simp [go_sem]), rfl, fun i hi => ?_⟩
   by_cases hit : i + 1 < 1 + t
   ·exact hI i hit
   ·have : i = t := by omega
    subst this
    rw [Em i 1]
    simpa using he
  ·have he : l.getD (1 + t) 0 = l.getD t 0 := by simpa using he
   have hb : (l.getD (1 + t) 0 == l.getD t 0) = true := by simpa using he
   have cd : (0 : Int) <= ((1 + t : Nat) : Int) /\ ((1 + t : Nat) : Int) < (l.length : Int) /\ l.length <= l.length := ⟨by omega, by omega, Ak _⟩
   simp -implicitDefEqProofs only [go_sem, d1, w1, hk, bnd hlt, bnd ht1, dL hlt, dL ht1, hb, Af, aJ, Ae, true_and, lY]
   refine ⟨cd, ?_⟩
   have hd0 : ded l (1 + t + 1) = l.take (1 + t) := by rw [ded_dup (by omega) (by rw [he]; congr 1; omega), kJ l _ (by omega) fun i hi => hI i (by omega)]
   have hlt2 := hlt
   generalize hk0 : 1 + t = k0 at *
   refine aV hC (fun u (x : List Int × Nat) => [(5, .i ((1 + u : Nat) : Int)), (3, .i (x.2 : Int)), (4, .view k 1 k0 (l.length - k0)), (0, .vec k 1 l.length)]) (fun u x h' => h'[k]? = some (.buf 3 1 (x.1.map encI)) /\ x.1.length = l.length /\ x.1.take x.2 = ded l (k0 + 1 + u) /\ x.1.drop (k0 + u) = l.drop (k0 + u) /\ x.2 <= k0 + u /\ Keep (fun i _ => i = k) h1 h') (l.length - k0 - 1) ?_ fun u x h2 hu ⟨g1, g2, g3, g4, g5, g6⟩ => ?_
   ·refine ⟨(l, k0), h1, Wk.pick (Ak _) (by simp [go_sem]), hk, rfl, ?_, rfl, by omega, Keep.refl _ _⟩
    rw [hd0]
   obtain ⟨c, kk⟩ := x
   dsimp only at g1 g2 g3 g4 g5
   simp only [<- g2]
   have hcl : c.length = l.length := g2
   have bl : Nat.ble (k0 + (c.length - k0)) c.length = true := Ct (by omega)
   simp -implicitDefEqProofs only [go_sem]
   by_cases hlu : 1 + u < c.length - k0
   ·have d2 : decide (((1 + u : Nat) : Int) < ((c.length - k0 : Nat) : Int)) = true := Ac (by omega)
    have w3 : IntKind.i64.wrap (((1 + u : Nat) : Int) - 1) = ((u : Nat) : Int) := by rw [aD _ (by omega)]; omega
    have w4 : IntKind.i64.wrap (((1 + u : Nat) : Int) + 1) = ((1 + (u + 1) : Nat) : Int) := by rw [aD _ (by omega)]; omega
    have w5 : IntKind.i64.wrap ((kk : Int) + 1) = ((kk + 1 : Nat) : Int) := by rw [aD _ (by omega)]; omega
    have b1 : bounds ((1 + u : Nat) : Int) (List.take (c.length - k0) (List.drop k0 (List.map encI c))).length = True := by simp [bounds]; omega
    have b2 : bounds ((u : Nat) : Int) (List.take (c.length - k0) (List.drop k0 (List.map encI c))).length = True := by simp [bounds]; omega
    have i1 : k0 + (1 + u) < c.length := by omega
    have i2 : k0 + u < c.length := by omega
    have i3 : kk < c.length := by omega
    have c1 : c.getD (k0 + (1 + u)) 0 = l.getD (k0 + 1 + u) 0 := by rw [rA g4 (by omega), Dh]
    have c2 : c.getD (k0 + u) 0 = l.getD (k0 + 1 + u - 1) 0 := by rw [rA g4 (by omega)]; congr 1; omega
    rcases hn : c.getD (k0 + (1 + u)) 0 != c.getD (k0 + u) 0 with _ | _
    ·simp -implicitDefEqProofs only [go_sem, d2, g1, bl, b1, b2, w3, w4, dL i1, dL i2, hn]
     refine ⟨by omega, (c, kk), h2, Wk.pick g6.1 (by simp [go_sem]), g1, rfl, ?_, rC g4, by dsimp only; omega, g6⟩
     show c.take kk = ded l (k0 + 1 + u + 1)
     rw [ded_dup (by omega) (by rw [<- c1, <- c2]; simpa using hn)]; exact g3
    ·simp -implicitDefEqProofs only [go_sem, d2, g1, bl, b1, b2, w3, w4, w5, dL i1, dL i2, hn, bnd i3, dL i3, Af, aJ, Ae, true_and, lY]
     refine ⟨by omega, (c.set kk (c.getD (k0 + (1 + u)) 0), kk + 1), _, Wk.pick (by simpa using g6.1) (by simp [go_sem]), ?_, by simp, ?_, ?_, by dsimp only; omega, g6.trans (Keep.set _ g1 rfl)⟩
     ·rw [aG g1, Fs]; rfl
     ·show (c.set kk (c.getD (k0 + (1 + u)) 0)).take (kk + 1) = ded l (k0 + 1 + u + 1)
      rw [ded_new (by rw [<- c1, <- c2]; simpa using hn), <- g3, <- c1]
      rw [Bi (by simpa using i3)]
      simp [List.take_set_of_le]
     ·show (c.set kk (c.getD (k0 + (1 + u)) 0)).drop (k0 + u + 1) = l.drop (k0 + u + 1)
      rw [List.drop_set_of_lt (by omega)]
      exact rC g4
   ·have d2 : decide (((1 + u : Nat) : Int) < ((c.length - k0 : Nat) : Int)) = false := Ai (by omega)
    have hend : k0 + 1 + u = c.length := by omega
    have q1 : (0 : Int) <= (kk : Int) /\ (kk : Int) < (c.length : Int) /\ c.length <= c.length := ⟨by omega, by omega, Ak _⟩
    have q2 : kk + (c.length - kk) <= c.length := by omega
    have pl : (put (c.map encI) kk (List.replicate (c.length - kk) (.v (.int .i64 0)))).length = c.length := by rw [put_len (by simp; omega)]; simp
    have pt : (put (c.map encI) kk (List.replicate (c.length - kk) (.v (.int .i64 0)))).take kk = (ded l c.length).map encI := by rw [put_take (by simp; omega), <- List.map_take, g3, hend]
    simp -implicitDefEqProofs only [go_sem, d2, g1, Af, As, Ae, true_and, Bg]
    refine ⟨q1, ?_⟩
    refine ⟨q2, ?_⟩
    simp -implicitDefEqProofs only [go_sem, aG g1, Ae, true_and]
    refine ⟨⟨by omega, by omega, ?_⟩, ?_⟩
    ·rw [pl]; exact Ak _
    rw [pt]
    refine aH ?_ (.inr ⟨_, by rw [hcl], ?_⟩)
    ·simp; have := g6.1; omega
    ·exact (g6.trans (Keep.set _ g1 rfl)).trans (Keep.app _ _ _)
 ·have d1 : decide (((1 + t : Nat) : Int) < (l.length : Int)) = false := Ai (by omega)
  simp -implicitDefEqProofs only [go_sem, d1]
  exact aH (Ak _) (.inl ⟨rfl, rfl, by rw [kJ l _ (Ak _) fun i hi => hI i (by omega), Eu]⟩)
end Go.Rip
