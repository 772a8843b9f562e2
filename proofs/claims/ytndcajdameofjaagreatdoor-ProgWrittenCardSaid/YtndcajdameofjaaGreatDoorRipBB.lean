/- Numbers are sorted: slices.Sort. -/
import Derived.Test.YtndcajdameofjaaGreatDoorRipBA
import Derived.Test.YtndcajdameofjaaGreatDoorRipAV
import Derived.Test.YtndcajdameofjaaGreatDoorRipAI
namespace Go.Rip
open Go
set_option maxRecDepth 100000
variable {GL : Glob}
end Go.Rip
namespace Go.Rip
open Go
set_option maxRecDepth 100000
def mkd (l : List Bool) (i : Nat) : Bool := l.getD i false
theorem mkd_lt {l : List Bool} {i : Nat} (h : mkd l i = true) : i < l.length := by
 rcases Nat.lt_or_ge i l.length with g | g
 ·exact g
 ·simp [mkd, List.getD, List.getElem?_eq_none g] at h
theorem rV {l : List Bool} {i : Nat} (h : i < l.length) : mkd l i = l[i] := by simp [mkd, List.getD, h]
theorem mkd_ext {l l' : List Bool} (hl : l.length = l'.length) (h : ∀ i, mkd l i = mkd l' i) : l = l' := by
 apply List.ext_getElem hl
 intro i h1 h2
 rw [<- rV h1, <- rV h2]; exact h i
theorem mkd_set {l : List Bool} {i j : Nat} (hi : i < l.length) : mkd (l.set i true) j = (mkd l j || j == i) := by
 by_cases h : j = i
 ·subst h; simp [mkd, List.getD, hi]
 ·simp only [mkd, List.getD, List.getElem?_set_ne (fun e => h e.symm)]
  simp [h]
def Sub (a b : List Bool) : Prop := ∀ i, mkd a i = true -> mkd b i = true
theorem Sub.refl (a : List Bool) : Sub a a := fun _ h => h
theorem Sub.trans {a b c : List Bool} (h : Sub a b) (k : Sub b c) : Sub a c := fun i x => k i (h i x)
theorem Sub.eq {a b : List Bool} (h : Sub a b) (k : Sub b a) (hl : a.length = b.length) : a = b :=
 mkd_ext hl fun i => by rw [Bool.eq_iff_iff]; exact ⟨h i, k i⟩
theorem Sub.set {l : List Bool} {i : Nat} (hi : i < l.length) : Sub l (l.set i true) := fun j h => by rw [mkd_set hi, h]; rfl
def cntB (l : List Bool) : Nat := l.count true
theorem Sub.cnt : ∀ {a b : List Bool}, Sub a b -> a.length = b.length -> cntB a <= cntB b /\ (cntB a = cntB b -> a = b)
 | [], [], _, _ => ⟨Nat.le_refl _, fun _ => rfl⟩
 | [], _ :: _, _, h => by simp at h
 | _ :: _, [], _, h => by simp at h
 | x :: xs, y :: ys, h, hl => by
  have h0 := h 0
  have ht : Sub xs ys := fun i hi => by
   have := h (i + 1)
   simp only [mkd, List.getD_cons_succ] at this
   exact this hi
  obtain ⟨i1, i2⟩ := Sub.cnt ht (by simpa using hl)
  simp only [mkd, List.getD_cons_zero] at h0
  simp only [cntB, List.count_cons] at i1 i2 ⊢
  cases x <;> cases y <;> simp at h0 ⊢
  ·exact ⟨i1, i2⟩
  ·exact ⟨by omega, fun e => by omega⟩
  ·exact ⟨i1, i2⟩
def Clo (G : Nat -> List Nat) (l : List Bool) : Prop := ∀ i, mkd l i = true -> ∀ k ∈ G i, mkd l k = true
structure Viss (G : Nat -> List Nat) (ks : List Nat) (l l' : List Bool) : Prop where
 n : l'.length = l.length
 s : Sub l l'
 m : ∀ k ∈ ks, mkd l' k = true
 c : ∀ x, mkd l' x = true -> mkd l x = false -> ∀ k ∈ G x, mkd l' k = true
 t : ∀ T, Clo G T -> (∀ k ∈ ks, mkd T k = true) -> ∀ x, mkd l' x = true -> mkd l x = true ∨ mkd T x = true
theorem Viss.nil {G : Nat -> List Nat} {l : List Bool} : Viss G [] l l := ⟨rfl, Sub.refl _, fun _ h => by simp at h, fun x h1 h2 => (by rw [h1] at h2; cases h2), fun _ _ _ _ h => .inl h⟩
structure LC (G : Nat -> List Nat) (S : Nat -> Prop) (l : List Bool) : Prop where
 m : ∀ k, S k -> mkd l k = true
 c : Clo G l
 t : ∀ T, Clo G T -> (∀ k, S k -> mkd T k = true) -> Sub l T
theorem LC.eq {G : Nat -> List Nat} {S S' : Nat -> Prop} {l l' : List Bool} (h : LC G S l) (k : LC G S' l') (hs : ∀ i, S i ↔ S' i) (hl : l.length = l'.length) : l = l' :=
 Sub.eq (h.t l' k.c fun i hi => k.m i ((hs i).1 hi)) (k.t l h.c fun i hi => h.m i ((hs i).2 hi)) hl
structure Rnds (G : Nat -> List Nat) (r : Nat) (l l' : List Bool) : Prop where
 n : l'.length = l.length
 s : Sub l l'
 t : ∀ T, Clo G T -> Sub l T -> Sub l' T
 e : Clo G l' ∨ r + 1 <= cntB l'
theorem Rnds.zero {G : Nat -> List Nat} {l : List Bool} : Rnds G 0 l l := by
 refine ⟨rfl, Sub.refl _, fun _ _ h => h, ?_⟩
 rcases Nat.eq_zero_or_pos (cntB l) with h | h
 ·refine .inl fun i hi => ?_
  have := mkd_lt hi
  rw [rV this] at hi
  rw [cntB, List.count_eq_zero] at h
  exact absurd (hi ▸ List.getElem_mem this) h
 ·exact .inr h
end Go.Rip
namespace Go.Rip
open Go
set_option maxRecDepth 100000
variable {GL : Glob}
end Go.Rip
