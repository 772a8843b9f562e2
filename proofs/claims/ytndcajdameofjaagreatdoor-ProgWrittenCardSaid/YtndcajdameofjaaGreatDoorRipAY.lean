/- Numbers are sorted: partition. -/
import Derived.Test.YtndcajdameofjaaGreatDoorRipAX
namespace Go.Rip
open Go
set_option maxRecDepth 100000
variable {GL : Glob}
def Part (a b i j : Nat) (l : List Int) : Prop := (∀ x, a < x -> x < i -> l.getD x 0 < l.getD a 0) /\ (∀ x, j < x -> x < b -> l.getD a 0 <= l.getD x 0) /\ a + 1 <= i /\ j < b /\ a <= j /\ i <= j + 1
theorem Part.down {a b i j : Nat} {l : List Int} (h : Part a b i j l) (hij : i <= j) (hlt : ¬ l.getD j 0 < l.getD a 0) : Part a b i (j - 1) l := by
 obtain ⟨h1, h2, h3, h4, h5, h6⟩ := h
 refine ⟨h1, fun x hx1 hx2 => ?_, h3, by omega, by omega, by omega⟩
 by_cases e : x = j
 ·subst e; omega
 ·exact h2 x (by omega) hx2
def Parted (a b m : Nat) (l : List Int) : Prop := (a <= m /\ m < b) /\ (∀ x, a <= x -> x < m -> l.getD x 0 <= l.getD m 0) /\ ∀ x, m <= x -> x < b -> l.getD m 0 <= l.getD x 0
theorem Part.done {a b i j : Nat} {l : List Int} (h : Part a b i j l) (hij : ¬ i <= j) (hb : b <= l.length) : Parted a b j (Go.Rip.swp l j a) := by
 obtain ⟨h1, h2, h3, h4, h5, h6⟩ := h
 have g := nS (l := l) (i := j) (j := a) (by omega) (by omega)
 have gj : (Go.Rip.swp l j a).getD j 0 = l.getD a 0 := by
  rw [g]
  by_cases e : j = a
  ·rw [if_pos e, e]
  ·rw [if_neg e, if_pos rfl]
 refine ⟨⟨h5, h4⟩, fun x hx1 hx2 => ?_, fun x hx1 hx2 => ?_⟩
 ·rw [gj, g]
  by_cases e : x = a
  ·rw [if_pos e]
   have := h1 j (by omega) (by omega)
   omega
  ·rw [if_neg e, if_neg (by omega)]
   have := h1 x (by omega) (by omega)
   omega
 ·rw [gj]
  by_cases e : x = j
  ·subst e; rw [gj]; exact Int.le_refl _
  ·rw [g, if_neg (by omega), if_neg e]
   exact h2 x (by omega) hx2
end Go.Rip
