/- Numbers are sorted: what equals the first is set ahead. -/
import Derived.Test.YtndcajdameofjaaGreatDoorRipAY
namespace Go.Rip
open Go
set_option maxRecDepth 100000
variable {GL : Glob}
def PartE (a b : Nat) (pv : Int) (i j : Nat) (l : List Int) : Prop := (∀ x, a < x -> x < i -> l.getD x 0 <= l.getD a 0) /\ (∀ x, j < x -> x < b -> l.getD a 0 < l.getD x 0) /\ a + 1 <= i /\ j < b /\ a <= j /\ i <= j + 1 /\ l.getD a 0 = pv
theorem PartE.down {a b i j : Nat} {pv : Int} {l : List Int} (h : PartE a b pv i j l) (hij : i <= j) (hlt : l.getD a 0 < l.getD j 0) : PartE a b pv i (j - 1) l := by
 obtain ⟨h1, h2, h3, h4, h5, h6, h7⟩ := h
 refine ⟨h1, fun x hx1 hx2 => ?_, h3, by omega, by omega, by omega, h7⟩
 by_cases e : x = j
 ·subst e; exact hlt
 ·exact h2 x (by omega) hx2
def PartedE (a b : Nat) (pv : Int) (m : Nat) (l : List Int) : Prop := (a < m /\ m <= b) /\ l.getD a 0 = pv /\ (∀ x, a <= x -> x < m -> l.getD x 0 <= l.getD a 0) /\ ∀ x, m <= x -> x < b -> l.getD a 0 < l.getD x 0
theorem PartE.done {a b i j : Nat} {pv : Int} {l : List Int} (h : PartE a b pv i j l) (hij : ¬ i <= j) : PartedE a b pv i l := by
 obtain ⟨h1, h2, h3, h4, h5, h6, h7⟩ := h
 refine ⟨⟨by omega, by omega⟩, h7, fun x hx1 hx2 => ?_, fun x hx1 hx2 => h2 x (by omega) hx2⟩
 by_cases e : x = a
 ·subst e; exact Int.le_refl _
 ·exact h1 x (by omega) hx2
def Low (a b : Nat) (l : List Int) : Prop := a = 0 ∨ ∀ x, a <= x -> x < b -> l.getD (a - 1) 0 <= l.getD x 0
theorem Low.seg {a b : Nat} {l l' : List Int} (h : Low a b l) (hs : SegP a b l l') (hb : b <= l.length) : Low a b l' := by
 rcases h with h | h
 ·exact .inl h
 by_cases e : a = 0
 ·exact .inl e
 refine .inr fun x h1 h2 => ?_
 obtain ⟨y, hy, e2⟩ := hs.mem hb ⟨h1, h2⟩
 rw [e2, hs.same (by omega)]
 exact h y hy.1 hy.2
theorem Srt.seg {a i b c : Nat} {l l' : List Int} (h : Srt a i l) (hs : SegP c b l l') (hc : i <= c) : Srt a i l' := fun p q hp hpq hq => by
 rw [hs.same (by omega), hs.same (by omega)]; exact h p q hp hpq hq
end Go.Rip
namespace Go.Rip
open Go
set_option maxRecDepth 100000
def Sep (a b a1 b1 : Nat) (l : List Int) : Prop := ∀ p q, a <= p -> p < q -> q < b -> ¬ (a1 <= p /\ q < b1) -> l.getD p 0 <= l.getD q 0
theorem Sep.seg {a b a1 b1 : Nat} {l l' : List Int} (h : Sep a b a1 b1 l) (hs : SegP a1 b1 l l') (h1 : a <= a1) (h2 : b1 <= b) (hb : b <= l.length) : Sep a b a1 b1 l' := by
 intro p q hp hpq hq hn
 by_cases ep : a1 <= p /\ p < b1
 ·obtain ⟨x, hx, e⟩ := hs.mem (by omega) ep
  rw [e, hs.same (x := q) (by omega)]
  exact h x q (by omega) (by omega) hq (by omega)
 ·rw [hs.same (x := p) (by omega)]
  by_cases eq : a1 <= q /\ q < b1
  ·obtain ⟨x, hx, e⟩ := hs.mem (by omega) eq
   rw [e]
   exact h p x hp (by omega) (by omega) (by omega)
  ·rw [hs.same (x := q) (by omega)]
   exact h p q hp hpq hq hn
theorem Sep.done {a b a1 b1 : Nat} {l : List Int} (h : Sep a b a1 b1 l) (hs : Srt a1 b1 l) : Srt a b l := fun p q hp hpq hq => by
 by_cases e : a1 <= p /\ q < b1
 ·exact hs p q e.1 hpq e.2
 ·exact h p q hp hpq hq e
theorem Sep.left {a b a1 b1 m : Nat} {l l' : List Int} (h : Sep a b a1 b1 l) (hp : Parted a1 b1 m l) (hs : SegP (m + 1) b1 l l') (hs' : Srt (m + 1) b1 l') (h1 : a <= a1) (h2 : b1 <= b) (hb : b <= l.length) : Sep a b a1 m l' := by
 obtain ⟨⟨m1, m2⟩, p1, p2⟩ := hp
 have em : l'.getD m 0 = l.getD m 0 := hs.same (by omega)
 have hh := h.seg (hs.mono (by omega) (Nat.le_refl _)) h1 h2 hb
 have lt : ∀ x, a1 <= x -> x < m -> l'.getD x 0 <= l.getD m 0 := fun x hx1 hx2 => by
  rw [hs.same (by omega)]; exact p1 x hx1 hx2
 have ge : ∀ x, m < x -> x < b1 -> l.getD m 0 <= l'.getD x 0 := fun x hx1 hx2 => by
  obtain ⟨y, hy, e⟩ := hs.mem (by omega) ⟨hx1, hx2⟩
  rw [e]; exact p2 y (by omega) hy.2
 intro p q hp hpq hq hn
 by_cases e : a1 <= p /\ q < b1
 ·by_cases e1 : m < p
  ·exact hs' p q (by omega) hpq e.2
  ·have hle : l'.getD p 0 <= l.getD m 0 := by
    by_cases e2 : p = m
    ·subst e2; rw [em]; exact Int.le_refl _
    ·exact lt p e.1 (by omega)
   have hge : l.getD m 0 <= l'.getD q 0 := by
    by_cases e2 : q = m
    ·subst e2; rw [em]; exact Int.le_refl _
    ·exact ge q (by omega) e.2
   omega
 ·exact hh p q hp hpq hq e
theorem Low.sub {a b b' : Nat} {l : List Int} (h : Low a b l) (hb : b' <= b) : Low a b' l := by
 rcases h with h | h
 ·exact .inl h
 ·exact .inr fun x h1 h2 => h x h1 (by omega)
theorem Sep.equal {a b a1 b1 m : Nat} {pv : Int} {l : List Int} (h : Sep a b a1 b1 l) (hp : PartedE a1 b1 pv m l) (hlow : Low a1 b1 l) (h0 : a1 ≠ 0) (hpv : pv <= l.getD (a1 - 1) 0) : Sep a b m b1 l /\ Low m b1 l := by
 obtain ⟨⟨m1, m2⟩, e1, p1, p2⟩ := hp
 have hl : ∀ x, a1 <= x -> x < b1 -> l.getD (a1 - 1) 0 <= l.getD x 0 := (hlow.resolve_left h0)
 have eq : ∀ x, a1 <= x -> x < m -> l.getD x 0 = pv := fun x hx1 hx2 => by
  have := p1 x hx1 hx2
  have := hl x hx1 (by omega)
  omega
 refine ⟨fun p q hp hpq hq hn => ?_, .inr fun x hx1 hx2 => ?_⟩
 ·by_cases e : a1 <= p /\ q < b1
  ·have ep := eq p e.1 (by omega)
   rw [ep]
   by_cases e2 : q < m
   ·rw [eq q (by omega) e2]; exact Int.le_refl _
   ·have := p2 q (by omega) e.2; omega
  ·exact h p q hp hpq hq e
 ·rw [eq (m - 1) (by omega) (by omega)]
  have := p2 x hx1 hx2
  omega
end Go.Rip
