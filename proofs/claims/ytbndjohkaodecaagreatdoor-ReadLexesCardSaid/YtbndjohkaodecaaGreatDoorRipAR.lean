/- The parser's fuel: plain. -/
import Derived.Test.YtbndjohkaodecaaGreatDoorRipAO
namespace Go.Rip
open Go
def Sh {α : Type} (r : PR α) (n : Nat) : Prop := match r with
 | .ok _ r' _ => r'.length < n
 | .bad r' => r'.length <= n
def Sh' {α : Type} (r : PR α) (n : Nat) : Prop := r.len <= n
theorem Sh.le {α : Type} {r : PR α} {n m : Nat} (h : Sh r n) (hm : n <= m) : Sh r m := by
 cases r with
 | ok x r' ns => exact Nat.lt_of_lt_of_le h hm
 | bad r' => exact Nat.le_trans h hm
theorem Sh'.sh {α : Type} {r : PR α} {n m : Nat} (h : Sh' r n) (hm : n < m) : Sh r m := by
 cases r with
 | ok x r' ns => exact Nat.lt_of_le_of_lt h hm
 | bad r' => exact Nat.le_of_lt (Nat.lt_of_le_of_lt h hm)
theorem dQ (l : List Lx) : l.tail.length <= l.length := by simp
theorem rN {c : UInt8} {l : List Lx} (h : isSg c l = true) : l.tail.length < l.length := by
 cases l with
 | nil => cases h
 | cons x l => simp
theorem jU (c : UInt8) (t : Tm × Int) (r : List Lx) (ns : List Str) : Sh' (want c t r ns) r.length := by
 unfold want
 split
 ·exact dQ r
 ·exact Nat.le_refl _
theorem nR {l : List Lx} {v : Str × Opr} (h : infAt l = some v) : l.tail.length < l.length := by
 cases l with
 | nil => cases h
 | cons x l => simp
theorem varP_sh (s : Str) (r : List Lx) (ns : List Str) : Sh' (varP s r ns) r.length := by
 unfold varP
 split <;> exact Nat.le_refl _
structure Ln (f : Nat) : Prop where
 term : ∀ lim l ns r, termF f lim l ns = some r -> Sh r l.length
 loop : ∀ lim t p l ns r, loopF f lim t p l ns = some r -> Sh' r l.length
 sev : ∀ l ns r, severalF f l ns = some r -> Sh r l.length
 fst : ∀ lim l ns r, firstF f lim l ns = some r -> Sh r l.length
 brk : ∀ x l ns r, bracketF f x l ns = some r -> Sh' r (l.length + 1) /\ ∀ y r' ns', r = .ok y r' ns' -> r'.length <= l.length
 nam : ∀ lim x l ns r, namedF f lim x l ns = some r -> Sh' r (l.length + 1) /\ ∀ y r' ns', r = .ok y r' ns' -> r'.length <= l.length
theorem sh_of {r : PR (Tm × Int)} {n : Nat} (h : Sh' r (n + 1) /\ ∀ y r' ns', r = .ok y r' ns' -> r'.length <= n) : Sh r (n + 1) := by
 cases r with
 | ok x r' ns => exact Nat.lt_succ_of_le (h.2 _ _ _ rfl)
 | bad r' => exact h.1
theorem gK {r : PR (Tm × Int)} {n : Nat} (h : Sh' r n) : Sh' r (n + 1) /\ ∀ y r' ns', r = .ok y r' ns' -> r'.length <= n :=
 ⟨Nat.le_succ_of_le h, fun y r' ns' e => by subst e; exact h⟩
theorem ln : ∀ f, Ln f
 | 0 => ⟨fun _ _ _ _ h => (by rw [termF] at h; cases h), fun _ _ _ _ _ _ h => (by rw [loopF] at h; cases h), fun _ _ _ h => (by rw [severalF] at h; cases h), fun _ _ _ _ h => (by rw [firstF] at h; cases h), fun _ _ _ _ h => (by rw [bracketF] at h; cases h), fun _ _ _ _ _ h => (by rw [namedF] at h; cases h)⟩
 | f + 1 => by
  have ih := ln f
  refine ⟨?_, ?_, ?_, ?_, ?_, ?_⟩
  ·intro lim l ns r h
   rw [termF] at h
   cases h1 : firstF f lim l ns with
   | none => rw [h1] at h; cases h
   | some v =>
    rw [h1] at h
    have q := ih.fst _ _ _ _ h1
    cases v with
    | ok x r' ns' => exact (ih.loop _ _ _ _ _ _ h).sh q
    | bad r' => cases h; exact q
  ·intro lim t p l ns r h
   rw [loopF] at h
   cases hi : infAt l with
   | none => rw [hi] at h; cases h; exact Nat.le_refl _
   | some v =>
    obtain ⟨s, op⟩ := v
    have ht := nR hi
    rw [hi] at h
    simp only at h
    split at h
    ·cases h; exact Nat.le_refl _
    ·cases h1 : termF f op.right l.tail ns with
     | none => rw [h1] at h; cases h
     | some v =>
      rw [h1] at h
      have q := ih.term _ _ _ _ h1
      cases v with
      | ok x r' ns' => exact Nat.le_trans (ih.loop _ _ _ _ _ _ h) (Nat.le_of_lt (Nat.lt_trans q ht))
      | bad r' => cases h; exact Nat.le_trans q (Nat.le_of_lt ht)
  ·intro l ns r h
   rw [severalF] at h
   cases h1 : termF f 999 l ns with
   | none => rw [h1] at h; cases h
   | some v =>
    rw [h1] at h
    have q := ih.term _ _ _ _ h1
    cases v with
    | bad r' => cases h; exact q
    | ok x r' ns' =>
     simp only at h
     split at h
     ·rename_i hc
      have hlt := rN hc
      cases h2 : severalF f r'.tail ns' with
      | none => rw [h2] at h; cases h
      | some w =>
       rw [h2] at h
       have q2 := (ih.sev _ _ _ h2).le (Nat.le_of_lt (Nat.lt_trans hlt q))
       cases w with
       | ok ts r'' ns'' => cases h; exact q2
       | bad r'' => cases h; exact q2
     ·cases h; exact q
  ·intro lim l ns r h
   cases l with
   | nil => rw [firstF] at h; cases h; exact Nat.le_refl _
   | cons x l =>
    rw [firstF] at h
    split at h
    ·cases h; exact Nat.lt_succ_self _
    split at h
    ·cases h; exact Nat.lt_succ_self _
    split at h
    ·cases h; exact (varP_sh _ _ _).sh (Nat.lt_succ_self _)
    split at h
    ·exact sh_of (ih.brk _ _ _ _ h)
    split at h
    ·exact sh_of (ih.nam _ _ _ _ _ h)
    ·cases h; exact Nat.le_refl _
  ·intro x l ns r h
   rw [bracketF] at h
   split at h
   ·refine gK ?_
    cases h1 : termF f 1200 l ns with
    | none => rw [h1] at h; cases h
    | some v =>
     rw [h1] at h
     have q := ih.term _ _ _ _ h1
     cases v with
     | ok t r' ns' => cases h; exact Nat.le_trans (jU _ _ _ _) (Nat.le_of_lt q)
     | bad r' => cases h; exact q
   split at h
   ·refine gK ?_
    split at h
    ·cases h; exact dQ l
    cases h1 : severalF f l ns with
    | none => rw [h1] at h; cases h
    | some v =>
     rw [h1] at h
     have q := ih.sev _ _ _ h1
     cases v with
     | ok t r' ns' => cases h; exact Nat.le_trans (jU _ _ _ _) (Nat.le_of_lt q)
     | bad r' => cases h; exact q
   split at h
   ·refine gK ?_
    split at h
    ·cases h; exact dQ l
    cases h1 : severalF f l ns with
    | none => rw [h1] at h; cases h
    | some v =>
     rw [h1] at h
     have q := ih.sev _ _ _ h1
     cases v with
     | bad r' => cases h; exact q
     | ok ts r' ns' =>
      simp only at h
      split at h
      ·cases h2 : termF f 999 r'.tail ns' with
       | none => rw [h2] at h; cases h
       | some w =>
        rw [h2] at h
        have q2 := (ih.term _ _ _ _ h2).le (Nat.le_trans (dQ r') (Nat.le_of_lt q))
        cases w with
        | ok t r'' ns'' => cases h; exact Nat.le_trans (jU _ _ _ _) (Nat.le_of_lt q2)
        | bad r'' => cases h; exact q2
      ·cases h; exact Nat.le_trans (jU _ _ _ _) (Nat.le_of_lt q)
   ·cases h; exact ⟨Nat.le_refl _, fun y r' ns' e => by cases e⟩
  ·intro lim x l ns r h
   rw [namedF] at h
   split at h
   ·refine gK ?_
    cases h1 : severalF f l.tail ns with
    | none => rw [h1] at h; cases h
    | some v =>
     rw [h1] at h
     have q := (ih.sev _ _ _ h1).le (dQ l)
     cases v with
     | ok t r' ns' => cases h; exact Nat.le_trans (jU _ _ _ _) (Nat.le_of_lt q)
     | bad r' => cases h; exact q
   split at h
   ·cases h; exact gK (Nat.le_refl _)
   split at h
   ·cases h; exact gK (dQ l)
   cases hp : prefixO x.s with
   | none =>
    rw [hp] at h
    simp only at h
    split at h
    ·cases h; exact ⟨Nat.le_refl _, fun y r' ns' e => by cases e⟩
    ·cases h; exact gK (Nat.le_refl _)
   | some op =>
    rw [hp] at h
    simp only at h
    split at h
    ·cases h; exact ⟨Nat.le_refl _, fun y r' ns' e => by cases e⟩
    refine gK ?_
    cases h1 : termF f op.right l ns with
    | none => rw [h1] at h; cases h
    | some v =>
     rw [h1] at h
     have q := ih.term _ _ _ _ h1
     cases v with
     | ok t r' ns' => cases h; exact Nat.le_of_lt q
     | bad r' => cases h; exact q
structure En (n : Nat) : Prop where
 term : ∀ f lim l ns, l.length <= n -> 4 * n + 3 <= f -> ∃ r, termF f lim l ns = some r
 loop : ∀ f lim t p l ns, l.length <= n -> 4 * n + 1 <= f -> ∃ r, loopF f lim t p l ns = some r
 sev : ∀ f l ns, l.length <= n -> 4 * n + 4 <= f -> ∃ r, severalF f l ns = some r
theorem en_brk {n : Nat} (h : En n) (f : Nat) (x : Lx) (l : List Lx) (ns : List Str) (hl : l.length <= n) (hf : 4 * n + 5 <= f) : ∃ r, bracketF f x l ns = some r := by
 obtain ⟨g, rfl⟩ : ∃ g, f = g + 1 := ⟨f - 1, by omega⟩
 rw [bracketF]
 split
 ·obtain ⟨r, hr⟩ := h.term g 1200 l ns hl (by omega)
  rw [hr]; cases r <;> exact ⟨_, rfl⟩
 split
 ·split
  ·exact ⟨_, rfl⟩
  ·obtain ⟨r, hr⟩ := h.sev g l ns hl (by omega)
   rw [hr]; cases r <;> exact ⟨_, rfl⟩
 split
 ·split
  ·exact ⟨_, rfl⟩
  ·obtain ⟨r, hr⟩ := h.sev g l ns hl (by omega)
   rw [hr]
   have q := (ln g).sev _ _ _ hr
   cases r with
   | bad r' => exact ⟨_, rfl⟩
   | ok ts r' ns' =>
    simp only
    split
    ·have hlt : r'.length < l.length := q
     obtain ⟨r2, hr2⟩ := h.term g 999 r'.tail ns' (by simp; omega) (by omega)
     rw [hr2]; cases r2 <;> exact ⟨_, rfl⟩
    ·exact ⟨_, rfl⟩
 ·exact ⟨_, rfl⟩
theorem en_nam {n : Nat} (h : En n) (f : Nat) (lim : Int) (x : Lx) (l : List Lx) (ns : List Str) (hl : l.length <= n) (hf : 4 * n + 5 <= f) : ∃ r, namedF f lim x l ns = some r := by
 obtain ⟨g, rfl⟩ : ∃ g, f = g + 1 := ⟨f - 1, by omega⟩
 rw [namedF]
 split
 ·obtain ⟨r, hr⟩ := h.sev g l.tail ns (by simp; omega) (by omega)
  rw [hr]; cases r <;> exact ⟨_, rfl⟩
 split
 ·exact ⟨_, rfl⟩
 split
 ·exact ⟨_, rfl⟩
 cases prefixO x.s with
 | none => simp only; split <;> exact ⟨_, rfl⟩
 | some op =>
  simp only
  split
  ·exact ⟨_, rfl⟩
  ·obtain ⟨r, hr⟩ := h.term g op.right l ns hl (by omega)
   rw [hr]; cases r <;> exact ⟨_, rfl⟩
theorem en_fst {f : Nat} {lim : Int} {l : List Lx} {ns : List Str} (hb : ∀ x r, l = x :: r -> (∃ v, bracketF f x r ns = some v) /\ ∃ v, namedF f lim x r ns = some v) : ∃ r, firstF (f + 1) lim l ns = some r := by
 cases l with
 | nil => rw [firstF]; exact ⟨_, rfl⟩
 | cons x r =>
  obtain ⟨b1, b2⟩ := hb x r rfl
  rw [firstF]
  split
  ·exact ⟨_, rfl⟩
  split
  ·exact ⟨_, rfl⟩
  split
  ·exact ⟨_, rfl⟩
  split
  ·exact b1
  split
  ·exact b2
  ·exact ⟨_, rfl⟩
theorem en_all : ∀ n, En n := by
 intro n
 induction n with
 | zero =>
  have hz : ∀ l : List Lx, l.length <= 0 -> l = [] := fun l h => List.eq_nil_of_length_eq_zero (by omega)
  have t0 : ∀ f lim (ns : List Str), 3 <= f -> termF f lim [] ns = some (.bad []) := fun f lim ns hf => by
   obtain ⟨g, rfl⟩ : ∃ g, f = g + 2 := ⟨f - 2, by omega⟩
   rw [termF, firstF]
  refine ⟨fun f lim l ns hl hf => ?_, fun f lim t p l ns hl hf => ?_, fun f l ns hl hf => ?_⟩
  ·rw [hz l hl, t0 f lim ns (by omega)]; exact ⟨_, rfl⟩
  ·obtain ⟨g, rfl⟩ : ∃ g, f = g + 1 := ⟨f - 1, by omega⟩
   rw [hz l hl, loopF]; exact ⟨_, rfl⟩
  ·obtain ⟨g, rfl⟩ : ∃ g, f = g + 1 := ⟨f - 1, by omega⟩
   rw [hz l hl, severalF, t0 g 999 ns (by omega)]; exact ⟨_, rfl⟩
 | succ n ih =>
  have hloop : ∀ f lim t p l ns, l.length <= n + 1 -> 4 * (n + 1) + 1 <= f -> ∃ r, loopF f lim t p l ns = some r := fun f lim t p l ns hl hf => by
   obtain ⟨g, rfl⟩ : ∃ g, f = g + 1 := ⟨f - 1, by omega⟩
   rw [loopF]
   cases hi : infAt l with
   | none => exact ⟨_, rfl⟩
   | some v =>
    obtain ⟨s, op⟩ := v
    have ht := nR hi
    simp only
    split
    ·exact ⟨_, rfl⟩
    ·obtain ⟨r, hr⟩ := ih.term g op.right l.tail ns (by omega) (by omega)
     rw [hr]
     have q := (ln g).term _ _ _ _ hr
     cases r with
     | bad r' => exact ⟨_, rfl⟩
     | ok x r' ns' =>
      have hlt : r'.length < l.tail.length := q
      exact ih.loop g _ _ _ r' ns' (by omega) (by omega)
  have hterm : ∀ f lim l ns, l.length <= n + 1 -> 4 * (n + 1) + 3 <= f -> ∃ r, termF f lim l ns = some r := fun f lim l ns hl hf => by
   obtain ⟨g, rfl⟩ : ∃ g, f = g + 2 := ⟨f - 2, by omega⟩
   obtain ⟨v, hv⟩ := en_fst (f := g) (lim := lim) (l := l) (ns := ns) fun x r e => by
    subst e
    simp at hl
    exact ⟨en_brk ih g x r ns hl (by omega), en_nam ih g lim x r ns hl (by omega)⟩
   rw [termF, hv]
   have q := (ln (g + 1)).fst _ _ _ _ hv
   cases v with
   | bad r' => exact ⟨_, rfl⟩
   | ok x r' ns' =>
    have hlt : r'.length < l.length := q
    exact hloop (g + 1) _ _ _ r' ns' (by omega) (by omega)
  refine ⟨hterm, hloop, fun f l ns hl hf => ?_⟩
  obtain ⟨g, rfl⟩ : ∃ g, f = g + 1 := ⟨f - 1, by omega⟩
  rw [severalF]
  obtain ⟨r, hr⟩ := hterm g 999 l ns hl (by omega)
  rw [hr]
  have q := (ln g).term _ _ _ _ hr
  cases r with
  | bad r' => exact ⟨_, rfl⟩
  | ok x r' ns' =>
   have hlt : r'.length < l.length := q
   simp only
   split
   ·obtain ⟨r2, hr2⟩ := ih.sev g r'.tail ns' (by simp; omega) (by omega)
    rw [hr2]; cases r2 <;> exact ⟨_, rfl⟩
   ·exact ⟨_, rfl⟩
theorem enough (lim : Int) (l : List Lx) (ns : List Str) : ∃ r, termF (4 * l.length + 3) lim l ns = some r := (en_all l.length).term _ lim l ns (Nat.le_refl _) (Nat.le_refl _)
end Go.Rip
