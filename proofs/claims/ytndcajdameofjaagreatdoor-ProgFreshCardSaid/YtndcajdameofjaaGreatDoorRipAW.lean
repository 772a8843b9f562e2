/- Lists of numbers. -/
import Derived.Test.YtndcajdameofjaaGreatDoorRipAO
import Derived.Test.YtndcajdameofjaaGreatDoorRipAV
import Derived.Test.YtndcajdameofjaaGreatDoorRipAU
import Derived.Test.YtndcajdameofjaaGreatDoorRipAT

namespace Go.Rip
open Go Go.Proofs
variable {GL : Glob}
attribute [local irreducible] Pure
theorem free_encI' : Free encI := free_encI
@[go_sem] theorem rens_ints (κ : Nat → Nat) (l : List Int) : rens κ (l.map encI) = l.map encI := free_encI.rens κ l
@[go_sem] theorem bds_ints (n : Nat) (l : List Int) : bds n (l.map encI) = True := free_encI.bds n l
theorem h134 (l : List Int) (s : Int) (hl : l.length < 2 ^ 47) : Pure (PC GL) 134 [.sl 1 (l.map encI), .i s] (.i (idxF (fun x => s == x) l)) := by
  refine k134.pure (by simp) (by simp [go_sem]) (by simp [go_sem]) ?_
  simp -implicitDefEqProofs only [go_sem, c134, r134]
  refine s_forT hC (fun j => (l.take j).any (fun x => s == x) = false) (fun j => [(8, .i j)]) [7, 0, 1] l.length rfl ?_ ?_
  · refine Wk.slots (by simp) ?_ ?_ <;> simp [go_sem]
  · rintro j hj hI
    simp -implicitDefEqProofs only [go_sem]
    refine cdO_and (fun hlt => ?_) (fun hlt => ?_)
    · have hlt := lt_of_decide hlt
      have g1 := any_snoc hlt (fun x => s == x)
      have w5 : IntKind.i64.wrap ((j : Int) + 1) = (j : Int) + 1 := wrap_ok _ (by omega)
      simp -implicitDefEqProofs only [go_sem, hlt, getD_map, encI]
      refine cdO_and (fun hx => ?_) (fun hx => ?_)
      · simp -implicitDefEqProofs only [go_sem, hx]
        refine fin_pure ?_ ?_ <;> simp [go_sem, idxF_hit hlt hI hx]
      · simp -implicitDefEqProofs only [go_sem, hx]
        exact ⟨by rw [g1, hI, hx]; rfl, Wk.slots (by simp) (by simp [go_sem, w5]) (by simp [go_sem])⟩
    · have hge := ge_of_decide hlt
      rw [take_all hge] at hI
      simp -implicitDefEqProofs only [go_sem, hlt]
      refine fin_pure ?_ ?_ <;> simp [go_sem, idxF_none hI]
theorem h43 (l : List Int) (s : Int) (hl : l.length < 2 ^ 47) : Pure (PC GL) 43 [.sl 1 (l.map encI), .i s] (.b (l.any fun x => s == x)) := by
  have h := h134 (GL := GL) l s hl
  refine k43.pure (by simp) (by simp [go_sem]) (by simp [go_sem]) ?_
  simp -implicitDefEqProofs only [go_sem, c43, r43]
  repeat' (first | simp -implicitDefEqProofs only [go_sem, *, idxF_ge] | with_reducible refine gdO_and (fun _ => ?_) (fun _ => ?_) | with_reducible refine pkO_and (fun _ => ?_) (fun _ => ?_) | with_reducible refine cdO_and (fun _ => ?_) (fun _ => ?_) | with_reducible refine fin_pure ?_ ?_ | ((with_reducible apply call_pure hC); (exact h)) | ((with_reducible refine And.intro ?bnd ?_); (case bnd => decide)) | fail)
  all_goals simp_all [go_sem]
theorem h219 (l : List Int) (s : Int) (hl : l.length < 2 ^ 47) : Pure (PC GL) 219 [.sl 1 (l.map encI), .i s] (.b (l.any fun x => x == s)) := by
  refine k219.pure (by simp) (by simp [go_sem]) (by simp [go_sem]) ?_
  simp -implicitDefEqProofs only [go_sem, c219, r219]
  refine s_forT hC (fun j => (l.take j).any (fun x => x == s) = false) (fun j => [(5, .i j)]) [0, 1, 4] l.length rfl ?_ ?_
  · refine Wk.slots (by simp) ?_ ?_ <;> simp [go_sem]
  · rintro j hj hI
    simp -implicitDefEqProofs only [go_sem]
    refine cdO_and (fun hlt => ?_) (fun hlt => ?_)
    · have hlt := lt_of_decide hlt
      have g1 := any_snoc hlt (fun x => x == s)
      have w5 : IntKind.i64.wrap ((j : Int) + 1) = (j : Int) + 1 := wrap_ok _ (by omega)
      simp -implicitDefEqProofs only [go_sem, hlt, getD_map, encI]
      refine cdO_and (fun hx => ?_) (fun hx => ?_)
      · have : (l.any fun x => x == s) = true := List.any_eq_true.2 ⟨_, List.getElem_mem hlt, hx⟩
        simp -implicitDefEqProofs only [go_sem, hx]
        refine fin_pure ?_ ?_ <;> simp [go_sem, this]
      · simp -implicitDefEqProofs only [go_sem, hx]
        exact ⟨by rw [g1, hI, hx]; rfl, Wk.slots (by simp) (by simp [go_sem, w5]) (by simp [go_sem])⟩
    · have hge := ge_of_decide hlt
      rw [take_all hge] at hI
      simp -implicitDefEqProofs only [go_sem, hlt]
      refine fin_pure ?_ ?_ <;> simp [go_sem, hI]
end Go.Rip

/- Sizes of lists; predicates over lists; lists joined. -/
namespace Go.Rip
open Go Go.Proofs
variable {GL : Glob}
attribute [local irreducible] Pure
theorem fin_same {GL : Glob} {x v : AV} {h : List AObj} (e : x = v) : ∃ y h', Wk GL h.length [(0, x)] h [(0, y)] h' ∧ h' = h ∧ ARes.val y = ARes.val v := ⟨v, h, by rw [e]; exact Wk.refl (Nat.le_refl _), rfl, rfl⟩
theorem h248 (t : Tm) (ht : t.size < 2 ^ 30) : Pure (PC GL) 248 [enc t] (.tup [.i t.size, .i t.deep]) := by
  induction t using tm_ind with
  | _ t ih =>
  rw [size_eq] at ht
  refine k248.pure (by simp) (by simp [go_sem]) (by simp [go_sem]) ?_
  simp -implicitDefEqProofs only [c248, r248, go_sem]
  refine s_forT hC (fun _ => True) (fun j => [(13, .i j), (4, .i (1 + sizes (t.l.take j) : Nat)), (5, .i (deeps (t.l.take j) : Nat))]) [11, 12] t.l.length trivial ?_ ?_
  · refine Wk.slots (by simp) ?_ ?_ <;> simp [go_sem, sizes, deeps]
  · intro j hj _
    simp -implicitDefEqProofs only [go_sem]
    refine cdO_and (fun hlt => ?_) (fun hlt => ?_)
    · have hlt := lt_of_decide hlt
      simp -implicitDefEqProofs only [go_sem, hlt, getD_map]
      have h1 := size_mem hlt
      refine call_pure hC (ih _ (List.getElem_mem hlt) (by omega)) ?_
      simp -implicitDefEqProofs only [go_sem]
      have h2 := sizes_take t.l j
      have h4 := length_sizes t.l
      have h3 := deeps_sizes (t.l.take j)
      refine Wk.slots (by simp) ?_ ?_ <;> simp (disch := omega) [go_sem, wrap_ok, sizes_snoc hlt, deeps_snoc hlt, imax_nat]
      omega
    · have hge := ge_of_decide hlt
      have h3 := deeps_sizes t.l
      simp -implicitDefEqProofs only [go_sem, hlt]
      refine fin_pure ?_ ?_ <;> simp (disch := omega) [go_sem, wrap_ok, take_all hge, size_eq, deep_eq]
      omega
theorem h203 (l : List Tm) (hl : sizes l < 2 ^ 30) : Pure (PC GL) 203 [.sl 4 (l.map enc)] (.i (sizes l)) := by
  have h4 := length_sizes l
  refine k203.pure (by simp) (by simp [go_sem]) (by simp [go_sem]) ?_
  simp -implicitDefEqProofs only [c203, r203, go_sem]
  refine s_forT hC (fun _ => True) (fun j => [(10, .i j), (3, .i (sizes (l.take j) : Nat))]) [8, 9] l.length trivial ?_ ?_
  · refine Wk.slots (by simp) ?_ ?_ <;> simp [go_sem, sizes]
  · intro j hj _
    simp -implicitDefEqProofs only [go_sem]
    refine cdO_and (fun hlt => ?_) (fun hlt => ?_)
    · have hlt := lt_of_decide hlt
      simp -implicitDefEqProofs only [go_sem, hlt, getD_map]
      have h1 := size_mem hlt
      have h2 := sizes_take l j
      refine call_pure hC (h248 _ (by omega)) ?_
      simp -implicitDefEqProofs only [go_sem]
      refine Wk.slots (by simp) ?_ ?_ <;> simp (disch := omega) [go_sem, wrap_ok, sizes_snoc hlt]
    · have hge := ge_of_decide hlt
      simp -implicitDefEqProofs only [go_sem, hlt]
      refine fin_pure ?_ ?_ <;> simp (disch := omega) [go_sem, take_all hge]
theorem h209 (l : List Tm) (hl : sizes l < 2 ^ 30) : Pure (PC GL) 209 [.sl 4 (l.map enc)] (.i (sizes l)) := by
  have h4 := length_sizes l
  refine k209.pure (by simp) (by simp [go_sem]) (by simp [go_sem]) ?_
  simp -implicitDefEqProofs only [c209, r209, go_sem]
  refine s_forT hC (fun _ => True) (fun j => [(4, .i j), (3, .i (sizes (l.take j) : Nat))]) [0] l.length trivial ?_ ?_
  · refine Wk.slots (by simp) ?_ ?_ <;> simp [go_sem, sizes]
  · intro j hj _
    simp -implicitDefEqProofs only [go_sem]
    refine cdO_and (fun hlt => ?_) (fun hlt => ?_)
    · have hlt := lt_of_decide hlt
      simp -implicitDefEqProofs only [go_sem, hlt, getD_map]
      have h1 := size_mem hlt
      have h2 := sizes_take l j
      refine call_pure hC (h184 _ (by omega)) ?_
      simp -implicitDefEqProofs only [go_sem]
      refine Wk.slots (by simp) ?_ ?_ <;> simp (disch := omega) [go_sem, wrap_ok, sizes_snoc hlt]
    · have hge := ge_of_decide hlt
      simp -implicitDefEqProofs only [go_sem, hlt]
      refine fin_pure ?_ ?_ <;> simp (disch := omega) [go_sem, take_all hge]
theorem h150 (l : List Int) (f : FuncId) (cap : List AV) (p : Int → Bool) (h : List AObj) (hl : l.length < 2 ^ 47) (hf : ∀ x ∈ l, PureOn (PC GL) f (.i x :: cap) (.b (p x)) h) : PureOn (PC GL) 150 [.sl 1 (l.map encI), .fn (.func f) [] cap] (.i (idxF p l)) h := by
  refine k150.call (by simp) ?_
  simp -implicitDefEqProofs only [go_sem, c150, r150]
  refine s_forT hC (fun j => (l.take j).any p = false) (fun j => [(8, .i j)]) [7, 0, 1] l.length rfl ?_ ?_
  · exact Wk.pick (Nat.le_refl _) (by simp [go_sem])
  · rintro j hj hI
    simp -implicitDefEqProofs only [go_sem]
    refine cdO_and (fun hlt => ?_) (fun hlt => ?_)
    · have hlt := lt_of_decide hlt
      have g1 := any_snoc hlt p
      have w5 : IntKind.i64.wrap ((j : Int) + 1) = (j : Int) + 1 := wrap_ok _ (by omega)
      simp -implicitDefEqProofs only [go_sem, hlt, getD_map, encI]
      refine call_on hC (hf _ (List.getElem_mem hlt)) ?_
      simp -implicitDefEqProofs only [go_sem]
      refine cdO_and (fun hx => ?_) (fun hx => ?_)
      · simp -implicitDefEqProofs only [go_sem, hx]
        exact fin_same (by rw [idxF_hit hlt hI hx])
      · simp -implicitDefEqProofs only [go_sem, hx]
        exact ⟨by rw [g1, hI, hx]; rfl, Wk.pick (Nat.le_refl _) (by simp [go_sem, w5])⟩
    · have hge := ge_of_decide hlt
      rw [take_all hge] at hI
      simp -implicitDefEqProofs only [go_sem, hlt]
      exact fin_same (by rw [idxF_none hI])
theorem h61 (l : List Int) (f : FuncId) (cap : List AV) (p : Int → Bool) (h : List AObj) (hl : l.length < 2 ^ 47) (hf : ∀ x ∈ l, PureOn (PC GL) f (.i x :: cap) (.b (p x)) h) : PureOn (PC GL) 61 [.sl 1 (l.map encI), .fn (.func f) [] cap] (.b (l.any p)) h := by
  refine k61.call (by simp) ?_
  simp -implicitDefEqProofs only [go_sem, c61, r61]
  refine call_on hC (h150 l f cap p h hl hf) ?_
  simp -implicitDefEqProofs only [go_sem, idxF_ge]
  exact fin_same rfl
theorem h291 (l : List Sym) (f : FuncId) (cap : List AV) (p : Sym → Bool) (h : List AObj) (hl : l.length < 2 ^ 47) (hf : ∀ x ∈ l, PureOn (PC GL) f (encSym x :: cap) (.b (p x)) h) : PureOn (PC GL) 291 [.sl 2 (l.map encSym), .fn (.func f) [] cap] (.i (idxF p l)) h := by
  refine k291.call (by simp) ?_
  simp -implicitDefEqProofs only [go_sem, c291, r291]
  refine s_forT hC (fun j => (l.take j).any p = false) (fun j => [(8, .i j)]) [7, 0, 1] l.length rfl ?_ ?_
  · exact Wk.pick (Nat.le_refl _) (by simp [go_sem])
  · rintro j hj hI
    simp -implicitDefEqProofs only [go_sem]
    refine cdO_and (fun hlt => ?_) (fun hlt => ?_)
    · have hlt := lt_of_decide hlt
      have g1 := any_snoc hlt p
      have w5 : IntKind.i64.wrap ((j : Int) + 1) = (j : Int) + 1 := wrap_ok _ (by omega)
      simp -implicitDefEqProofs only [go_sem, hlt, getD_map]
      have hx := hf _ (List.getElem_mem hlt)
      simp only [encSym] at hx ⊢
      simp -implicitDefEqProofs only [go_sem]
      refine call_on hC hx ?_
      simp -implicitDefEqProofs only [go_sem]
      refine cdO_and (fun hx => ?_) (fun hx => ?_)
      · simp -implicitDefEqProofs only [go_sem, hx]
        exact fin_same (by rw [idxF_hit hlt hI hx])
      · simp -implicitDefEqProofs only [go_sem, hx]
        exact ⟨by rw [g1, hI, hx]; rfl, Wk.pick (Nat.le_refl _) (by simp [go_sem, w5])⟩
    · have hge := ge_of_decide hlt
      rw [take_all hge] at hI
      simp -implicitDefEqProofs only [go_sem, hlt]
      exact fin_same (by rw [idxF_none hI])
theorem h254 (l : List Sym) (f : FuncId) (cap : List AV) (p : Sym → Bool) (h : List AObj) (hl : l.length < 2 ^ 47) (hf : ∀ x ∈ l, PureOn (PC GL) f (encSym x :: cap) (.b (p x)) h) : PureOn (PC GL) 254 [.sl 2 (l.map encSym), .fn (.func f) [] cap] (.b (l.any p)) h := by
  refine k254.call (by simp) ?_
  simp -implicitDefEqProofs only [go_sem, c254, r254]
  refine call_on hC (h291 l f cap p h hl hf) ?_
  simp -implicitDefEqProofs only [go_sem, idxF_ge]
  exact fin_same rfl
theorem h253 (n : Nat) (hn : n < 2 ^ 40) (h : List AObj) : Gives (PC GL) 253 [.v (.slice none 0 0), .i n] h fun x h' => (n = 0 ∧ x = .v (.slice none 0 0) ∧ h' = h) ∨ (0 < n ∧ ∃ k, x = .own k 4 [] ∧ h'[k]? = some (.spare 24 4) ∧ Keep All h h') := by
  refine k253.gives (by simp) ?_
  simp -implicitDefEqProofs only [go_sem, c253, r253]
  have e0 : decide ((n : Int) < 0) = false := by simp
  have w0 : IntKind.i64.wrap (0 - ((0 : Nat) : Int)) = 0 := by decide
  have w1 : IntKind.i64.wrap (n : Int) = n := wrap_ok _ (by omega)
  simp -implicitDefEqProofs only [go_sem, e0, w0, w1, Int.sub_zero]
  refine cdO_and (fun hlt => ?_) (fun hlt => ?_)
  · have hn0 : 0 < n := by have := of_decide_eq_true hlt; omega
    simp -implicitDefEqProofs only [go_sem, hlt]
    refine ⟨⟨by omega, by omega⟩, ⟨by simp, by simp, by simp⟩, ?_⟩
    refine fin_gives (by simp) (.inr ⟨hn0, _, rfl, ?_, ?_⟩)
    · rw [List.append_assoc]; exact get_at_add h _ 1
    · rw [List.append_assoc]; exact Keep.app _ _ _
  · have hn0 : n = 0 := by have := of_decide_eq_false hlt; omega
    simp -implicitDefEqProofs only [go_sem, hlt]
    exact fin_gives (Nat.le_refl _) (.inl ⟨hn0, rfl, rfl⟩)
/-- Lists of terms, as a slice of slices. -/
theorem flat_take (ls : List (List Tm)) (j : Nat) : (ls.take j).flatten.length ≤ ls.flatten.length := by
  conv => rhs; rw [← List.take_append_drop j ls, List.flatten_append, List.length_append]
  omega
theorem flat_snoc {ls : List (List Tm)} {j : Nat} (h : j < ls.length) : (ls.take (j + 1)).flatten = (ls.take j).flatten ++ ls[j] := by
  rw [take_snoc h, List.flatten_append]; simp
def encT (l : List Tm) : AV := .sl 4 (l.map enc)
theorem free_encT : Free encT := ⟨fun κ a => by simp only [encT, ren, rens_encs], fun n a => by simp only [encT, bd, bds_encs]⟩
theorem h218 (ls : List (List Tm)) (hl : ls.flatten.length < 2 ^ 40) (hl2 : ls.length < 2 ^ 40) : Pure (PC GL) 218 [.sl 1 (ls.map encT)] (encT ls.flatten) := by
  have r1 := fun κ => free_encT.rens κ ls
  have r2 := fun n => free_encT.bds n ls
  refine k218.pure (by simp) (by simp [go_sem, r2]) (by rw [free_encT.2]; trivial) ?_
  simp -implicitDefEqProofs only [go_sem, c218, r218]
  refine s_forT hC (fun _ => True) (fun j => [(11, .i j), (3, .i ((ls.take j).flatten.length : Nat))]) [0, 9, 10] ls.length trivial ?_ ?_
  · exact Wk.pick (by simp) (by simp [go_sem])
  · intro j hj _
    have hf := flat_take ls j
    simp -implicitDefEqProofs only [go_sem]
    refine cdO_and (fun hlt => ?_) (fun hlt => ?_)
    · have hlt := lt_of_decide hlt
      have hf2 := flat_take ls (j + 1)
      have hs := flat_snoc hlt
      rw [hs, List.length_append] at hf2
      have w5 : IntKind.i64.wrap ((j : Int) + 1) = (j : Int) + 1 := wrap_ok _ (by omega)
      have w6 : IntKind.i64.wrap (((ls.take j).flatten.length : Int) + (ls[j].length : Int)) = ((ls.take (j + 1)).flatten.length : Int) := by rw [wrap_ok _ (by omega), hs, List.length_append]; omega
      have w7 : decide (((ls.take (j + 1)).flatten.length : Int) < 0) = false := by simp
      simp -implicitDefEqProofs only [go_sem, hlt, getD_map, encT, w6, w7, w5]
      exact Wk.pick (by simp) (by simp [go_sem])
    · have hge := ge_of_decide hlt
      simp -implicitDefEqProofs only [go_sem, hlt, take_all hge]
      refine call_gives hC (h253 _ (by omega) _) fun x h' hx => ?_
      simp -implicitDefEqProofs only [go_sem]
      refine s_forP hC (fun j a => [(27, .i j), (25, .sl 1 (ls.map encT)), (26, .i ls.length), (6, .own a 4 ((ls.take j).flatten.map enc))]) (fun _ a h => h[a]? = some (.spare 24 4)) ls.length ?_ ?_
      · rcases hx with ⟨hn, rfl, rfl⟩ | ⟨hn, k, rfl, hk, hK⟩
        · refine ⟨0, [.spare 24 4], (Wk.own_nil (h := []) 24 4 6 (by simp [go_sem]) (Nat.zero_le _)).trans (Wk.pick (Nat.zero_le _) ?_), rfl⟩
          simp [go_sem]
        · exact ⟨k, h', Wk.pick (Nat.zero_le _) (by simp [go_sem]), hk⟩
      · intro j a h'' hj ha
        have hf := flat_take ls j
        simp -implicitDefEqProofs only [go_sem]
        refine cdO_and (fun hlt => ?_) (fun hlt => ?_)
        · have hlt := lt_of_decide hlt
          have hf2 := flat_take ls (j + 1)
          have hs := flat_snoc hlt
          rw [hs, List.length_append] at hf2
          have w5 : IntKind.i64.wrap ((j : Int) + 1) = (j : Int) + 1 := wrap_ok _ (by omega)
          simp -implicitDefEqProofs only [go_sem, hlt, getD_map, encT, ha, w5]
          refine ⟨by show _ ≤ _; omega, ?_⟩
          exact ⟨_, _, Wk.pick (Nat.zero_le _) (by simp [go_sem, hs]; rfl), by simp [go_sem]⟩
        · have hge := ge_of_decide hlt
          simp -implicitDefEqProofs only [go_sem, hlt, take_all hge]
          refine fin_pure (by simp [go_sem, encT]) (by rw [free_encT.2]; trivial)
end Go.Rip

/- Parts of clauses; names; variables of terms. -/
namespace Go.Rip
open Go Go.Proofs
variable {GL : Glob}
attribute [local irreducible] Pure
def Cl.parts (c : Cl) : List Tm := c.head ++ (c.guard ++ c.body)
theorem h140 (c : Cl) (hl : c.parts.length < 2 ^ 40) : Pure (PC GL) 140 [encCl c] (.sl 4 (c.parts.map enc)) := by
  have h := h218 (GL := GL) [c.head, c.guard, c.body] (by simpa [Cl.parts] using hl) (by simp)
  refine k140.pure (by simp) (by simp [go_sem]) (by simp [go_sem]) ?_
  simp -implicitDefEqProofs only [go_sem, c140, r140, encCl]
  refine call_fz h ?_ ?_
  · simp [fzs, fzGs, fzG, encT, fzGs_encs, ← encs_map]
  simp -implicitDefEqProofs only [go_sem]
  refine fin_pure ?_ (by simp [go_sem])
  simp [go_sem, encT, Cl.parts]
theorem h60 (c : Cl) (hl : c.parts.length < 2 ^ 40) : Pure (PC GL) 60 [encCl c] (.sl 4 (c.parts.map enc)) := by
  simp only [Cl.parts, List.length_append] at hl
  refine k60.pure (by simp) (by simp [go_sem]) (by simp [go_sem]) ?_
  simp -implicitDefEqProofs only [go_sem, c60, r60, encCl]
  refine ⟨by show _ ≤ _; omega, by show _ ≤ _; omega, by show _ ≤ _; omega, ?_⟩
  refine fin_pure ?_ (by simp [go_sem])
  simp [go_sem, Cl.parts]
theorem h260 (r : Int) : Pure (PC GL) 260 [.v (.int .i32 r)] (.b (decide (r < 32) || decide (126 < r))) := by
  refine k260.pure (by simp) (by simp [go_sem]) (by simp [go_sem]) ?_
  simp -implicitDefEqProofs only [c260, r260, go_sem]
  repeat' (first | simp -implicitDefEqProofs only [go_sem, *] | with_reducible refine gdO_and (fun _ => ?_) (fun _ => ?_) | with_reducible refine pkO_and (fun _ => ?_) (fun _ => ?_) | with_reducible refine cdO_and (fun _ => ?_) (fun _ => ?_) | with_reducible refine fin_pure ?_ ?_ | ((with_reducible refine And.intro ?bnd ?_); (case bnd => decide)) | fail)
  all_goals simp_all
theorem h315x (s : List UInt8) (f : FuncId) (_hs : s.length < 2 ^ 30) (hf : ∀ r, Pure (PC GL) f [.v (.int .i32 r)] (.b (decide (r < 32) || decide (126 < r)))) : Pure (PC GL) 315 [.str s, .fn (.func f) [] [], .b true] (.i (firstBad s)) := by
  refine k315.pure (by simp) (by simp [go_sem]) (by simp [go_sem]) ?_
  simp -implicitDefEqProofs only [go_sem, c315, r315]
  refine s_for hC (fun j => (s.take j).all byteOk = true) (fun _ => [(10, .ref 0 0), (0, .str s), (1, .fn (.func f) [] []), (2, .b true)]) (fun j => [.siter ⟨s.toArray⟩ j]) s.length (by simp) ?_ ?_
  · refine Wk.slots (by simp) ?_ ?_ <;> simp [go_sem]
  · intro j hj hI
    simp -implicitDefEqProofs only [go_sem]
    refine nxO_and (fun hlt => ?_) (fun hlt => ?_)
    · rw [size_mk] at hlt
      have hlt : j < s.length := Nat.le_of_ble_eq_true hlt
      by_cases hb : byteOk s[j] = true
      · simp -implicitDefEqProofs only [go_sem, decode_ok hlt hb]
        refine call_pure hC (hf _) ?_
        have hb' := hb
        simp only [byteOk, Bool.and_eq_true, decide_eq_true_eq] at hb'
        have e : (decide (((s[j]).toNat : Int) < 32) || decide (126 < ((s[j]).toNat : Int))) = false := by simp; omega
        simp -implicitDefEqProofs only [go_sem, e]
        refine ⟨hlt, by rw [all_snoc hlt, hI, hb]; rfl, Wk.slots (by simp) ?_ ?_⟩ <;> simp [go_sem]
      · have hb : byteOk s[j] = false := by simpa using hb
        have hd := decode_bad hlt hb
        simp -implicitDefEqProofs only [go_sem]
        refine call_pure hC (hf _) ?_
        have e : (decide (((Utf8.decode ⟨s.toArray⟩ j).1 : Int) < 32) || decide (126 < ((Utf8.decode ⟨s.toArray⟩ j).1 : Int))) = true := by simp; omega
        simp -implicitDefEqProofs only [go_sem, e]
        refine fin_pure ?_ ?_ <;> simp [go_sem, firstBad_some hlt hI hb]
    · rw [size_mk] at hlt
      have hge : s.length ≤ j := by
        rcases Nat.lt_or_ge j s.length with h | h
        · rw [show Nat.blt j s.length = true from Nat.ble_eq_true_of_le h] at hlt; cases hlt
        · exact h
      rw [take_all hge] at hI
      simp -implicitDefEqProofs only [go_sem]
      refine fin_pure ?_ ?_ <;> simp [go_sem, firstBad_none hI]
theorem h301x (s : List UInt8) (f : FuncId) (_hs : s.length < 2 ^ 30) (h : Pure (PC GL) 315 [.str s, .fn (.func f) [] [], .b true] (.i (firstBad s))) : Pure (PC GL) 301 [.str s, .fn (.func f) [] []] (.i (firstBad s)) := by
  refine k301.pure (by simp) (by simp [go_sem]) (by simp [go_sem]) ?_
  simp -implicitDefEqProofs only [c301, r301, go_sem]
  repeat' (first | simp -implicitDefEqProofs only [go_sem, *] | with_reducible refine gdO_and (fun _ => ?_) (fun _ => ?_) | with_reducible refine pkO_and (fun _ => ?_) (fun _ => ?_) | with_reducible refine cdO_and (fun _ => ?_) (fun _ => ?_) | with_reducible refine fin_pure ?_ ?_ | ((with_reducible apply call_pure hC); (exact h)) | ((with_reducible refine And.intro ?bnd ?_); (case bnd => decide)) | fail)
  all_goals simp_all [go_sem]
theorem h259 (s : List UInt8) (hs : s.length < 2 ^ 30) : Pure (PC GL) 259 [.str s, .fn (.func 260) [] []] (.b (!s.all byteOk)) := by
  have h := h315x (GL := GL) s 260 hs h260
  have h1 := h301x (GL := GL) s 260 hs h
  have e : decide (firstBad s ≥ 0) = !s.all byteOk := by
    rw [← firstBad_neg, Bool.eq_iff_iff]; simp
  refine k259.pure (by simp) (by simp [go_sem]) (by simp [go_sem]) ?_
  simp -implicitDefEqProofs only [c259, r259, go_sem]
  repeat' (first | simp -implicitDefEqProofs only [go_sem, *] | with_reducible refine gdO_and (fun _ => ?_) (fun _ => ?_) | with_reducible refine pkO_and (fun _ => ?_) (fun _ => ?_) | with_reducible refine cdO_and (fun _ => ?_) (fun _ => ?_) | with_reducible refine fin_pure ?_ ?_ | ((with_reducible apply call_pure hC); (exact h1)) | ((with_reducible refine And.intro ?bnd ?_); (case bnd => decide)) | fail)
  all_goals simp_all [go_sem]
theorem h229 (s : List UInt8) (hs : s.length < 2 ^ 30) : Pure (PC GL) 229 [.str s] (.b (nameOk s)) := by
  have h := h259 (GL := GL) s hs
  refine k229.pure (by simp) (by simp [go_sem]) (by simp [go_sem]) ?_
  simp -implicitDefEqProofs only [go_sem, c229, r229, dge]
  repeat' (first | simp -implicitDefEqProofs only [go_sem, *, dle] | with_reducible refine gdO_and (fun _ => ?_) (fun _ => ?_) | with_reducible refine pkO_and (fun _ => ?_) (fun _ => ?_) | with_reducible refine cdO_and (fun _ => ?_) (fun _ => ?_) | with_reducible refine fin_pure ?_ ?_ | ((with_reducible apply call_pure hC); (exact h)) | ((with_reducible refine And.intro ?bnd ?_); (case bnd => decide)) | fail)
  all_goals simp_all [go_sem, nameOk]
  all_goals (intros; omega)

mutual
/-- The nodes of a term, each ahead of those within it. -/
def Tm.pre : Tm → List Tm
  | .mk k n s l => .mk k n s l :: pres l
def pres : List Tm → List Tm
  | [] => []
  | t :: r => t.pre ++ pres r
end
theorem pre_eq (t : Tm) : t.pre = t :: pres t.l := by cases t; rfl
theorem pres_app : ∀ a b, pres (a ++ b) = pres a ++ pres b
  | [], b => rfl
  | x :: r, b => by simp only [List.cons_append, pres, pres_app r b, List.append_assoc]
theorem pres_snoc {l : List Tm} {j : Nat} (h : j < l.length) : pres (l.take (j + 1)) = pres (l.take j) ++ l[j].pre := by
  rw [take_snoc h, pres_app]; simp [pres]
mutual
theorem pre_length : ∀ t : Tm, t.pre.length = t.size
  | .mk _ _ _ l => by simp only [Tm.pre, Tm.size, List.length_cons, pres_length l]
theorem pres_length : ∀ l, (pres l).length = sizes l
  | [] => rfl
  | t :: r => by simp only [pres, sizes, List.length_append, pre_length t, pres_length r]
end
/-- A variable that was not there is added. -/
def addV (l : List Int) (t : Tm) : List Int := if t.kind = 1 ∧ (l.any fun x => x == t.n) = false then l ++ [t.n] else l
def varsOf (ts : List Tm) : List Int := (pres ts).foldl addV []
theorem addV_len (l : List Int) (t : Tm) : l.length ≤ (addV l t).length ∧ (addV l t).length ≤ l.length + 1 := by
  unfold addV; split <;> simp
theorem foldV_len : ∀ (ts : List Tm) (l : List Int), (ts.foldl addV l).length ≤ l.length + ts.length
  | [], l => by simp
  | t :: r, l => by
    have := foldV_len r (addV l t)
    have := addV_len l t
    simp only [List.foldl_cons, List.length_cons]; omega
end Go.Rip

/- Variables of terms: the program's way, a range over a function. -/
namespace Go.Rip
open Go Go.Proofs
variable {GL : Glob}
attribute [local irreducible] Pure
theorem h257 {Φ : List Tm → List AObj → Prop} {K : Nat → AObj → Prop} (happ : ∀ v h l, Φ v h → Φ v (h ++ l)) (hK : ∀ v h, Φ v h → ∀ i cs, h.length ≤ i → ¬ K i (.cells 24 cs)) (k N : Nat)
    (hY : ∀ v x h, v.length < N → Φ v h → PC GL (.yld k) [enc x] h fun r h' => r = .val (.b true) ∧ Φ (v ++ [x]) h' ∧ Keep K h h') (t : Tm) (ht : t.size < 2 ^ 30) :
    ∀ v h, v.length + t.size ≤ N → Φ v h → Gives (PC GL) 257 [enc t, .yld k] h fun x h' => x = .b true ∧ Φ (v ++ t.pre) h' ∧ Keep K h h' := by
  induction t using tm_ind with
  | _ t ih =>
  intro v h hN hv
  have hs := size_eq t
  have h4 := length_sizes t.l
  refine k257.gives (by simp) ?_
  simp -implicitDefEqProofs only [go_sem, c257, r257]
  refine call_any hC (hY v t _ (by omega) (happ _ _ _ hv)) fun r h1 ⟨hr, hv1, hk1⟩ => ?_
  subst hr
  have hb : h1[h.length]? = some (.cells 24 (enc t).cells) := hk1.get (by simp [go_sem]) (hK v h hv _ _ (Nat.le_refl _))
  have hk0 : Keep K h h1 := hk1.left
  simp -implicitDefEqProofs only [go_sem, hb]
  refine s_forP hC (fun j _ => [(14, .i j), (12, .sl 4 (t.l.map enc)), (13, .i t.l.length), (1, .yld k)]) (fun j (_ : Unit) h' => Φ (v ++ (t :: pres (t.l.take j))) h' ∧ Keep K h h') t.l.length ?_ ?_
  · exact ⟨(), h1, Wk.pick hk0.1 (by simp [go_sem]), by simpa [pres] using hv1, hk0⟩
  · rintro j - h2 hj ⟨hv2, hk2⟩
    simp -implicitDefEqProofs only [go_sem]
    refine cdO_and (fun hlt => ?_) (fun hlt => ?_)
    · have hlt := lt_of_decide hlt
      have g1 := size_mem hlt
      have g2 := sizes_take t.l (j + 1)
      have g3 := sizes_snoc hlt
      have w5 : IntKind.i64.wrap ((j : Int) + 1) = (j : Int) + 1 := wrap_ok _ (by omega)
      simp -implicitDefEqProofs only [go_sem, hlt, getD_map]
      refine call_gives hC (ih _ (List.getElem_mem hlt) (by omega) (v ++ (t :: pres (t.l.take j))) _ (by simp only [List.length_append, List.length_cons, pres_length]; omega) (happ _ _ _ hv2)) fun x h3 ⟨hx, hv3, hk3⟩ => ?_
      subst hx
      have hk4 : Keep K h h3 := hk2.trans hk3.left
      simp -implicitDefEqProofs only [go_sem]
      exact ⟨(), h3, Wk.pick hk4.1 (by simp [go_sem, w5]), by rw [pres_snoc hlt]; simpa using hv3, hk4⟩
    · have hge := ge_of_decide hlt
      rw [take_all hge] at hv2
      simp -implicitDefEqProofs only [go_sem, hlt]
      exact fin_gives hk2.1 ⟨rfl, by rw [pre_eq]; exact hv2, hk2⟩
theorem g256 {Φ : List Tm → List AObj → Prop} {K : Nat → AObj → Prop} (happ : ∀ v h l, Φ v h → Φ v (h ++ l)) (hK : ∀ v h, Φ v h → ∀ i cs, h.length ≤ i → ¬ K i (.cells 24 cs)) (k N : Nat)
    (hY : ∀ v x h, v.length < N → Φ v h → PC GL (.yld k) [enc x] h fun r h' => r = .val (.b true) ∧ Φ (v ++ [x]) h' ∧ Keep K h h') (t : Tm) (ht : t.size < 2 ^ 30) 
    (v : List Tm) (h : List AObj) (b : Nat) (hN : v.length + t.size ≤ N) (hv : Φ v h) (hb : h[b]? = some (.cells 24 (enc t).cells)) : PC GL (.gen 256) [.yld k, .ref b 0] h fun r h' => (∃ x, r = .val x) ∧ Φ (v ++ t.pre) h' ∧ Keep K h h' := by
  refine k256.gen (by simp) ?_
  simp -implicitDefEqProofs only [go_sem, c256, r256, hb]
  refine call_gives hC (h257 happ hK k N hY t ht v _ hN hv) fun x h3 ⟨hx, hv3, hk3⟩ => ?_
  simp -implicitDefEqProofs only [go_sem]
  exact ⟨_, h3, Wk.refl hk3.1, ⟨_, rfl⟩, hv3, hk3⟩
theorem h223 (t : Tm) (h : List AObj) : Gives (PC GL) 223 [enc t] h fun x h' => x = .fn (.func 256) [] [.ref h.length 0] ∧ h' = h ++ [.cells 24 (enc t).cells] := by
  refine k223.gives (by simp) ?_
  simp -implicitDefEqProofs only [go_sem, c223, r223]
  exact fin_gives (by simp) ⟨rfl, rfl⟩

/-- What lies there while variables are found: the slice, and the map of those that were met. -/
def VarsAt (v : List Tm) (h : List AObj) : Prop := ∃ cv, h[0]? = some (.cells 61 [cv]) ∧ h[1]? = some (.map ((v.foldl addV []).map encI) ((v.foldl addV []).map fun _ => .b true)) ∧ h[2]? = some (.cells 288 [.mp 1]) ∧
  ((v.foldl addV [] = [] ∧ cv = .v (.slice none 0 0)) ∨ ∃ j, 2 < j ∧ cv = .own j 1 ((v.foldl addV []).map encI) ∧ h[j]? = some (.spare 3 1))
def VarsK (i : Nat) (o : AObj) : Prop := i < 2 ∨ o = .spare 3 1
theorem eq_int (a b : Int) : eqKQ (.one (.int .i64)) (.i a) (.i b) = some (a == b) := by simp [eqKQ, eqAV]
def idxI (s : Int) : List Int → Option Nat
  | [] => none
  | k :: r => if s = k then some 0 else (idxI s r).map (· + 1)
theorem find_int (s : Int) : ∀ ks : List Int, findA (.one (.int .i64)) (.v (.int .i64 s)) (ks.map encI) = some (idxI s ks)
  | [] => by simp [findA, eqKQ, eqAV, idxI]
  | k :: r => by
    simp only [List.map_cons, findA, find_int s r, idxI, encI, eqKQ, eqAV, and_self, if_true]
    by_cases h : s = k
    · simp [h]
    · have : (s == k) = false := by simpa using h
      simp [h, this]
theorem idxI_none {s : Int} : ∀ {ks : List Int}, (ks.any fun x => x == s) = false → idxI s ks = none
  | [], _ => rfl
  | k :: r, h => by
    simp only [List.any_cons, Bool.or_eq_false_iff, beq_eq_false_iff_ne] at h
    simp [idxI, Ne.symm h.1, idxI_none h.2]
theorem idxI_some {s : Int} : ∀ {ks : List Int}, (ks.any fun x => x == s) = true → ∃ i, idxI s ks = some i ∧ i < ks.length
  | k :: r, h => by
    by_cases he : s = k
    · exact ⟨0, by simp [idxI, he], by simp⟩
    · simp only [List.any_cons, Bool.or_eq_true, beq_iff_eq] at h
      obtain ⟨i, h1, h2⟩ := idxI_some (h.resolve_left (Ne.symm he))
      exact ⟨i + 1, by simp [idxI, he, h1], by simpa using h2⟩
theorem VarsAt.app {v : List Tm} {h l : List AObj} (hv : VarsAt v h) : VarsAt v (h ++ l) := by
  obtain ⟨cv, h0, h1, h2, h3⟩ := hv
  refine ⟨cv, get_before h0, get_before h1, get_before h2, ?_⟩
  rcases h3 with h3 | ⟨j, a, b, c⟩
  · exact .inl h3
  · exact .inr ⟨j, a, b, get_before c⟩
theorem foldV_snoc (v : List Tm) (x : Tm) : (v ++ [x]).foldl addV [] = addV (v.foldl addV []) x := by simp
/-- A round: a node is looked at. -/
theorem y249 {τ : List (Nat × AV)} (h3 : tget τ 3 = .ref 0 0) (h4 : tget τ 4 = .ref 2 0) (k : Nat) (hk : 2 < k) (v : List Tm) (x : Tm) (h : List AObj) (hN : v.length < 2 ^ 32) (hv : VarsAt v h)
    (hl : h[k]? = some (.loop τ 38 [17] (rfAt Tryz.prog Tryz.f249 0).1 (rfAt Tryz.prog Tryz.f249 0).2 .ready none)) :
    PC GL (.yld k) [enc x] h fun r h' => r = .val (.b true) ∧ VarsAt (v ++ [x]) h' ∧ Keep VarsK h h' := by
  obtain ⟨cv, o0, o1, o2, o3⟩ := hv
  have hn := foldV_len v []
  refine ayieldP hl kra249_0 krb249_0 rfl rfl rfl rfl ?_
  have hl' := fun l => get_before (l := l) hl
  simp -implicitDefEqProofs only [go_sem, ra249_0, hl']
  rw [set_before hl]
  generalize hB : h.set k (AObj.loop τ 38 [17] (rfAt Tryz.prog Tryz.f249 0).1 (rfAt Tryz.prog Tryz.f249 0).2 LoopState.busy none) = hb
  have q0 : hb[0]? = some (.cells 61 [cv]) := by rw [← hB, get_set_ne (by omega)]; exact o0
  have q1 : hb[1]? = some (.map ((v.foldl addV []).map encI) ((v.foldl addV []).map fun _ => .b true)) := by rw [← hB, get_set_ne (by omega)]; exact o1
  have q2 : hb[2]? = some (.cells 288 [.mp 1]) := by rw [← hB, get_set_ne (by omega)]; exact o2
  have qk : hb[k]? = some (.loop τ 38 [17] (rfAt Tryz.prog Tryz.f249 0).1 (rfAt Tryz.prog Tryz.f249 0).2 .busy none) := by rw [← hB]; exact get_set hl
  have hlen : h.length = hb.length := by rw [← hB]; simp
  have q0' := fun l => get_before (l := l) q0
  have q1' := fun l => get_before (l := l) q1
  have q2' := fun l => get_before (l := l) q2
  have qk' := fun l => get_before (l := l) qk
  rw [hlen]
  have hv0 : VarsAt v h := ⟨cv, o0, o1, o2, o3⟩
  have l0 := lt_of_get q0
  have l1 := lt_of_get q1
  have l2 := lt_of_get q2
  have lk := lt_of_get qk
  -- nothing is added
  have same : ∀ cs, (v ++ [x]).foldl addV [] = v.foldl addV [] → ∃ h', Wk GL hb.length [] ((hb ++ [AObj.cells 24 cs]).set k (AObj.loop τ 38 [17] (rfAt Tryz.prog Tryz.f249 0).1 (rfAt Tryz.prog Tryz.f249 0).2 LoopState.ready none)) [] h' ∧
      VarsAt (v ++ [x]) h' ∧ Keep VarsK h h' := fun cs e1 => by
    refine ⟨_, Wk.refl (by simp), ?_⟩
    rw [set_before qk, ← hB, set_back hl]
    refine ⟨?_, Keep.app _ _ _⟩
    have := hv0.app (l := [AObj.cells 24 cs])
    unfold VarsAt at this ⊢
    rw [e1]; exact this
  by_cases hx : x.kind = 1
  · have e : (x.kind == 1) = true := by simpa using hx
    rcases hb2 : (v.foldl addV []).any fun y => y == x.n with _ | _
    · have hi := idxI_none hb2
      have e1 : (v ++ [x]).foldl addV [] = v.foldl addV [] ++ [x.n] := by rw [foldV_snoc, addV, if_pos ⟨hx, hb2⟩]
      have ne1 : ¬ (1 = k) := by omega
      have ne0 : ¬ (0 = k) := by omega
      have kh : ∀ (M C o1 o2 : AObj) (l : List AObj) (i : Nat) (o : AObj), h[i]? = some o → ¬ VarsK i o → ((((hb.set 1 M).set 0 C).set k (AObj.loop τ 38 [17] (rfAt Tryz.prog Tryz.f249 0).1 (rfAt Tryz.prog Tryz.f249 0).2 LoopState.ready none)) ++ l)[i]? = some o := fun M C o1 o2 l i o hio hn => by
        have hi := lt_of_get hio
        rw [hlen] at hi
        rw [List.getElem?_append_left (by simpa using hi)]
        by_cases e : k = i
        · subst e
          rw [hl] at hio
          cases hio
          rw [List.getElem?_set_self (by simpa using hi)]
        · rw [List.getElem?_set_ne e, List.getElem?_set_ne (by rintro rfl; exact hn (.inl (by omega))), List.getElem?_set_ne (by rintro rfl; exact hn (.inl (by omega))), ← hB, List.getElem?_set_ne e]
          exact hio
      rcases o3 with ⟨ov, rfl⟩ | ⟨j, hj, rfl, oj⟩
      · simp -implicitDefEqProofs only [go_sem, rb249_0, e, h3, h4, q0, q1, q2, qk, find_int, hi, set_lt, get_lt, get_ge, List.getElem?_set_ne, List.length_set, Nat.sub_self, Nat.le_refl, ne_eq, not_false_eq_true, l0, l1, l2, lk, ne1, ne0, Nat.one_ne_zero, blt01, List.append_assoc]
        refine ⟨by decide, _, Wk.refl (by simp), ?_, by simp; omega, kh _ _ .dead .dead _⟩
        unfold VarsAt
        rw [e1, ov]
        have ne2 : ¬ (k = 2) := by omega
        have ne1' : ¬ (k = 1) := by omega
        have ne0' : ¬ (k = 0) := by omega
        refine ⟨.own (hb.length + 2) 1 [.i x.n], ?_, ?_, ?_, .inr ⟨hb.length + 2, by omega, rfl, ?_⟩⟩
        · simp [List.length_set, ne_eq, not_false_eq_true, l0, ne0']
        · simp [List.length_set, ne_eq, not_false_eq_true, l1, ne1', encI]
        · rw [get_lt (by simpa using l2), get_set_ne ne2, get_set_ne (by omega), get_set_ne (by omega)]; exact q2
        · simp [List.length_set, Nat.add_sub_cancel_left, Nat.le_add_right]
      · have jk : ¬ (j = k) := by rintro rfl; rw [hl] at oj; cases oj
        have kj : ¬ (k = j) := fun e => jk e.symm
        have qj : hb[j]? = some (.spare 3 1) := by rw [← hB, get_set_ne kj]; exact oj
        have lj := lt_of_get qj
        have n1j : ¬ (1 = j) := by omega
        have nj1 : ¬ (j = 1) := by omega
        have nj0 : ¬ (j = 0) := by omega
        have n2j : ¬ (j = 2) := by omega
        simp -implicitDefEqProofs only [go_sem, rb249_0, e, h3, h4, q0, q1, q2, qk, qj, find_int, hi, set_lt, get_lt, get_ge, List.getElem?_set_ne, List.length_set, Nat.sub_self, Nat.le_refl, ne_eq, not_false_eq_true, l0, l1, l2, lk, lj, n1j, nj0, jk, ne1, ne0, Nat.one_ne_zero, blt01, List.append_assoc]
        have hn' := hn
        simp only [List.length_nil, Nat.zero_add] at hn'
        refine ⟨by omega, _, Wk.refl (by simp), ?_, by simp; omega, fun i o hio hno => ?_⟩
        · unfold VarsAt
          rw [e1]
          have ne2 : ¬ (k = 2) := by omega
          have ne1' : ¬ (k = 1) := by omega
          have ne0' : ¬ (k = 0) := by omega
          refine ⟨.own (hb.length + 2) 1 ((v.foldl addV [] ++ [x.n]).map encI), ?_, ?_, ?_, .inr ⟨hb.length + 2, by omega, rfl, ?_⟩⟩
          · simp [List.length_set, ne_eq, not_false_eq_true, l0, ne0', encI]
          · simp [List.length_set, ne_eq, not_false_eq_true, l1, ne1', nj1, encI]
          · rw [get_lt (by simpa using l2), get_set_ne ne2, get_set_ne (by omega), get_set_ne n2j, get_set_ne (by omega)]; exact q2
          · simp [List.length_set, Nat.add_sub_cancel_left, Nat.le_add_right]
        · have ji : ¬ (j = i) := by rintro rfl; rw [oj] at hio; cases hio; exact hno (.inr rfl)
          have hi := lt_of_get hio
          rw [hlen] at hi
          rw [List.getElem?_append_left (by simpa using hi)]
          by_cases e : k = i
          · subst e
            rw [hl] at hio
            cases hio
            rw [List.getElem?_set_self (by simpa using hi)]
          · rw [List.getElem?_set_ne e, List.getElem?_set_ne (by rintro rfl; exact hno (.inl (by omega))), List.getElem?_set_ne ji, List.getElem?_set_ne (by rintro rfl; exact hno (.inl (by omega))), ← hB, List.getElem?_set_ne e]
            exact hio
    · obtain ⟨i, hi, hi2⟩ := idxI_some hb2
      have e1 : (v ++ [x]).foldl addV [] = v.foldl addV [] := by rw [foldV_snoc, addV, if_neg (by simp [hb2])]
      have e2 : ((v.foldl addV []).map fun _ => AV.b true).getD i .any = .b true := by simp [List.getD, hi2]
      simp -implicitDefEqProofs only [go_sem, rb249_0, e, h4, q1', q2', find_int, hi, e2, qk']
      exact same _ e1
  · have e : (x.kind == 1) = false := by simpa using hx
    have e1 : (v ++ [x]).foldl addV [] = v.foldl addV [] := by rw [foldV_snoc, addV, if_neg (by simp [hx])]
    simp -implicitDefEqProofs only [go_sem, rb249_0, e, qk']
    exact same _ e1
theorem VarsAt.kill {v : List Tm} {h : List AObj} (hv : VarsAt v h) {k : Nat} {o : AObj} (hk : 2 < k) (ho : h[k]? = some o) (hn : o ≠ .spare 3 1) : VarsAt v (h.set k .dead) := by
  obtain ⟨cv, h0, h1, h2, h3⟩ := hv
  refine ⟨cv, by rw [get_set_ne (by omega)]; exact h0, by rw [get_set_ne (by omega)]; exact h1, by rw [get_set_ne (by omega)]; exact h2, ?_⟩
  rcases h3 with h3 | ⟨j, a, b, c⟩
  · exact .inl h3
  · refine .inr ⟨j, a, b, ?_⟩
    rw [get_set_ne (by rintro rfl; rw [ho] at c; exact hn (Option.some.inj c))]
    exact c
theorem range249 (τ : List (Nat × AV)) (h3 : tget τ 3 = .ref 0 0) (h4 : tget τ 4 = .ref 2 0) (t : Tm) (ht : t.size < 2 ^ 30) (h : List AObj) (v : List Tm) (c : AObj) (hl : 2 < h.length) (hv : VarsAt v h) (hN : v.length + t.size ≤ 2 ^ 32) {R : ARes → List AObj → Prop}
    (hR : ∀ x h', VarsAt (v ++ t.pre) h' → h'[h.length + 2]? = some (.loop τ 38 [17] (rfAt Tryz.prog Tryz.f249 0).1 (rfAt Tryz.prog Tryz.f249 0).2 .ready none) → R (.val x) h') :
    PC GL (.gen 256) [.yld (h.length + 2), .ref (h.length + 1) 0] (h ++ [c, .cells 24 [.v (.int .i64 t.kind), .v (.int .i64 t.n), .str t.s, .sl 4 (t.l.map enc)], .loop τ 38 [17] (rfAt Tryz.prog Tryz.f249 0).1 (rfAt Tryz.prog Tryz.f249 0).2 .ready none]) R := by
  refine call_any hC (g256 (Φ := fun v h' => VarsAt v h' ∧ h'[h.length + 2]? = some (.loop τ 38 [17] (rfAt Tryz.prog Tryz.f249 0).1 (rfAt Tryz.prog Tryz.f249 0).2 .ready none)) (K := fun i o => (i < 2 ∨ o = .spare 3 1)) (fun v h' l' e => ⟨e.1.app, get_before e.2⟩)
    ?_ (h.length + 2) (2 ^ 32) (fun v x h' hN e => call_any hC (y249 h3 h4 (h.length + 2) (by omega) v x h' hN e.1 e.2) fun r h'' q => ⟨q.1, ⟨q.2.1, q.2.2.get e.2 ?_⟩, q.2.2⟩) t ht v _ (h.length + 1) hN ⟨hv.app, ?_⟩ ?_) fun r h2 q => ?_
  · rintro v h' ⟨⟨cv, q0, q1, q2, q3⟩, q4⟩ i cs hi (e | e)
    · have := lt_of_get q2; omega
    · cases e
  · rintro (e | e)
    · omega
    · cases e
  · exact get_at_add h _ 2
  · rw [enc_cells]; exact get_at_add h _ 1
  · obtain ⟨⟨x, rfl⟩, ⟨hv2, hl2⟩, -⟩ := q
    exact hR x h2 hv2 hl2
theorem h249 (l : List Tm) (hl : sizes l < 2 ^ 30) : Pure (PC GL) 249 [.sl 4 (l.map enc)] (.sl 1 ((varsOf l).map encI)) := by
  have h4 := length_sizes l
  refine k249.pure (by simp) (by simp [go_sem]) (by simp [go_sem]) ?_
  simp -implicitDefEqProofs only [c249, r249, go_sem]
  refine s_forP hC (fun j _ => [(11, .i j), (9, .sl 4 (l.map enc)), (10, .i l.length), (3, .ref 0 0), (4, .ref 2 0)]) (fun j (_ : Unit) h => VarsAt (pres (l.take j)) h) l.length ?_ ?_
  · refine ⟨(), _, Wk.pick (Nat.zero_le _) (by simp [go_sem]), ?_⟩
    exact ⟨.v (.slice none 0 0), rfl, rfl, rfl, .inl ⟨rfl, rfl⟩⟩
  · rintro j - h hj hv
    have h2l : 2 < h.length := by obtain ⟨_, _, _, q, _⟩ := hv; exact lt_of_get q
    have hv3 := hv
    obtain ⟨cv, o0, o1, o2, o3⟩ := hv3
    simp -implicitDefEqProofs only [go_sem]
    refine cdO_and (fun hlt => ?_) (fun hlt => ?_)
    · have hlt := lt_of_decide hlt
      have g1 := size_mem hlt
      have g2 := sizes_take l (j + 1)
      have g3 := sizes_snoc hlt
      have w5 : IntKind.i64.wrap ((j : Int) + 1) = (j : Int) + 1 := wrap_ok _ (by omega)
      simp -implicitDefEqProofs only [go_sem, hlt, getD_map]
      refine call_gives hC (h223 _ _) fun x h1 ⟨hx, hh⟩ => ?_
      subst hx; subst hh
      simp -implicitDefEqProofs only [go_sem, List.append_assoc]
      refine range249 _ (by simp [go_sem]) (by simp [go_sem]) l[j] (by omega) h (pres (l.take j)) _ h2l hv (by rw [pres_length]; omega) fun x h2 hv2 hl2 => ?_
      simp -implicitDefEqProofs only [go_sem, hl2]
      exact ⟨(), _, Wk.pick (Nat.zero_le _) (by simp [go_sem, w5]), by rw [pres_snoc hlt]; exact hv2.kill (by omega) hl2 (by simp)⟩
    · have hge := ge_of_decide hlt
      rw [take_all hge] at hv
      obtain ⟨cv, o0, o1, o2, o3⟩ := hv
      simp -implicitDefEqProofs only [go_sem, hlt, o0]
      refine fin_pure ?_ (by simp [go_sem])
      rcases o3 with ⟨ov, rfl⟩ | ⟨k, -, rfl, -⟩
      · rw [varsOf, ov]; simp [go_sem]
      · simp [go_sem, varsOf]
end Go.Rip

/- Variables of terms: the reference's way. -/
namespace Go.Rip
open Go Go.Proofs
variable {GL : Glob}
attribute [local irreducible] Pure
theorem h149 (t : Tm) (ht : t.size < 2 ^ 30) : ∀ (l : List Int) (k : Nat) (h : List AObj), l.length + t.size < 2 ^ 40 → h[k]? = some (.spare 3 1) →
    Gives (PC GL) 149 [enc t, .own k 1 (l.map encI)] h fun x h' => ∃ k', x = .own k' 1 ((t.pre.foldl addV l).map encI) ∧ h'[k']? = some (.spare 3 1) ∧ (k' = k ∨ h.length ≤ k') ∧ Keep (fun i _ => i = k) h h' := by
  induction t using tm_ind with
  | _ t ih =>
  intro l k h hl hk
  have hs := size_eq t
  have h4 := length_sizes t.l
  have hkl := lt_of_get hk
  have hk' := fun l => get_before (l := l) hk
  have sk' := fun o l => set_before (l := l) hk o
  have init : ∀ τ h1 k0 (l0 : List Int), l0 = addV l t → tget τ 1 = .own k0 1 (l0.map encI) → tget τ 2 = .ref h.length 0 → tget τ 5 = .i 0 → h1[k0]? = some (.spare 3 1) → h1[h.length]? = some (.cells 24 [.v (.int .i64 t.kind), .v (.int .i64 t.n), .str t.s, .sl 4 (t.l.map enc)]) → (k0 = k ∨ h.length ≤ k0) → Keep (fun i _ => i = k) h h1 →
      ∃ a h', Wk GL h.length τ h1 [(5, .i (0 : Nat)), (1, .own a 1 (((pres (t.l.take 0)).foldl addV (addV l t)).map encI)), (2, .ref h.length 0)] h' ∧ h'[a]? = some (.spare 3 1) ∧ h'[h.length]? = some (.cells 24 [.v (.int .i64 t.kind), .v (.int .i64 t.n), .str t.s, .sl 4 (t.l.map enc)]) ∧ (a = k ∨ h.length ≤ a) ∧ Keep (fun i _ => i = k) h h' := by
    rintro τ h1 k0 l0 rfl e1 e2 e5 q1 q2 q3 q4
    exact ⟨k0, h1, Wk.pick q4.1 (by simp [go_sem, e1, e2, e5, pres]), q1, q2, q3, q4⟩
  refine k149.gives (by simp) ?_
  simp -implicitDefEqProofs only [go_sem, c149, r149]
  by_cases hx : t.kind = 1
  · have e : (t.kind == 1) = true := by simpa using hx
    simp -implicitDefEqProofs only [go_sem, e]
    refine call_fz (h219 l t.n (by omega)) (by simp [fzs, fzGs, fzG, fzGs_map, encI]) ?_
    rcases hb2 : l.any fun y => y == t.n with _ | _
    · have e1 : l ++ [t.n] = addV l t := by rw [addV, if_pos ⟨hx, hb2⟩]
      simp -implicitDefEqProofs only [go_sem, hk', sk', List.append_assoc]
      refine ⟨by simp only [List.length_cons, List.length_nil]; omega, ?_⟩
      refine s_forP hC (fun j a => [(5, .i j), (1, .own a 1 (((pres (t.l.take j)).foldl addV (addV l t)).map encI)), (2, .ref h.length 0)]) (fun j a h' => h'[a]? = some (.spare 3 1) ∧ h'[h.length]? = some (.cells 24 [.v (.int .i64 t.kind), .v (.int .i64 t.n), .str t.s, .sl 4 (t.l.map enc)]) ∧ (a = k ∨ h.length ≤ a) ∧ Keep (fun i _ => i = k) h h') t.l.length (init _ _ (h.length + 2) _ e1 (by simp [go_sem, encI]) (by simp [go_sem]) (by simp [go_sem]) ?_ ?_ ?_ ?_) fun j a h2 hj ⟨ha, hb, hak, hkk⟩ => ?_
      · rw [get_ge (by simp)]; simp
      · rw [get_ge (by simp)]; simp
      · right; omega
      · exact (Keep.set _ hk rfl).trans (Keep.app _ _ _)
      · simp -implicitDefEqProofs only [go_sem, hb]
        refine cdO_and (fun hlt => ?_) (fun hlt => ?_)
        · have hlt := lt_of_decide hlt
          have g1 := size_mem hlt
          have g2 := sizes_take t.l (j + 1)
          have g3 := sizes_snoc hlt
          have g4 := foldV_len (pres (t.l.take j)) (addV l t)
          have g5 := pres_length (t.l.take j)
          have g6 := addV_len l t
          have w5 : IntKind.i64.wrap ((j : Int) + 1) = (j : Int) + 1 := wrap_ok _ (by omega)
          have hne : h.length ≠ a := fun e => by rw [← e, hb] at ha; cases ha
          simp -implicitDefEqProofs only [go_sem, hb, hlt, getD_map]
          refine call_gives hC (ih _ (List.getElem_mem hlt) (by omega) ((pres (t.l.take j)).foldl addV (addV l t)) a h2 (by omega) ha) fun x h3 ⟨a', hx, ha', hak', hk3⟩ => ?_
          subst hx
          have hk4 : Keep (fun i _ => i = k) h h3 := hkk.trans' hk3 fun i o hi e => by
            have := lt_of_get hi
            rcases hak with q | q
            · rw [e, q]
            · omega
          simp -implicitDefEqProofs only [go_sem]
          refine ⟨a', h3, Wk.pick hk4.1 (by simp [go_sem, w5, pres_snoc hlt]), ha', hk3.get hb hne, ?_, hk4⟩
          have := hkk.1
          rcases hak' with q | q
          · rw [q]; exact hak
          · right; omega
        · have hge := ge_of_decide hlt
          simp -implicitDefEqProofs only [go_sem, hlt, take_all hge]
          exact fin_gives hkk.1 ⟨a, by rw [pre_eq]; rfl, ha, hak, hkk⟩
    · have e1 : l = addV l t := by rw [addV, if_neg (by simp [hb2])]
      simp -implicitDefEqProofs only [go_sem]
      refine s_forP hC (fun j a => [(5, .i j), (1, .own a 1 (((pres (t.l.take j)).foldl addV (addV l t)).map encI)), (2, .ref h.length 0)]) (fun j a h' => h'[a]? = some (.spare 3 1) ∧ h'[h.length]? = some (.cells 24 [.v (.int .i64 t.kind), .v (.int .i64 t.n), .str t.s, .sl 4 (t.l.map enc)]) ∧ (a = k ∨ h.length ≤ a) ∧ Keep (fun i _ => i = k) h h') t.l.length (init _ _ _ _ e1 (by simp [go_sem]) (by simp [go_sem]) (by simp [go_sem]) (hk' _) (by simp [go_sem]) (.inl rfl) (Keep.app _ _ _)) fun j a h2 hj ⟨ha, hb, hak, hkk⟩ => ?_
      · simp -implicitDefEqProofs only [go_sem, hb]
        refine cdO_and (fun hlt => ?_) (fun hlt => ?_)
        · have hlt := lt_of_decide hlt
          have g1 := size_mem hlt
          have g2 := sizes_take t.l (j + 1)
          have g3 := sizes_snoc hlt
          have g4 := foldV_len (pres (t.l.take j)) (addV l t)
          have g5 := pres_length (t.l.take j)
          have g6 := addV_len l t
          have w5 : IntKind.i64.wrap ((j : Int) + 1) = (j : Int) + 1 := wrap_ok _ (by omega)
          have hne : h.length ≠ a := fun e => by rw [← e, hb] at ha; cases ha
          simp -implicitDefEqProofs only [go_sem, hb, hlt, getD_map]
          refine call_gives hC (ih _ (List.getElem_mem hlt) (by omega) ((pres (t.l.take j)).foldl addV (addV l t)) a h2 (by omega) ha) fun x h3 ⟨a', hx, ha', hak', hk3⟩ => ?_
          subst hx
          have hk4 : Keep (fun i _ => i = k) h h3 := hkk.trans' hk3 fun i o hi e => by
            have := lt_of_get hi
            rcases hak with q | q
            · rw [e, q]
            · omega
          simp -implicitDefEqProofs only [go_sem]
          refine ⟨a', h3, Wk.pick hk4.1 (by simp [go_sem, w5, pres_snoc hlt]), ha', hk3.get hb hne, ?_, hk4⟩
          have := hkk.1
          rcases hak' with q | q
          · rw [q]; exact hak
          · right; omega
        · have hge := ge_of_decide hlt
          simp -implicitDefEqProofs only [go_sem, hlt, take_all hge]
          exact fin_gives hkk.1 ⟨a, by rw [pre_eq]; rfl, ha, hak, hkk⟩
  · have e : (t.kind == 1) = false := by simpa using hx
    have e1 : l = addV l t := by rw [addV, if_neg (by simp [hx])]
    simp -implicitDefEqProofs only [go_sem, e]
    refine s_forP hC (fun j a => [(5, .i j), (1, .own a 1 (((pres (t.l.take j)).foldl addV (addV l t)).map encI)), (2, .ref h.length 0)]) (fun j a h' => h'[a]? = some (.spare 3 1) ∧ h'[h.length]? = some (.cells 24 [.v (.int .i64 t.kind), .v (.int .i64 t.n), .str t.s, .sl 4 (t.l.map enc)]) ∧ (a = k ∨ h.length ≤ a) ∧ Keep (fun i _ => i = k) h h') t.l.length (init _ _ _ _ e1 (by simp [go_sem]) (by simp [go_sem]) (by simp [go_sem]) (hk' _) (by simp [go_sem]) (.inl rfl) (Keep.app _ _ _)) fun j a h2 hj ⟨ha, hb, hak, hkk⟩ => ?_
    · simp -implicitDefEqProofs only [go_sem, hb]
      refine cdO_and (fun hlt => ?_) (fun hlt => ?_)
      · have hlt := lt_of_decide hlt
        have g1 := size_mem hlt
        have g2 := sizes_take t.l (j + 1)
        have g3 := sizes_snoc hlt
        have g4 := foldV_len (pres (t.l.take j)) (addV l t)
        have g5 := pres_length (t.l.take j)
        have g6 := addV_len l t
        have w5 : IntKind.i64.wrap ((j : Int) + 1) = (j : Int) + 1 := wrap_ok _ (by omega)
        have hne : h.length ≠ a := fun e => by rw [← e, hb] at ha; cases ha
        simp -implicitDefEqProofs only [go_sem, hb, hlt, getD_map]
        refine call_gives hC (ih _ (List.getElem_mem hlt) (by omega) ((pres (t.l.take j)).foldl addV (addV l t)) a h2 (by omega) ha) fun x h3 ⟨a', hx, ha', hak', hk3⟩ => ?_
        subst hx
        have hk4 : Keep (fun i _ => i = k) h h3 := hkk.trans' hk3 fun i o hi e => by
          have := lt_of_get hi
          rcases hak with q | q
          · rw [e, q]
          · omega
        simp -implicitDefEqProofs only [go_sem]
        refine ⟨a', h3, Wk.pick hk4.1 (by simp [go_sem, w5, pres_snoc hlt]), ha', hk3.get hb hne, ?_, hk4⟩
        have := hkk.1
        rcases hak' with q | q
        · rw [q]; exact hak
        · right; omega
      · have hge := ge_of_decide hlt
        simp -implicitDefEqProofs only [go_sem, hlt, take_all hge]
        exact fin_gives hkk.1 ⟨a, by rw [pre_eq]; rfl, ha, hak, hkk⟩
theorem h59 (l : List Tm) (hl : sizes l < 2 ^ 30) : Pure (PC GL) 59 [.sl 4 (l.map enc)] (.sl 1 ((varsOf l).map encI)) := by
  have h4 := length_sizes l
  refine k59.pure (by simp) (by simp [go_sem]) (by simp [go_sem]) ?_
  simp -implicitDefEqProofs only [c59, r59, go_sem]
  refine s_forP hC (fun j a => [(4, .i j), (3, .own a 1 (((pres (l.take j)).foldl addV []).map encI)), (0, .sl 4 (l.map enc))]) (fun _ a h => h[a]? = some (.spare 3 1)) l.length ?_ fun j a h hj ha => ?_
  · refine ⟨0, [.spare 3 1], (Wk.own_nil (h := []) 3 1 3 (by simp [go_sem]) (Nat.zero_le _)).trans (Wk.pick (Nat.zero_le _) ?_), rfl⟩
    simp [go_sem, pres]
  · simp -implicitDefEqProofs only [go_sem]
    refine cdO_and (fun hlt => ?_) (fun hlt => ?_)
    · have hlt := lt_of_decide hlt
      have g1 := size_mem hlt
      have g2 := sizes_take l (j + 1)
      have g3 := sizes_snoc hlt
      have g4 := foldV_len (pres (l.take j)) []
      have g5 := pres_length (l.take j)
      simp only [List.length_nil] at g4
      have w5 : IntKind.i64.wrap ((j : Int) + 1) = (j : Int) + 1 := wrap_ok _ (by omega)
      simp -implicitDefEqProofs only [go_sem, hlt, getD_map]
      refine call_gives hC (h149 _ (by omega) ((pres (l.take j)).foldl addV []) a h (by omega) ha) fun x h3 ⟨a', hx, ha', _, hk3⟩ => ?_
      subst hx
      simp -implicitDefEqProofs only [go_sem]
      exact ⟨a', h3, Wk.pick (Nat.zero_le _) (by simp [go_sem, w5, pres_snoc hlt]), ha'⟩
    · have hge := ge_of_decide hlt
      simp -implicitDefEqProofs only [go_sem, hlt, take_all hge]
      refine fin_pure ?_ (by simp [go_sem])
      simp [go_sem, varsOf]
end Go.Rip

/- Clauses: the program's way. -/
namespace Go.Rip
open Go Go.Proofs
variable {GL : Glob}
attribute [local irreducible] Pure
def isRange (l : List Int) : Bool := decide (∀ i, i < l.length → l[i]? = some (i : Int))
/-- Normal terms with so many variables. -/
def normT (l : List Tm) (vars : Int) : Bool := isRange (varsOf l) && ((varsOf l).length : Int) == vars
theorem varsOf_len (l : List Tm) : (varsOf l).length ≤ sizes l := by
  have := foldV_len (pres l) []
  rw [pres_length] at this
  simpa [varsOf] using this
theorem h211 (l : List Tm) (ht : sizes l < 2 ^ 30) (hs : strss l) : Pure (PC GL) 211 [.sl 4 (l.map enc)] (.tup [if termsOk l then .sl 1 ((varsOf l).map encI) else .v (.slice none 0 0), .i (if termsOk l then 0 else 3)]) := by
  have h1 := h181 (GL := GL) l ht hs
  have h2 := h249 (GL := GL) l ht
  rcases hc : termsOk l with _ | _
  · simp only [hc, Bool.false_eq_true, if_false] at h1 ⊢
    refine k211.pure (by simp) (by simp [go_sem]) (by simp [go_sem]) ?_
    simp -implicitDefEqProofs only [c211, r211, go_sem]
    repeat' (first | simp -implicitDefEqProofs only [go_sem, *] | with_reducible refine gdO_and (fun _ => ?_) (fun _ => ?_) | with_reducible refine pkO_and (fun _ => ?_) (fun _ => ?_) | with_reducible refine cdO_and (fun _ => ?_) (fun _ => ?_) | with_reducible refine fin_pure ?_ ?_ | ((with_reducible apply call_pure hC); (exact h1)) | ((with_reducible refine And.intro ?bnd ?_); (case bnd => decide)) | fail)
    all_goals simp_all [go_sem]
  · simp only [hc, if_true] at h1 ⊢
    refine k211.pure (by simp) (by simp [go_sem]) (by simp [go_sem]) ?_
    simp -implicitDefEqProofs only [c211, r211, go_sem]
    repeat' (first | simp -implicitDefEqProofs only [go_sem, *] | with_reducible refine gdO_and (fun _ => ?_) (fun _ => ?_) | with_reducible refine pkO_and (fun _ => ?_) (fun _ => ?_) | with_reducible refine cdO_and (fun _ => ?_) (fun _ => ?_) | with_reducible refine fin_pure ?_ ?_ | ((with_reducible apply call_pure hC); (exact h1)) | ((with_reducible apply call_pure hC); (exact h2)) | ((with_reducible refine And.intro ?bnd ?_); (case bnd => decide)) | fail)
    all_goals simp_all [go_sem]
theorem h211v (l : List Tm) (ht : sizes l < 2 ^ 30) (hs : strss l) (hok : termsOk l = true) : Pure (PC GL) 211 [.sl 4 (l.map enc)] (.tup [.sl 1 ((varsOf l).map encI), .i 0]) := by
  have h1 := h211 (GL := GL) l ht hs
  simpa only [hok, if_true] using h1
theorem h204 (l : List Tm) (vars : Int) (ht : sizes l < 2 ^ 30) (hs : strss l) (hok : termsOk l = true) : Pure (PC GL) 204 [.sl 4 (l.map enc), .i vars] (.b (normT l vars)) := by
  have h1 := h211v (GL := GL) l ht hs hok
  have hn := varsOf_len l
  unfold normT
  generalize varsOf l = own at *
  refine k204.pure (by simp) (by simp [go_sem]) (by simp [go_sem]) ?_
  simp -implicitDefEqProofs only [go_sem, c204, r204]
  refine call_pure hC h1 ?_
  simp -implicitDefEqProofs only [go_sem]
  refine s_forT hC (fun j => ∀ i, i < j → own[i]? = some (i : Int)) (fun j => [(16, .i j)]) [14, 15, 5, 1] own.length (by simp) ?_ ?_
  · exact Wk.pick (by simp) (by simp [go_sem])
  · intro j hj hI
    simp -implicitDefEqProofs only [go_sem]
    refine cdO_and (fun hlt => ?_) (fun hlt => ?_)
    · have hlt := lt_of_decide hlt
      have w5 : IntKind.i64.wrap ((j : Int) + 1) = (j : Int) + 1 := wrap_ok _ (by omega)
      simp -implicitDefEqProofs only [go_sem, hlt, getD_map, encI]
      by_cases hx : own[j] = (j : Int)
      · have e : (own[j] != (j : Int)) = false := by simp [hx]
        simp -implicitDefEqProofs only [go_sem, e]
        refine ⟨fun i hi => ?_, Wk.pick (by simp) (by simp [go_sem, w5])⟩
        rcases Nat.lt_or_eq_of_le (Nat.le_of_lt_succ hi) with h | rfl
        · exact hI i h
        · rw [List.getElem?_eq_getElem hlt, hx]
      · have e : (own[j] != (j : Int)) = true := by simp [hx]
        have : isRange own = false := by
          simp only [isRange, decide_eq_false_iff_not]
          intro h
          have := h j hlt
          rw [List.getElem?_eq_getElem hlt] at this
          exact hx (Option.some.inj this)
        simp -implicitDefEqProofs only [go_sem, e]
        refine fin_pure ?_ ?_ <;> simp [go_sem, this]
    · have hge := ge_of_decide hlt
      have : isRange own = true := by
        simp only [isRange, decide_eq_true_eq]
        exact fun i hi => hI i (by omega)
      simp -implicitDefEqProofs only [go_sem, hlt]
      refine fin_pure ?_ ?_ <;> simp [go_sem, this]
theorem h210 (l : List Tm) (vars : Int) (ht : sizes l < 2 ^ 30) : Pure (PC GL) 210 [.sl 4 (l.map enc), .i vars] (.b (normT l vars && decide (vars ≤ 64))) := by
  have h1 := h59 (GL := GL) l ht
  have hn := varsOf_len l
  unfold normT
  generalize varsOf l = own at *
  refine k210.pure (by simp) (by simp [go_sem]) (by simp [go_sem]) ?_
  simp -implicitDefEqProofs only [go_sem, c210, r210]
  refine call_pure hC h1 ?_
  simp -implicitDefEqProofs only [go_sem]
  refine s_forT hC (fun j => ∀ i, i < j → own[i]? = some (i : Int)) (fun j => [(6, .i j)]) [5, 1] own.length (by simp) ?_ ?_
  · exact Wk.pick (by simp) (by simp [go_sem])
  · intro j hj hI
    simp -implicitDefEqProofs only [go_sem]
    refine cdO_and (fun hlt => ?_) (fun hlt => ?_)
    · have hlt := lt_of_decide hlt
      have w5 : IntKind.i64.wrap ((j : Int) + 1) = (j : Int) + 1 := wrap_ok _ (by omega)
      simp -implicitDefEqProofs only [go_sem, hlt, getD_map, encI]
      by_cases hx : own[j] = (j : Int)
      · have e : (own[j] != (j : Int)) = false := by simp [hx]
        simp -implicitDefEqProofs only [go_sem, e]
        refine ⟨fun i hi => ?_, Wk.pick (by simp) (by simp [go_sem, w5])⟩
        rcases Nat.lt_or_eq_of_le (Nat.le_of_lt_succ hi) with h | rfl
        · exact hI i h
        · rw [List.getElem?_eq_getElem hlt, hx]
      · have e : (own[j] != (j : Int)) = true := by simp [hx]
        have : isRange own = false := by
          simp only [isRange, decide_eq_false_iff_not]
          intro h
          have := h j hlt
          rw [List.getElem?_eq_getElem hlt] at this
          exact hx (Option.some.inj this)
        simp -implicitDefEqProofs only [go_sem, e]
        refine fin_pure ?_ ?_ <;> simp [go_sem, this]
    · have hge := ge_of_decide hlt
      have : isRange own = true := by
        simp only [isRange, decide_eq_true_eq]
        exact fun i hi => hI i (by omega)
      have ec : (vars == (own.length : Int)) = ((own.length : Int) == vars) := by rw [Bool.eq_iff_iff, beq_iff_eq, beq_iff_eq]; exact eq_comm
      simp -implicitDefEqProofs only [go_sem, hlt, ec]
      repeat' (first | simp -implicitDefEqProofs only [go_sem, *] | with_reducible refine gdO_and (fun _ => ?_) (fun _ => ?_) | with_reducible refine pkO_and (fun _ => ?_) (fun _ => ?_) | with_reducible refine cdO_and (fun _ => ?_) (fun _ => ?_) | with_reducible refine fin_pure ?_ ?_ | ((with_reducible refine And.intro ?bnd ?_); (case bnd => decide)) | fail)
      all_goals simp_all [go_sem]
theorem together_ok (l : List Tm) : (l.all Tm.ok && decide (sizes l ≤ 4000)) = termsOk l := by
  have key : ∀ l : List Tm, l.all Tm.ok = true → nodesOks l = true ∧ deeps l ≤ 600 := by
    intro l
    induction l with
    | nil => intro _; exact ⟨rfl, by simp [deeps]⟩
    | cons t r ih =>
      simp only [List.all_cons, Bool.and_eq_true, Tm.ok, decide_eq_true_eq, nodesOks, deeps]
      rintro ⟨⟨-, h2, h3⟩, h4⟩
      obtain ⟨a, b⟩ := ih h4
      exact ⟨⟨h3, a⟩, by omega⟩
  rw [Bool.eq_iff_iff]
  simp only [Bool.and_eq_true, decide_eq_true_eq, termsOk]
  constructor
  · rintro ⟨h1, h2⟩
    obtain ⟨a, b⟩ := key l h1
    exact ⟨a, b, h2⟩
  · rintro ⟨h1, h2, h3⟩
    refine ⟨List.all_eq_true.2 fun x hx => ?_, h3⟩
    obtain ⟨j, hj, rfl⟩ := List.mem_iff_getElem.1 hx
    have := size_mem hj
    have := deeps_mem hx
    simp only [Tm.ok, Bool.and_eq_true, decide_eq_true_eq]
    exact ⟨by omega, by omega, nodesOks_mem h1 hx⟩
theorem h170 (l : List Tm) (ht : sizes l < 2 ^ 30) (hs : strss l) : Pure (PC GL) 170 [.sl 4 (l.map enc)] (.b (termsOk l)) := by
  have h4 := length_sizes l
  rw [← together_ok]
  refine k170.pure (by simp) (by simp [go_sem]) (by simp [go_sem]) ?_
  simp -implicitDefEqProofs only [go_sem, c170, r170]
  refine s_forT hC (fun j => (l.take j).all Tm.ok = true) (fun j => [(4, .i j), (3, .i (sizes (l.take j) : Nat))]) [0] l.length (by simp) ?_ ?_
  · exact Wk.pick (by simp) (by simp [go_sem, sizes])
  · intro j hj hI
    simp -implicitDefEqProofs only [go_sem]
    refine cdO_and (fun hlt => ?_) (fun hlt => ?_)
    · have hlt := lt_of_decide hlt
      have g1 := size_mem hlt
      have g2 := sizes_take l j
      have w5 : IntKind.i64.wrap ((j : Int) + 1) = (j : Int) + 1 := wrap_ok _ (by omega)
      have w6 : IntKind.i64.wrap ((sizes (l.take j) : Int) + (l[j].size : Int)) = (sizes (l.take (j + 1)) : Int) := by rw [wrap_ok _ (by omega), sizes_snoc hlt]; omega
      have hm := List.getElem_mem hlt
      simp -implicitDefEqProofs only [go_sem, hlt, getD_map]
      refine call_pure hC (h97 _ (by omega) (strss_mem hs _ hm)) ?_
      simp -implicitDefEqProofs only [go_sem]
      refine cdO_and (fun hx => ?_) (fun hx => ?_)
      · simp only [Bool.not_eq_true'] at hx
        have : l.all Tm.ok = false := List.all_eq_false.2 ⟨_, hm, by simp [hx]⟩
        simp -implicitDefEqProofs only [go_sem, hx]
        refine fin_pure ?_ ?_ <;> simp [go_sem, this]
      · simp only [Bool.not_eq_false'] at hx
        simp -implicitDefEqProofs only [go_sem, hx, hlt, getD_map]
        refine call_pure hC (h184 _ (by omega)) ?_
        simp -implicitDefEqProofs only [go_sem]
        exact ⟨by rw [all_snoc hlt, hI, hx]; rfl, Wk.pick (by simp) (by simp [go_sem, w5, w6])⟩
    · have hge := ge_of_decide hlt
      rw [take_all hge] at hI
      simp -implicitDefEqProofs only [go_sem, hlt, take_all hge, dle4000]
      refine fin_pure ?_ ?_ <;> simp [go_sem, hI]
end Go.Rip

/- Clauses: both ways. -/
namespace Go.Rip
open Go Go.Proofs
variable {GL : Glob}
attribute [local irreducible] Pure
theorem is_loop {GL : Glob} {C : Calling} {m : Nat} {b : ACode} {Q : Post} {Pn : AV → List AObj → Prop} {τ : List (Nat × AV)} {h : List AObj} (g : wpA GL C m (.loop b) Q Pn τ h) : wpA GL C m (.loop b) Q Pn τ h := g
theorem is_call {P : Program} {GL : Glob} {c : CId} {args : List AV} {h : List AObj} {R : ARes → List AObj → Prop} (g : AC P GL c args h R) : AC P GL c args h R := g
theorem h215 (heads : List Int) (v : Int) (k : Nat) (h : List AObj) (hl : heads.length < 2 ^ 47) (hk : h[k]? = some (.cells 61 [.sl 1 (heads.map encI)])) : PureOn (PC GL) 215 [.i v, .ref k 0] (.b (!(heads.any fun x => v == x))) h := by
  refine k215.call (by simp) ?_
  simp -implicitDefEqProofs only [go_sem, c215, r215, hk]
  refine call_pure hC (h43 heads v hl) ?_
  simp -implicitDefEqProofs only [go_sem]
  exact fin_same rfl
theorem h216 (t : Tm) (ht : t.size < 2 ^ 30) : Pure (PC GLs) 216 [enc t] (.b (!t.test)) := by
  have h1 := h101 t ht
  refine k216.pure (by simp) (by simp [go_sem]) (by simp [go_sem]) ?_
  simp -implicitDefEqProofs only [c216, r216, go_sem]
  refine call_pure hC h1 ?_
  simp -implicitDefEqProofs only [go_sem]
  refine fin_pure ?_ ?_ <;> simp [go_sem]
theorem h217 (t : Tm) : Pure (PC GL) 217 [enc t] (.b (t.goal.1 == 0)) := by
  have h1 := h96 (GL := GL) t
  simp only [encG] at h1
  refine k217.pure (by simp) (by simp [go_sem]) (by simp [go_sem]) ?_
  simp -implicitDefEqProofs only [c217, r217, go_sem]
  refine call_pure hC h1 ?_
  simp -implicitDefEqProofs only [go_sem]
  refine fin_pure ?_ ?_ <;> simp [go_sem]
theorem h205 (t : Tm) : Pure (PC GL) 205 [enc t] (.b (t.goal.1 == 0)) := by
  have h1 := h96 (GL := GL) t
  simp only [encG] at h1
  refine k205.pure (by simp) (by simp [go_sem]) (by simp [go_sem]) ?_
  simp -implicitDefEqProofs only [c205, r205, go_sem]
  refine call_pure hC h1 ?_
  simp -implicitDefEqProofs only [go_sem]
  refine fin_pure ?_ ?_ <;> simp [go_sem]
/-- What a clause is not to have, before its terms are looked at. -/
def Cl.bad (c : Cl) (ar : Int) : Bool := decide (c.mark < 0) || (decide (c.mark > 2) || (((c.head.length : Int) != ar) || (decide ((c.guard.length : Int) > 8) || decide ((c.body.length : Int) > 16))))
def Cl.shaped (c : Cl) (ar : Int) : Bool :=
  !c.bad ar && (termsOk c.parts && (!decide ((sizes c.parts : Int) > 400) && (decide (((varsOf c.parts).length : Int) ≤ 64) && (!((varsOf c.guard).any fun v => !((varsOf c.head).any fun x => v == x)) &&
    (!(c.guard.any fun t => !t.test) && !(c.body.any fun t => t.goal.1 == 0))))))
theorem strss_app : ∀ a b, strss (a ++ b) ↔ strss a ∧ strss b
  | [], b => by simp [strss]
  | x :: r, b => by simp only [List.cons_append, strss, strss_app r b, and_assoc]
theorem termsOk_sub {a b c : List Tm} (h : termsOk (a ++ (b ++ c)) = true) : termsOk a = true ∧ termsOk b = true ∧ termsOk c = true := by
  simp only [termsOk, nodesOks_app, deeps_app, sizes_app, Bool.and_eq_true, decide_eq_true_eq] at h ⊢
  obtain ⟨⟨h1, h2, h3⟩, h4, h5⟩ := h
  exact ⟨⟨h1, by omega, by omega⟩, ⟨h2, by omega, by omega⟩, h3, by omega, by omega⟩
theorem h139 (c : Cl) (ar : Int) (ht : sizes c.parts < 2 ^ 30) (hs : strss c.parts) : Pure (PC GLs) 139 [encCl c, .i ar] (.b (c.shaped ar)) := by
  have hlen : c.parts.length < 2 ^ 40 := by have := length_sizes c.parts; omega
  have hp : sizes c.parts = sizes c.head + (sizes c.guard + sizes c.body) := by simp [Cl.parts, sizes_app]
  have hs' := hs
  simp only [Cl.parts, strss_app] at hs'
  have hlg := length_sizes c.guard
  have hlb := length_sizes c.body
  have vg := varsOf_len c.guard
  have vh := varsOf_len c.head
  have q140 := h140 (GL := GLs) c hlen
  have q181 := h181 (GL := GLs) c.parts ht hs
  have q203 := h203 (GL := GLs) c.parts ht
  have q188g := h188 (GL := GLs) c.guard 216 (fun t => !t.test) (by omega) (fun x hx => h216 x (by obtain ⟨j, hj, rfl⟩ := List.mem_iff_getElem.1 hx; have := size_mem hj; omega))
  have q188b := h188 (GL := GLs) c.body 217 (fun t => t.goal.1 == 0) (by omega) (fun x _ => h217 x)
  simp only [encCl] at q140
  rcases hok : termsOk c.parts with _ | _
  · simp only [hok, Bool.false_eq_true, if_false] at q181
    refine k139.pure (by simp) (by simp [go_sem]) (by simp [go_sem]) ?_
    simp -implicitDefEqProofs only [go_sem, c139, r139, encCl]
    repeat' (first | simp -implicitDefEqProofs only [go_sem, *] | with_reducible refine gdO_and (fun _ => ?_) (fun _ => ?_) | with_reducible refine pkO_and (fun _ => ?_) (fun _ => ?_) | with_reducible refine cdO_and (fun _ => ?_) (fun _ => ?_) | with_reducible refine fin_pure ?_ ?_ | ((with_reducible apply call_pure hC); (exact q140)) | ((with_reducible apply call_pure hC); (exact q181)) | ((with_reducible refine And.intro ?bnd ?_); (case bnd => decide)) | fail)
    all_goals simp_all [go_sem, Cl.shaped, Cl.bad]
  · simp only [hok, if_true] at q181
    obtain ⟨o1, o2, o3⟩ := termsOk_sub hok
    have q211p := h211v (GL := GLs) c.parts ht hs hok
    have q211h := h211v (GL := GLs) c.head (by omega) hs'.1 o1
    have q211g := h211v (GL := GLs) c.guard (by omega) hs'.2.1 o2
    have q61 : ∀ h : List AObj, h[1]? = some (.cells 61 [.sl 1 ((varsOf c.head).map encI)]) → PureOn (PC GLs) 61 [.sl 1 ((varsOf c.guard).map encI), .fn (.func 215) [] [.ref 1 0]] (.b ((varsOf c.guard).any fun v => !((varsOf c.head).any fun x => v == x))) h :=
      fun h hk => h61 (varsOf c.guard) 215 [.ref 1 0] (fun v => !((varsOf c.head).any fun x => v == x)) h (by omega) fun x _ => h215 (varsOf c.head) x 1 h (by omega) hk
    unfold Cl.shaped
    rw [hok]
    generalize ((varsOf c.guard).any fun v => !((varsOf c.head).any fun x => v == x)) = b1 at q61 ⊢
    generalize (c.guard.any fun t => !t.test) = b2 at q188g ⊢
    generalize (c.body.any fun t => t.goal.1 == 0) = b3 at q188b ⊢
    refine k139.pure (by simp) (by simp [go_sem]) (by simp [go_sem]) ?_
    simp -implicitDefEqProofs only [go_sem, c139, r139, encCl]
    repeat' (first | simp -implicitDefEqProofs only [go_sem, *] | with_reducible refine gdO_and (fun _ => ?_) (fun _ => ?_) | with_reducible refine pkO_and (fun _ => ?_) (fun _ => ?_) | with_reducible refine cdO_and (fun _ => ?_) (fun _ => ?_) | with_reducible refine fin_pure ?_ ?_ | ((with_reducible apply call_pure hC); (exact q140)) | ((with_reducible apply call_pure hC); (exact q181)) | ((with_reducible apply call_pure hC); (exact q203)) | ((with_reducible apply call_pure hC); (exact q211p)) | ((with_reducible apply call_pure hC); (exact q211h)) | ((with_reducible apply call_pure hC); (exact q211g)) | ((with_reducible refine And.intro ?bnd ?_); (case bnd => decide)) | fail)
    all_goals first
      | with_reducible refine is_call ?_
      | (simp_all [go_sem, Cl.bad]; done)
      | (simp_all [go_sem, Cl.bad]; intros; omega)
    refine call_on hC (q61 _ rfl) ?_
    simp -implicitDefEqProofs only [go_sem]
    repeat' (first | simp -implicitDefEqProofs only [go_sem, *] | with_reducible refine gdO_and (fun _ => ?_) (fun _ => ?_) | with_reducible refine pkO_and (fun _ => ?_) (fun _ => ?_) | with_reducible refine cdO_and (fun _ => ?_) (fun _ => ?_) | with_reducible refine fin_pure ?_ ?_ | ((with_reducible apply call_pure hC); (exact q188g)) | ((with_reducible apply call_pure hC); (exact q188b)) | ((with_reducible refine And.intro ?bnd ?_); (case bnd => decide)) | fail)
    all_goals first
      | (simp_all [go_sem, Cl.bad]; done)
      | (simp_all [go_sem, Cl.bad]; intros; omega)
def Cl.ok (c : Cl) (ar : Int) : Bool := c.shaped ar && normT c.parts c.vars
theorem h143 (c : Cl) (ar : Int) (ht : sizes c.parts < 2 ^ 30) (hs : strss c.parts) : Pure (PC GLs) 143 [encCl c, .i ar] (.b (c.ok ar)) := by
  have hlen : c.parts.length < 2 ^ 40 := by have := length_sizes c.parts; omega
  have q139 := h139 c ar ht hs
  have q140 := h140 (GL := GLs) c hlen
  rcases hsh : c.shaped ar with _ | _
  · rw [hsh] at q139
    simp only [encCl] at q139 q140
    refine k143.pure (by simp) (by simp [go_sem]) (by simp [go_sem]) ?_
    simp -implicitDefEqProofs only [go_sem, c143, r143, encCl]
    repeat' (first | simp -implicitDefEqProofs only [go_sem, *] | with_reducible refine gdO_and (fun _ => ?_) (fun _ => ?_) | with_reducible refine pkO_and (fun _ => ?_) (fun _ => ?_) | with_reducible refine cdO_and (fun _ => ?_) (fun _ => ?_) | with_reducible refine fin_pure ?_ ?_ | ((with_reducible apply call_pure hC); (exact q139)) | ((with_reducible refine And.intro ?bnd ?_); (case bnd => decide)) | fail)
    all_goals simp_all [go_sem, Cl.ok]
  · rw [hsh] at q139
    have hok : termsOk c.parts = true := by
      simp only [Cl.shaped, Bool.and_eq_true] at hsh
      exact hsh.2.1
    have q204 := h204 (GL := GLs) c.parts c.vars ht hs hok
    simp only [encCl] at q139 q140
    refine k143.pure (by simp) (by simp [go_sem]) (by simp [go_sem]) ?_
    simp -implicitDefEqProofs only [go_sem, c143, r143, encCl]
    repeat' (first | simp -implicitDefEqProofs only [go_sem, *] | with_reducible refine gdO_and (fun _ => ?_) (fun _ => ?_) | with_reducible refine pkO_and (fun _ => ?_) (fun _ => ?_) | with_reducible refine cdO_and (fun _ => ?_) (fun _ => ?_) | with_reducible refine fin_pure ?_ ?_ | ((with_reducible apply call_pure hC); (exact q139)) | ((with_reducible apply call_pure hC); (exact q140)) | ((with_reducible apply call_pure hC); (exact q204)) | ((with_reducible refine And.intro ?bnd ?_); (case bnd => decide)) | fail)
    all_goals simp_all [go_sem, Cl.ok]
/-- Errors of CheckClause. -/
def Cl.err (c : Cl) (ar : Int) : Int := if decide (ar < 0) || decide (ar > 16) then 1 else if c.ok ar then 0 else 40
theorem h51 (c : Cl) (ar : Int) (ht : sizes c.parts < 2 ^ 30) (hs : strss c.parts) : Pure (PC GLs) 51 [encCl c, .i ar] (.i (c.err ar)) := by
  have q := h143 c ar ht hs
  simp only [encCl] at q
  refine k51.pure (by simp) (by simp [go_sem]) (by simp [go_sem]) ?_
  simp -implicitDefEqProofs only [go_sem, c51, r51, encCl]
  repeat' (first | simp -implicitDefEqProofs only [go_sem, *] | with_reducible refine gdO_and (fun _ => ?_) (fun _ => ?_) | with_reducible refine pkO_and (fun _ => ?_) (fun _ => ?_) | with_reducible refine cdO_and (fun _ => ?_) (fun _ => ?_) | with_reducible refine fin_pure ?_ ?_ | ((with_reducible apply call_pure hC); (exact q)) | ((with_reducible refine And.intro ?bnd ?_); (case bnd => decide)) | fail)
  all_goals simp_all [go_sem, Cl.err]
/-- The reference's way. -/
def Cl.okR (c : Cl) (ar : Int) : Bool :=
  termsOk c.parts && (!decide ((sizes c.parts : Int) > 400) && ((normT c.parts c.vars && decide (c.vars ≤ 64)) && (!c.bad ar && (c.guard.all Tm.test && ((c.body.all fun t => !(t.goal.1 == 0)) && (varsOf c.guard).all fun v => (varsOf c.head).any fun x => x == v)))))
theorem any_not {α : Type} (l : List α) (p : α → Bool) : (!l.any fun x => !p x) = l.all p := by rw [List.not_any_eq_all_not]; simp
theorem okR_eq (c : Cl) (ar : Int) : c.okR ar = c.ok ar := by
  have e1 : ∀ v : Int, ((varsOf c.head).any fun x => v == x) = (varsOf c.head).any fun x => x == v := fun v => by congr 1; funext x; exact Bool.beq_comm
  have e2 : (!c.body.any fun t => t.goal.1 == 0) = c.body.all fun t => !(t.goal.1 == 0) := by rw [List.not_any_eq_all_not]
  simp only [Cl.okR, Cl.ok, Cl.shaped, any_not, e1, e2, normT]
  rw [Bool.eq_iff_iff]
  simp only [Bool.and_eq_true, decide_eq_true_eq, beq_iff_eq]
  constructor
  · rintro ⟨h1, h2, ⟨⟨h3, h4⟩, h5⟩, h6, h7, h8, h9⟩
    exact ⟨⟨h6, h1, h2, by omega, h9, h7, h8⟩, h3, h4⟩
  · rintro ⟨⟨h6, h1, h2, h5, h9, h7, h8⟩, h3, h4⟩
    exact ⟨h1, h2, ⟨⟨h3, h4⟩, by omega⟩, h6, h7, h8, h9⟩
end Go.Rip

/- Trees that are made anew: copied, limited; what a call hands back, frozen. -/
namespace Go.Rip
open Go
set_option maxRecDepth 100000
theorem ne_of_get {h : List AObj} {i j : Nat} {x y : AObj} (hi : h[i]? = some x) (hj : h[j]? = some y) (hn : x ≠ y) : i ≠ j := by
  rintro rfl
  exact hn (Option.some.inj (hi.symm.trans hj))
/-- An object beside one that is turned, and of which more stands behind. -/
theorem get_beside {h l : List AObj} {i j : Nat} {x y o : AObj} (hj : h[j]? = some y) (hi : h[i]? = some x) (hn : y ≠ x) : (h.set i o ++ l)[j]? = some y := by
  rw [get_before (o := y)]
  rw [get_set_ne (fun e => hn (by subst e; exact Option.some.inj (hj.symm.trans hi)))]
  exact hj
theorem set_beside {h l : List AObj} {i j : Nat} {x y o x' : AObj} (hj : h[j]? = some y) (_ : h[i]? = some x) (_ : y ≠ x) : (h.set i o ++ l).set j x' = (h.set i o).set j x' ++ l := by
  rw [List.set_append_left]
  simpa using lt_of_get hj
theorem get_beside2 {h l : List AObj} {i j : Nat} {x y o x' : AObj} (hj : h[j]? = some y) (_ : h[i]? = some x) (_ : y ≠ x) : ((h.set i o).set j x' ++ l)[j]? = some x' := by
  have := lt_of_get hj
  rw [List.getElem?_append_left (by simpa using this), List.getElem?_set_self (by simpa using this)]
theorem get_beside3 {h l : List AObj} {i j : Nat} {x y o x' : AObj} (hj : h[j]? = some y) (hi : h[i]? = some x) (hn : y ≠ x) : ((h.set i o).set j x' ++ l)[i]? = some o := by
  have := lt_of_get hi
  have hne := ne_of_get hj hi hn
  rw [List.getElem?_append_left (by simpa using this), List.getElem?_set_ne hne, List.getElem?_set_self this]
theorem gat_set (h l : List AObj) (k : Nat) (o : AObj) : (h.set k o ++ l)[h.length]? = l[0]? := by rw [List.getElem?_append_right (by simp)]; simp
theorem gat_set_add (h l : List AObj) (k i : Nat) (o : AObj) : (h.set k o ++ l)[h.length + i]? = l[i]? := by rw [List.getElem?_append_right (by simp)]; simp
theorem sat_set (h l : List AObj) (k : Nat) (o x : AObj) : (h.set k o ++ l).set h.length x = h.set k o ++ l.set 0 x := by rw [List.set_append_right _ _ (by simp)]; simp
theorem sat_set_add (h l : List AObj) (k i : Nat) (o x : AObj) : (h.set k o ++ l).set (h.length + i) x = h.set k o ++ l.set i x := by rw [List.set_append_right _ _ (by simp)]; simp
theorem take_snoc_map {α β : Type} {l : List α} {j : Nat} (hlt : j < l.length) (f : α → β) : (l.take (j + 1)).map f = (l.take j).map f ++ [f l[j]] := by
  rw [List.take_succ_eq_append_getElem hlt, List.map_append]; rfl
theorem take_all_map {α β : Type} {l : List α} {j : Nat} (h : l.length ≤ j) (f : α → β) : (l.take j).map f = l.map f := by rw [List.take_of_length_le h]
variable {GL : Glob}
theorem wkr_made {t : Tm} {a : Nat} : wkr (.agg [.v (.int .i64 t.kind), .v (.int .i64 t.n), .str t.s, .own a 4 (t.l.map enc)]) (enc t) := by rw [enc_eq]; simp [wkr, wkrs]
theorem Wk.weak {GL : Glob} {m : Nat} {x y : AV} {h : List AObj} (hm : m ≤ h.length) (hw : wkr x y) : Wk GL m [(0, x)] h [(0, y)] h := by
  intro E A G w f hW hf
  refine ⟨E, A, G, hW, fun i => ?_, Ext.refl _ _ _, by rw [hW.n]; exact hm, fun _ _ => ⟨rfl, rfl, rfl, rfl⟩⟩
  have := hf i
  simp only [tget] at this ⊢
  split
  · rename_i hi
    simp only [hi] at this
    exact Rep.wk _ _ _ hw this
  · simp [Rep]
theorem fin_givesw {m : Nat} {x y : AV} {h : List AObj} {Φ : AV → List AObj → Prop} (hm : m ≤ h.length) (hw : wkr x y) (hf : Φ y h) : ∃ y h', Wk GL m [(0, x)] h [(0, y)] h' ∧ ∃ z, ARes.val y = ARes.val z ∧ Φ z h' := ⟨y, h, Wk.weak hm hw, y, rfl, hf⟩
theorem h290 (t : Tm) (ht : t.size < 2 ^ 30) : Pure (PC GL) 290 [enc t] (enc t) := by
  induction t using tm_ind with
  | _ t ih =>
  have hs := size_eq t
  have h4 := length_sizes t.l
  refine k290.pure (by simp) (by simp [go_sem]) (by simp [go_sem]) ?_
  simp -implicitDefEqProofs only [c290, r290, go_sem]
  refine s_forP hC (fun j a => [(9, .i j), (3, .own a 4 ((t.l.take j).map enc)), (7, .sl 4 (t.l.map enc)), (8, .i t.l.length), (1, .ref 0 0), (2, .ref 1 0)]) (fun j a h => h[a]? = some (.spare 24 4) ∧ h[0]? = some (.cells 24 [.v (.int .i64 t.kind), .v (.int .i64 t.n), .str t.s, .sl 4 (t.l.map enc)]) ∧ h[1]? = some (.cells 24 [.v (.int .i64 0), .v (.int .i64 0), .str [], .v (.slice none 0 0)])) t.l.length ?_ fun j a h hj ⟨ha, hb, hd⟩ => ?_
  · refine ⟨2, [.cells 24 [.v (.int .i64 t.kind), .v (.int .i64 t.n), .str t.s, .sl 4 (t.l.map enc)], .cells 24 [.v (.int .i64 0), .v (.int .i64 0), .str [], .v (.slice none 0 0)], .spare 24 4], (Wk.own_nil (h := [.cells 24 [.v (.int .i64 t.kind), .v (.int .i64 t.n), .str t.s, .sl 4 (t.l.map enc)], .cells 24 [.v (.int .i64 0), .v (.int .i64 0), .str [], .v (.slice none 0 0)]]) 24 4 3 (by simp [go_sem]) (Nat.zero_le _)).trans (Wk.pick (Nat.zero_le _) ?_), rfl, rfl, rfl⟩
    simp [go_sem]
  · skip
    have ha_g := fun l => get_before (l := l) ha
    have ha_s := fun o l => set_before (l := l) ha o
    have ha_e := fun o l => get_set_app (o := o) (l := l) ha
    have ha_h := fun o => get_set (o := o) ha
    have hb_g := fun l => get_before (l := l) hb
    have hb_s := fun o l => set_before (l := l) hb o
    have hb_e := fun o l => get_set_app (o := o) (l := l) hb
    have hb_h := fun o => get_set (o := o) hb
    have hd_g := fun l => get_before (l := l) hd
    have hd_s := fun o l => set_before (l := l) hd o
    have hd_e := fun o l => get_set_app (o := o) (l := l) hd
    have hd_h := fun o => get_set (o := o) hd
    simp -implicitDefEqProofs only [go_sem]
    refine cdO_and (fun hlt => ?_) (fun hlt => ?_)
    · have hlt := lt_of_decide hlt
      have g1 := size_mem hlt
      have w5 : IntKind.i64.wrap ((j : Int) + 1) = (j : Int) + 1 := wrap_ok _ (by omega)
      simp -implicitDefEqProofs only [go_sem, hlt, getD_map]
      refine call_pure hC (ih _ (List.getElem_mem hlt) (by omega)) ?_
      simp -implicitDefEqProofs only [go_sem, List.append_assoc, ha_g, ha_s]
      refine ⟨by simp; omega, ?_⟩
      refine ⟨h.length + 2, _, Wk.pick (Nat.zero_le _) (by simp [go_sem, w5, take_snoc_map hlt]), ?_, ?_, ?_⟩
      · rw [get_ge (by simp)]; simp
      · exact get_beside hb ha (by simp)
      · exact get_beside hd ha (by simp)
    · have hge := ge_of_decide hlt
      have hd1 := fun o => (get_set_ne (h := h) (o := o) (show 0 ≠ 1 by decide)).trans hd
      have hd2 := fun o o' => get_set (o := o') (hd1 o)
      simp -implicitDefEqProofs only [go_sem, hlt, take_all_map hge, hb, hb_h, hd1, hd2]
      exact fin_pure wkr_made (by simp [go_sem])
theorem ne30 : ((3 : Int) != 0) = true := rfl
theorem ne00 : ((0 : Int) != 0) = false := rfl
/-- What is put in the place of a term that is none. -/
def Tm.nul : Tm := .mk 0 0 [] []
theorem wkr_nul : wkr (.agg [.v (.int .i64 0), .v (.int .i64 0), .str [], .v (.slice none 0 0)]) (enc Tm.nul) := by rw [Tm.nul, enc_mk]; simp [wkr, wkrs]
theorem wkr_pair {x y a b : AV} (h : wkr x y) (e : a = b) : wkr (.tup [x, a]) (.tup [y, b]) := by
  subst e
  rw [wkr, wkrs, wkrs, wkrs]
  exact ⟨h, wkr_refl _, trivial⟩
theorem h251 (t : Tm) (ht : t.size < 2 ^ 30) (hs : t.strs) : Pure (PC GL) 251 [enc t] (.tup [enc (if t.ok then t else Tm.nul), .i (if t.ok then 0 else 2)]) := by
  refine k251.pure (by simp) (by simp [go_sem]) (by simp [go_sem]) ?_
  simp -implicitDefEqProofs only [c251, r251, go_sem]
  refine call_pure hC (h95 t ht hs) ?_
  rcases t.ok with _ | _
  · simp -implicitDefEqProofs only [go_sem, if_neg Bool.false_ne_true, ne30]
    exact fin_pure (wkr_pair wkr_nul rfl) (by simp [go_sem])
  · simp -implicitDefEqProofs only [go_sem, if_pos, ne00]
    refine call_pure hC (h290 t ht) ?_
    simp -implicitDefEqProofs only [go_sem]
    exact fin_pure (wkr_refl _) (by simp [go_sem])
mutual
/-- A tree with trees in the place of its variables. -/
def Tm.sub (F : Int → Tm) : Tm → Tm
  | .mk k n s l => if k = 1 then F n else .mk k n s (Tm.subs F l)
def Tm.subs (F : Int → Tm) : List Tm → List Tm
  | [] => []
  | t :: r => t.sub F :: Tm.subs F r
end
theorem subs_map (F : Int → Tm) : ∀ l, Tm.subs F l = l.map (Tm.sub F)
  | [] => rfl
  | t :: r => by rw [Tm.subs, subs_map F r]; rfl
theorem sub_eq (F : Int → Tm) (t : Tm) : t.sub F = if t.kind = 1 then F t.n else .mk t.kind t.n t.s (t.l.map (Tm.sub F)) := by cases t; rw [Tm.sub, subs_map]; rfl
theorem wkr_subd {t : Tm} {a : Nat} {F : Int → Tm} : wkr (.agg [.v (.int .i64 t.kind), .v (.int .i64 t.n), .str t.s, .own a 4 (t.l.map fun x => enc (x.sub F))]) (enc (.mk t.kind t.n t.s (t.l.map (Tm.sub F)))) := by rw [enc_mk]; simp [wkr, wkrs]
theorem Keep.turn' {K : Nat → AObj → Prop} {h h' : List AObj} (a : Keep K h h') {k : Nat} (o : AObj) {x : AObj} (hx : h'[k]? = some x) (hk : h.length ≤ k) : Keep K h (h'.set k o) :=
  a.trans' (K' := fun i _ => i = k) (Keep.set o hx rfl) fun i o' hi e => by have := lt_of_get hi; omega
theorem h250 (f : FuncId) (cap : List AV) (F : Int → Tm) (hF : ∀ v, (F v).size < 2 ^ 30) (t : Tm) : ∀ (left : Int) (kb : Nat) (h : List AObj), t.size < 2 ^ 30 → ((t.sub F).size : Int) ≤ left → left < 2 ^ 40 → h[kb]? = some (.cells 262 [.v (.int .i64 left)]) →
    (∀ v h', Keep (fun i _ => i = kb) h h' → Gives (PC GL) f (.i v :: cap) h' fun x h'' => x = .tup [enc (F v), .v (.bool true)] ∧ Keep All h' h'') →
    Gives (PC GL) 250 [.ref kb 0, enc t, .fn (.func f) [] cap] h fun x h' => x = enc (t.sub F) ∧ h'[kb]? = some (.cells 262 [.v (.int .i64 (left - (t.sub F).size))]) ∧ Keep (fun i _ => i = kb) h h' := by
  induction t using tm_ind with
  | _ t ih =>
  intro left kb h ht hle hlt hk hf
  have hs := size_eq t
  have h4 := length_sizes t.l
  have hse := sub_eq F t
  have hkl := lt_of_get hk
  have hk_g := fun l => get_before (l := l) hk
  have hk_s := fun o l => set_before (l := l) hk o
  have hk_e := fun o l => get_set_app (o := o) (l := l) hk
  have hk_h := fun o => get_set (o := o) hk
  refine k250.gives (by simp) ?_
  simp -implicitDefEqProofs only [go_sem, c250, r250, List.append_assoc]
  by_cases hx : t.kind = 1
  · have e : (t.kind == 1) = true := by simpa using hx
    rw [if_pos hx] at hse
    rw [hse] at hle ⊢
    simp -implicitDefEqProofs only [go_sem, e]
    refine call_gives hC (hf t.n _ (Keep.app _ _ _)) fun x h2 ⟨hx2, hk2⟩ => ?_
    subst hx2
    have q0 := hk2.got (hk_g _)
    have q1 := hk2.got (i := h.length) (o := .cells 24 [.v (.int .i64 t.kind), .v (.int .i64 t.n), .str t.s, .sl 4 (t.l.map enc)]) (by rw [get_at]; rfl)
    have q2 := hk2.got (i := h.length + 1) (o := .cells 24 [.v (.int .i64 0), .v (.int .i64 0), .str [], .v (.slice none 0 0)]) (by rw [get_at_add]; rfl)
    have hL := hk2.1
    simp only [List.length_append, List.length_cons, List.length_nil] at hL
    have q0_g := fun l => get_before (l := l) q0
    have q0_s := fun o l => set_before (l := l) q0 o
    have q0_e := fun o l => get_set_app (o := o) (l := l) q0
    have q0_h := fun o => get_set (o := o) q0
    have q1_g := fun l => get_before (l := l) q1
    have q1_s := fun o l => set_before (l := l) q1 o
    have q1_e := fun o l => get_set_app (o := o) (l := l) q1
    have q1_h := fun o => get_set (o := o) q1
    have q2_g := fun l => get_before (l := l) q2
    have q2_s := fun o l => set_before (l := l) q2 o
    have q2_e := fun o l => get_set_app (o := o) (l := l) q2
    have q2_h := fun o => get_set (o := o) q2
    have w1 : IntKind.i64.wrap (left - (F t.n).size) = left - (F t.n).size := wrap_ok _ (by omega)
    simp -implicitDefEqProofs only [go_sem]
    refine call_pure hC (h248 _ (hF t.n)) ?_
    have q2_q0b := fun o l => get_beside (o := o) (l := l) q2 q0 (by simp)
    have q2_q0s := fun o l x => set_beside (o := o) (l := l) (x' := x) q2 q0 (by simp)
    have q2_q0g := fun o l x => get_beside2 (o := o) (l := l) (x' := x) q2 q0 (by simp)
    have q2_q0k := fun o l x => get_beside3 (o := o) (l := l) (x' := x) q2 q0 (by simp)
    simp -implicitDefEqProofs only [go_sem, gat_set, q0_g, q0_s, w1, q2_q0b, q2_q0s, q2_q0g]
    refine fin_givesw ?_ (wkr_refl _) ?_
    · simp; omega
    · refine ⟨rfl, q2_q0k _ _ _, ?_⟩
      have hk1 : Keep (fun i _ => i = kb) h (h2.set kb (.cells 262 [.v (.int .i64 (left - (F t.n).size))])) := ((Keep.app _ h _).trans hk2.of_all).trans (Keep.set _ q0 rfl)
      exact (hk1.turn' _ ((get_set_ne (by omega)).trans q2) (Nat.le_succ _)).trans (Keep.app _ _ _)
  · have e : (t.kind == 1) = false := by simpa using hx
    rw [if_neg hx] at hse
    rw [hse] at hle ⊢
    have w1 : IntKind.i64.wrap (left - 1) = left - 1 := wrap_ok _ (by omega)
    have hsz : (Tm.mk t.kind t.n t.s (t.l.map (Tm.sub F))).size = 1 + sizes (t.l.map (Tm.sub F)) := by rw [size_eq, Tm.l_mk]; omega
    rw [hsz] at hle ⊢
    simp -implicitDefEqProofs only [go_sem, e, hk_g, hk_s, w1, gat_set]
    refine s_forP hC (fun j a => [(49, .i j), (11, .own a 4 ((t.l.take j).map fun x => enc (x.sub F))), (47, .sl 4 (t.l.map enc)), (48, .i t.l.length), (0, .ref kb 0), (2, .fn (.func f) [] cap), (4, .ref h.length 0), (6, .ref (h.length + 1) 0)]) (fun j a h' => h'[a]? = some (.spare 24 4) ∧ h'[kb]? = some (.cells 262 [.v (.int .i64 (left - 1 - sizes ((t.l.take j).map (Tm.sub F))))]) ∧ h'[h.length]? = some (.cells 24 [.v (.int .i64 t.kind), .v (.int .i64 t.n), .str t.s, .sl 4 (t.l.map enc)]) ∧ h'[h.length + 1]? = some (.cells 24 [.v (.int .i64 0), .v (.int .i64 0), .str [], .v (.slice none 0 0)]) ∧ h.length ≤ a ∧ Keep (fun i _ => i = kb) h h') t.l.length ?_ fun j a h2 hj ⟨ha, hb, hd, he, hak, hkk⟩ => ?_
    · refine ⟨h.length + 2, _, (Wk.own_nil 24 4 11 (by simp [go_sem]) (by simp)).trans (Wk.pick (by simp) (by simp [go_sem])), ?_, ?_, ?_, ?_, Nat.le_add_right _ _, ?_⟩
      · rw [get_ge (by simp)]; simp
      · rw [List.append_assoc, hk_e]; simp [sizes]
      · rw [List.append_assoc, gat_set]; rfl
      · rw [List.append_assoc, gat_set_add]; rfl
      · rw [List.append_assoc]; exact (Keep.set _ hk rfl).trans (Keep.app _ _ _)
    · skip
      have ha_g := fun l => get_before (l := l) ha
      have ha_s := fun o l => set_before (l := l) ha o
      have ha_e := fun o l => get_set_app (o := o) (l := l) ha
      have ha_h := fun o => get_set (o := o) ha
      have hb_g := fun l => get_before (l := l) hb
      have hb_s := fun o l => set_before (l := l) hb o
      have hb_e := fun o l => get_set_app (o := o) (l := l) hb
      have hb_h := fun o => get_set (o := o) hb
      have hd_g := fun l => get_before (l := l) hd
      have hd_s := fun o l => set_before (l := l) hd o
      have hd_e := fun o l => get_set_app (o := o) (l := l) hd
      have hd_h := fun o => get_set (o := o) hd
      have he_g := fun l => get_before (l := l) he
      have he_s := fun o l => set_before (l := l) he o
      have he_e := fun o l => get_set_app (o := o) (l := l) he
      have he_h := fun o => get_set (o := o) he
      simp -implicitDefEqProofs only [go_sem]
      refine cdO_and (fun hlt => ?_) (fun hlt => ?_)
      · have hlt := lt_of_decide hlt
        have g1 := size_mem hlt
        have w5 : IntKind.i64.wrap ((j : Int) + 1) = (j : Int) + 1 := wrap_ok _ (by omega)
        have g2 : sizes ((t.l.take j).map (Tm.sub F)) + ((t.l[j]).sub F).size ≤ sizes (t.l.map (Tm.sub F)) := by
          have := sizes_take (t.l.map (Tm.sub F)) (j + 1)
          rw [sizes_snoc (l := t.l.map (Tm.sub F)) (by simpa using hlt), List.getElem_map, ← List.map_take] at this
          exact this
        have e2 : decide (left - 1 - (sizes ((t.l.take j).map (Tm.sub F)) : Int) < 0) = false := decide_eq_false (by omega)
        have g3 : sizes ((t.l.take (j + 1)).map (Tm.sub F)) = sizes ((t.l.take j).map (Tm.sub F)) + ((t.l[j]).sub F).size := by
          have := sizes_snoc (l := t.l.map (Tm.sub F)) (j := j) (by simpa using hlt)
          rwa [List.getElem_map, ← List.map_take, ← List.map_take] at this
        have nak : a ≠ kb := ne_of_get ha hb (by simp)
        simp -implicitDefEqProofs only [go_sem, hlt, getD_map, hb_g, e2]
        refine call_gives hC (ih _ (List.getElem_mem hlt) (left - 1 - sizes ((t.l.take j).map (Tm.sub F))) kb _ (by omega) (by omega) (by omega) (hb_g _) fun v h' hk' => hf v h' ((hkk.trans (Keep.app _ _ _)).trans hk')) fun x h3 ⟨hx3, b3, hk3⟩ => ?_
        subst hx3
        have a3 := hk3.get (ha_g _) nak
        have d3 := hk3.get (hd_g _) (by omega)
        have e3 := hk3.get (he_g _) (by omega)
        have k3 := (hkk.trans (Keep.app _ _ _)).trans hk3
        have a3_g := fun l => get_before (l := l) a3
        have a3_s := fun o l => set_before (l := l) a3 o
        have a3_e := fun o l => get_set_app (o := o) (l := l) a3
        have a3_h := fun o => get_set (o := o) a3
        simp -implicitDefEqProofs only [go_sem, List.append_assoc, a3_g, a3_s]
        refine ⟨by simp; omega, ?_⟩
        refine ⟨h3.length + 1, _, Wk.pick (by simp; have := k3.1; omega) (by simp [go_sem, w5, take_snoc_map hlt]), ?_, ?_, ?_, ?_, by have := k3.1; omega, ?_⟩
        · rw [get_ge (by simp)]; simp
        · rw [get_beside b3 a3 (by simp), g3]; simp; omega
        · exact get_beside d3 a3 (by simp)
        · exact get_beside e3 a3 (by simp)
        · exact (k3.trans' (K' := fun i _ => i = a) (Keep.set _ a3 rfl) fun i o' hi e => by have := lt_of_get hi; omega).trans (Keep.app _ _ _)
      · have hge := ge_of_decide hlt
        have he1 := fun o => (get_set_ne (h := h2) (o := o) (show h.length ≠ h.length + 1 by omega)).trans he
        have he2 := fun o o' => get_set (o := o') (he1 o)
        rw [take_all hge] at hb
        simp -implicitDefEqProofs only [go_sem, hlt, take_all_map hge, hd, hd_h, he1, he2]
        have hk1 := (hkk.turn' (.cells 24 [.v (.int .i64 t.kind), .v (.int .i64 t.n), .str t.s, .own a 4 (t.l.map fun x => enc (x.sub F))]) hd (Nat.le_refl _)).turn' (.cells 24 [.v (.int .i64 t.kind), .v (.int .i64 t.n), .str t.s, .own a 4 (t.l.map fun x => enc (x.sub F))]) (he1 _) (Nat.le_succ _)
        refine fin_givesw hk1.1 wkr_subd ⟨rfl, ?_, hk1⟩
        rw [get_set_ne (by omega), get_set_ne (by omega), hb]
        simp; omega
end Go.Rip

/- Trees with other variables: what is put in their place, and within the bounds. -/
namespace Go.Rip
open Go
set_option maxRecDepth 100000
variable {GL : Glob}
def varF (g : Int → Int) : Int → Tm := fun v => .mk 1 (g v) [] []
theorem wkr_var {g : Int → Int} {v : Int} : wkr (.tup [.agg [.v (.int .i64 1), .v (.int .i64 (g v)), .str [], .v (.slice none 0 0)], .v (.bool true)]) (.tup [enc (varF g v), .v (.bool true)]) := by
  refine wkr_pair ?_ rfl
  rw [varF, enc_mk]; simp [wkr, wkrs]
theorem h224 (v n : Int) (k : Nat) (h : List AObj) (hk : h[k]? = some (.cells 3 [.v (.int .i64 n)])) : Gives (PC GL) 224 [.i v, .ref k 0] h fun x h' => x = .tup [enc (varF (fun v => IntKind.i64.wrap (v + n)) v), .v (.bool true)] ∧ Keep All h h' := by
  refine k224.gives (by simp) ?_
  have hk_g := fun l => get_before (l := l) hk
  have hk_s := fun o l => set_before (l := l) hk o
  have hk_e := fun o l => get_set_app (o := o) (l := l) hk
  have hk_h := fun o => get_set (o := o) hk
  simp -implicitDefEqProofs only [go_sem, c224, r224, hk_g]
  exact fin_givesw (by simp) (wkr_var (g := fun v => IntKind.i64.wrap (v + n))) ⟨rfl, Keep.app _ _ _⟩
theorem idxI_lt {s : Int} : ∀ {ks : List Int} {i : Nat}, idxI s ks = some i → i < ks.length
  | k :: r, i, h => by
    simp only [idxI] at h
    split at h
    · cases h; simp
    · rw [Option.map_eq_some_iff] at h
      obtain ⟨j, hj, rfl⟩ := h
      simpa using idxI_lt hj
/-- Where a number stands in a list; 0 if it is not there. -/
def idx0 (l : List Int) (v : Int) : Int := ((idxI v l).getD 0 : Nat)
theorem h213 (v : Int) (l : List Int) (k m : Nat) (h : List AObj) (hk : h[k]? = some (.cells 230 [.mp m])) (hm : h[m]? = some (.map (l.map encI) ((List.range l.length).map fun i => AV.i (i : Nat)))) : Gives (PC GL) 213 [.i v, .ref k 0] h fun x h' => x = .tup [enc (varF (idx0 l) v), .v (.bool true)] ∧ Keep All h h' := by
  refine k213.gives (by simp) ?_
  have hk_g := fun l => get_before (l := l) hk
  have hk_s := fun o l => set_before (l := l) hk o
  have hk_e := fun o l => get_set_app (o := o) (l := l) hk
  have hk_h := fun o => get_set (o := o) hk
  have hm_g := fun l => get_before (l := l) hm
  have hm_s := fun o l => set_before (l := l) hm o
  have hm_e := fun o l => get_set_app (o := o) (l := l) hm
  have hm_h := fun o => get_set (o := o) hm
  rcases hi : idxI v l with _ | i
  · simp -implicitDefEqProofs only [go_sem, c213, r213, hk_g, hm_g, find_int, hi]
    refine fin_givesw (y := .tup [enc (varF (idx0 l) v), .v (.bool true)]) (by simp) ?_ ⟨rfl, Keep.app _ _ _⟩
    have := wkr_var (g := idx0 l) (v := v)
    rw [idx0, hi] at this
    exact this
  · have hlt : i < l.length := idxI_lt hi
    have e : ((List.range l.length).map fun i => AV.i (i : Nat)).getD i .any = .i (i : Nat) := by simp [List.getD, hlt]
    simp -implicitDefEqProofs only [go_sem, c213, r213, hk_g, hm_g, find_int, hi, e]
    refine fin_givesw (y := .tup [enc (varF (idx0 l) v), .v (.bool true)]) (by simp) ?_ ⟨rfl, Keep.app _ _ _⟩
    have := wkr_var (g := idx0 l) (v := v)
    rw [idx0, hi] at this
    exact this
theorem h212 (f : FuncId) (cap : List AV) (F : Int → Tm) (hF : ∀ v, (F v).size < 2 ^ 30) (t : Tm) (h : List AObj) (ht : t.size < 2 ^ 30) (hs : (t.sub F).size ≤ 4000) (hS : (t.sub F).strs) 
    (hf : ∀ v h', Keep All h h' → Gives (PC GL) f (.i v :: cap) h' fun x h'' => x = .tup [enc (F v), .v (.bool true)] ∧ Keep All h' h'') :
    Gives (PC GL) 212 [enc t, .fn (.func f) [] cap] h fun x h' => x = .tup [enc (if (t.sub F).ok then t.sub F else Tm.nul), .i (if (t.sub F).ok then 0 else 2)] ∧ Keep All h h' := by
  refine k212.gives (by simp) ?_
  simp -implicitDefEqProofs only [go_sem, c212, r212, List.append_assoc]
  refine call_gives hC (h250 f cap F hF t 4000 (h.length + 2) _ ht (by omega) (by omega) (get_at_add h _ 2) fun v h' hk => hf v h' ((Keep.app All h _).trans' hk fun i o hi e => ?_)) fun x h2 ⟨hx, hb, hk2⟩ => ?_
  · have := lt_of_get hi; omega
  subst hx
  have q1 := hk2.get (i := h.length + 1) (o := .cells 24 [.v (.int .i64 0), .v (.int .i64 0), .str [], .v (.slice none 0 0)]) (by rw [get_at_add]; rfl) (by omega)
  have hk3 : Keep All h h2 := (Keep.app All h _).trans' hk2 fun i o hi e => by have := lt_of_get hi; omega
  have hL := hk2.1
  simp only [List.length_append, List.length_cons, List.length_nil] at hL
  have q1_g := fun l => get_before (l := l) q1
  have q1_s := fun o l => set_before (l := l) q1 o
  have q1_e := fun o l => get_set_app (o := o) (l := l) q1
  have q1_h := fun o => get_set (o := o) q1
  have hb_g := fun l => get_before (l := l) hb
  have hb_s := fun o l => set_before (l := l) hb o
  have hb_e := fun o l => get_set_app (o := o) (l := l) hb
  have hb_h := fun o => get_set (o := o) hb
  have e2 : decide ((4000 : Int) - ((t.sub F).size : Int) < 0) = false := decide_eq_false (by omega)
  have q := h251 (GL := GL) (t.sub F) (by omega) hS
  simp -implicitDefEqProofs only [go_sem, hb_g, e2]
  refine call_pure hC q ?_
  simp -implicitDefEqProofs only [go_sem, q1_g, q1_s, q1_e]
  refine fin_givesw (by simp; omega) (wkr_refl _) ⟨?_, ?_⟩
  · simp only [go_sem]

  · exact (hk3.turn' _ q1 (Nat.le_succ _)).trans (Keep.app _ _ _)
end Go.Rip

/- Trees with other variables: plain facts. -/
namespace Go.Rip
open Go
set_option maxRecDepth 100000
attribute [local simp] Tm.kind_mk Tm.n_mk Tm.s_mk Tm.l_mk
theorem sizes_map_le {f : Tm → Tm} : ∀ {l : List Tm}, (∀ x ∈ l, (f x).size ≤ x.size) → sizes (l.map f) ≤ sizes l
  | [], _ => Nat.le_refl _
  | x :: r, h => by
    simp only [List.map_cons, sizes]
    have := h x (by simp)
    have := sizes_map_le (l := r) fun y hy => h y (by simp [hy])
    omega
theorem deeps_map_le {f : Tm → Tm} : ∀ {l : List Tm}, (∀ x ∈ l, (f x).deep ≤ x.deep) → deeps (l.map f) ≤ deeps l
  | [], _ => Nat.le_refl _
  | x :: r, h => by
    simp only [List.map_cons, deeps]
    have := h x (by simp)
    have := deeps_map_le (l := r) fun y hy => h y (by simp [hy])
    omega
theorem strss_map {f : Tm → Tm} : ∀ {l : List Tm}, (∀ x ∈ l, (f x).strs) → strss (l.map f)
  | [], _ => trivial
  | x :: r, h => ⟨h x (by simp), strss_map (l := r) fun y hy => h y (by simp [hy])⟩
theorem nodesOks_map {f : Tm → Tm} : ∀ {l : List Tm}, (∀ x ∈ l, (f x).nodesOk = true) → nodesOks (l.map f) = true
  | [], _ => rfl
  | x :: r, h => by simp only [List.map_cons, nodesOks, Bool.and_eq_true]; exact ⟨h x (by simp), nodesOks_map (l := r) fun y hy => h y (by simp [hy])⟩
theorem nodesOks_all : ∀ {l : List Tm}, nodesOks l = true → ∀ x ∈ l, x.nodesOk = true
  | y :: r, h, x, hx => by
    simp only [nodesOks, Bool.and_eq_true] at h
    rcases List.mem_cons.1 hx with rfl | hx
    · exact h.1
    · exact nodesOks_all h.2 x hx
variable (g : Int → Int)
theorem size_sub (t : Tm) : (t.sub (varF g)).size ≤ t.size := by
  induction t using tm_ind with
  | _ t ih =>
  rw [sub_eq]
  split
  · rw [varF, size_eq]; have := size_pos t; simp only [Tm.l_mk, sizes]; omega
  · rw [size_eq, size_eq t, Tm.l_mk]; have := sizes_map_le ih; omega
theorem deep_sub (t : Tm) : (t.sub (varF g)).deep ≤ t.deep := by
  induction t using tm_ind with
  | _ t ih =>
  rw [sub_eq]
  split
  · rw [varF, deep_eq, deep_eq t]; simp only [Tm.l_mk, deeps]; omega
  · rw [deep_eq, deep_eq t, Tm.l_mk]; have := deeps_map_le ih; omega
theorem strs_sub (t : Tm) (h : t.strs) : (t.sub (varF g)).strs := by
  induction t using tm_ind with
  | _ t ih =>
  rw [strs_eq] at h
  rw [sub_eq]
  split
  · rw [varF, strs_eq]; exact ⟨by simp only [Tm.s_mk, List.length_nil]; omega, trivial⟩
  · rw [strs_eq, Tm.s_mk, Tm.l_mk]; exact ⟨h.1, strss_map fun x hx => ih x hx (strss_mem h.2 x hx)⟩
/-- The variables of trees, as they stand. -/
def vn (t : Tm) : Option Int := if t.kind = 1 then some t.n else none
def occ (l : List Tm) : List Int := (pres l).filterMap vn
theorem occ_nil : occ [] = [] := rfl
theorem occ_app (a b : List Tm) : occ (a ++ b) = occ a ++ occ b := by simp [occ, pres_app]
theorem occ_cons (t : Tm) (r : List Tm) : occ (t :: r) = occ [t] ++ occ r := occ_app [t] r
theorem occ_one (t : Tm) : occ [t] = (match vn t with | some v => v :: occ t.l | none => occ t.l) := by
  simp only [occ, pres, List.append_nil, pre_eq, List.filterMap_cons]
  cases vn t <;> rfl
theorem occ_mem {l : List Tm} {t : Tm} (ht : t ∈ l) {v : Int} (hv : v ∈ occ [t]) : v ∈ occ l := by
  induction l with
  | nil => cases ht
  | cons x r ih =>
    rw [occ_cons]
    rcases List.mem_cons.1 ht with rfl | ht
    · exact List.mem_append_left _ hv
    · exact List.mem_append_right _ (ih ht)
theorem occ_kid {t x : Tm} (hx : x ∈ t.l) {v : Int} (hv : v ∈ occ [x]) : v ∈ occ [t] := by
  rw [occ_one]
  have := occ_mem hx hv
  split
  · exact List.mem_cons_of_mem _ this
  · exact this
theorem var_leaf {t : Tm} (h : t.nodesOk = true) (hk : t.kind = 1) : t.s = [] ∧ t.l = [] ∧ 0 ≤ t.n ∧ t.n < 100000 := by
  rw [nodesOk_eq, Bool.and_eq_true, Tm.nodeOk, if_pos hk, Tm.bare] at h
  simp at h
  exact ⟨h.1.1.1, h.1.1.2, h.1.2⟩
theorem nodesOk_sub (t : Tm) (h : t.nodesOk = true) (hg : ∀ v ∈ occ [t], 0 ≤ g v ∧ g v < 100000) : (t.sub (varF g)).nodesOk = true := by
  induction t using tm_ind with
  | _ t ih =>
  have hn := h
  rw [nodesOk_eq, Bool.and_eq_true] at h
  rw [sub_eq]
  split
  · rename_i hk
    have := hg t.n (by rw [occ_one, vn, if_pos hk]; simp)
    rw [varF, nodesOk_eq, Tm.nodeOk, if_pos (by rfl), Tm.bare]
    simp [nodesOks, this]
  · rename_i hk
    rw [nodesOk_eq, Tm.l_mk, Bool.and_eq_true]
    refine ⟨?_, nodesOks_map fun x hx => ih x hx (nodesOks_all h.2 x hx) fun v hv => hg v (occ_kid hx hv)⟩
    have e : (Tm.mk t.kind t.n t.s (t.l.map (Tm.sub (varF g)))).nodeOk = t.nodeOk := by simp only [Tm.nodeOk, Tm.bare, Tm.kind_mk, Tm.n_mk, Tm.s_mk, Tm.l_mk, List.length_map]; rfl
    rw [e]; exact h.1
theorem ok_sub (t : Tm) (h : t.ok = true) (hg : ∀ v ∈ occ [t], 0 ≤ g v ∧ g v < 100000) : (t.sub (varF g)).ok = true := by
  simp only [Tm.ok, Bool.and_eq_true, decide_eq_true_eq] at h ⊢
  have := size_sub g t
  have := deep_sub g t
  exact ⟨by omega, by omega, nodesOk_sub g t h.2.2 hg⟩
theorem sub_sub (f : Int → Int) (t : Tm) : (t.sub (varF g)).sub (varF f) = t.sub (varF fun v => f (g v)) := by
  induction t using tm_ind with
  | _ t ih =>
  rw [sub_eq (varF g), sub_eq (varF fun v => f (g v))]
  split
  · simp [varF, sub_eq]
  · rename_i hk
    rw [sub_eq, if_neg (by simpa using hk)]
    simp only [Tm.kind_mk, Tm.n_mk, Tm.s_mk, Tm.l_mk, List.map_map]
    congr 1
    exact List.map_congr_left fun x hx => ih x hx
theorem sub_id (t : Tm) (h : t.nodesOk = true) (hg : ∀ v ∈ occ [t], g v = v) : t.sub (varF g) = t := by
  induction t using tm_ind with
  | _ t ih =>
  rw [sub_eq]
  split
  · rename_i hk
    obtain ⟨a, b, -⟩ := var_leaf h hk
    rw [varF, hg t.n (by rw [occ_one, vn, if_pos hk]; simp)]
    exact Tm.ext' (by simp [hk]) (by simp) (by simp [a]) (by simp [b])
  · rw [nodesOk_eq, Bool.and_eq_true] at h
    have : t.l.map (Tm.sub (varF g)) = t.l := by
      conv => rhs; rw [← List.map_id t.l]
      exact List.map_congr_left fun x hx => ih x hx (nodesOks_all h.2 x hx) fun v hv => hg v (occ_kid hx hv)
    rw [this]
    exact Tm.ext' (by simp) (by simp) (by simp) (by simp)
theorem occ_sub (t : Tm) (h : t.nodesOk = true) : occ [t.sub (varF g)] = (occ [t]).map g := by
  induction t using tm_ind with
  | _ t ih =>
  rw [sub_eq]
  split
  · rename_i hk
    obtain ⟨-, b, -⟩ := var_leaf h hk
    rw [occ_one t, vn, if_pos hk, b, occ_one, varF, vn, if_pos (by rfl)]
    simp [occ_nil]
  · rename_i hk
    rw [occ_one, occ_one t, vn, vn, if_neg hk, if_neg (by simpa using hk), Tm.l_mk]
    rw [nodesOk_eq, Bool.and_eq_true] at h
    have : ∀ l : List Tm, (∀ x ∈ l, occ [x.sub (varF g)] = (occ [x]).map g) → occ (l.map (Tm.sub (varF g))) = (occ l).map g := by
      intro l
      induction l with
      | nil => intro _; rfl
      | cons y r ihr =>
        intro hl
        rw [List.map_cons, occ_cons, occ_cons y, List.map_append, hl y (by simp), ihr fun x hx => hl x (by simp [hx])]
    exact this t.l fun x hx => ih x hx (nodesOks_all h.2 x hx)
theorem occs_sub {l : List Tm} (h : nodesOks l = true) : occ (l.map (Tm.sub (varF g))) = (occ l).map g := by
  induction l with
  | nil => rfl
  | cons y r ihr =>
    simp only [nodesOks, Bool.and_eq_true] at h
    rw [List.map_cons, occ_cons, occ_cons y, List.map_append, occ_sub g y h.1, ihr h.2]
/-- A number is put behind a list in which it does not stand. -/
def ins (l : List Int) (v : Int) : List Int := if (l.any fun x => x == v) = false then l ++ [v] else l
theorem foldl_vn : ∀ (ts : List Tm) (l : List Int), ts.foldl addV l = (ts.filterMap vn).foldl ins l
  | [], l => rfl
  | t :: r, l => by
    rw [List.foldl_cons, foldl_vn r, List.filterMap_cons]
    by_cases hk : t.kind = 1
    · rw [vn, if_pos hk]; simp only [List.foldl_cons, addV, ins, hk, true_and]
    · rw [vn, if_neg hk, addV, if_neg (by simp [hk])]
theorem varsOf_occ (l : List Tm) : varsOf l = (occ l).foldl ins [] := foldl_vn _ _
theorem mem_ins : ∀ (vs l : List Int) (x : Int), x ∈ vs.foldl ins l ↔ x ∈ l ∨ x ∈ vs
  | [], l, x => by simp
  | v :: r, l, x => by
    rw [List.foldl_cons, mem_ins r, ins]
    split
    · simp [or_assoc]
    · rename_i h
      simp only [Bool.not_eq_false, List.any_eq_true, beq_iff_eq] at h
      obtain ⟨y, hy, rfl⟩ := h
      simp only [List.mem_cons]
      constructor
      · rintro (a | a)
        · exact .inl a
        · exact .inr (.inr a)
      · rintro (a | rfl | a)
        · exact .inl a
        · exact .inl hy
        · exact .inr a
theorem mem_varsOf {l : List Tm} {x : Int} : x ∈ varsOf l ↔ x ∈ occ l := by rw [varsOf_occ, mem_ins]; simp
theorem ins_map {g : Int → Int} (hg : ∀ a b, g a = g b → a = b) : ∀ (vs l : List Int), (vs.map g).foldl ins (l.map g) = (vs.foldl ins l).map g
  | [], l => rfl
  | v :: r, l => by
    have e : ((l.map g).any fun x => x == g v) = l.any fun x => x == v := by
      rw [List.any_map]
      congr 1
      funext x
      simp only [Function.comp]
      rw [Bool.eq_iff_iff, beq_iff_eq, beq_iff_eq]
      exact ⟨hg x v, fun e => by rw [e]⟩
    rw [List.map_cons, List.foldl_cons, List.foldl_cons, ← ins_map hg r, ins, ins, e]
    split <;> simp
theorem varsOf_sub {g : Int → Int} (hg : ∀ a b, g a = g b → a = b) {l : List Tm} (h : nodesOks l = true) : varsOf (l.map (Tm.sub (varF g))) = (varsOf l).map g := by
  rw [varsOf_occ, varsOf_occ, occs_sub g h]
  exact ins_map hg _ []
theorem idxI_map {g : Int → Int} (hg : ∀ a b, g a = g b → a = b) (v : Int) : ∀ l : List Int, idxI (g v) (l.map g) = idxI v l
  | [] => rfl
  | x :: r => by
    simp only [List.map_cons, idxI, idxI_map hg v r]
    by_cases e : v = x
    · simp [e]
    · rw [if_neg e, if_neg fun h => e (hg _ _ h)]
theorem idx0_map {g : Int → Int} (hg : ∀ a b, g a = g b → a = b) (v : Int) (l : List Int) : idx0 (l.map g) (g v) = idx0 l v := by rw [idx0, idx0, idxI_map hg]
theorem idx0_bound (l : List Int) (v : Int) : 0 ≤ idx0 l v ∧ idx0 l v ≤ l.length := by
  rw [idx0]
  rcases h : idxI v l with _ | i
  · simp
  · have := idxI_lt h
    simp; omega
theorem idxI_get {v : Int} : ∀ {l : List Int}, v ∈ l → ∃ i, idxI v l = some i ∧ l[i]? = some v
  | x :: r, h => by
    by_cases e : v = x
    · exact ⟨0, by simp [idxI, e], by simp [e]⟩
    · obtain ⟨i, h1, h2⟩ := idxI_get ((List.mem_cons.1 h).resolve_left e)
      exact ⟨i + 1, by simp [idxI, e, h1], by simpa using h2⟩
theorem idx0_range {l : List Int} (hl : isRange l = true) {v : Int} (hv : v ∈ l) : idx0 l v = v := by
  obtain ⟨i, h1, h2⟩ := idxI_get hv
  have hi := idxI_lt h1
  rw [isRange, decide_eq_true_eq] at hl
  rw [hl i hi] at h2
  rw [idx0, h1]
  simpa using h2
end Go.Rip
