/- Small functions of prog. -/
import Derived.Test.YtndcajdameofjaaGreatDoorRipAK
import Derived.Test.YtndcajdameofjaaGreatDoorRipAI
namespace Go.Rip
open Go Go.Proofs
variable {GL : Glob}
abbrev PC (GL : Glob) : Calling := AC Tryz.prog GL
theorem hC : (PC GL).Mono := AC.mono
def Tm.isFun (t : Tm) (s : List UInt8) (n : Int) : Bool := t.kind == 5 && (t.s == s && (t.l.length : Int) == n)
def Tm.isAtom (t : Tm) (s : List UInt8) : Bool := t.kind == 3 && t.s == s
def Tm.sym (t : Tm) : Sym := ⟨t.s, t.l.length⟩
def Tm.isSym (t : Tm) : Bool := t.kind == 3 || t.kind == 5
theorem h182 (t : Tm) (s : List UInt8) (n : Int) : Pure (PC GL) 182 [enc t, .str s, .i n] (.b (t.isFun s n)) := by
 refine k182.pure (by simp) (by simp [go_sem]) (by simp [go_sem]) ?_
 simp -implicitDefEqProofs only [c182, r182, go_sem]
 repeat' (first | simp -implicitDefEqProofs only [go_sem, *] | with_reducible refine aV (fun _ => ?_) (fun _ => ?_) | with_reducible refine aX (fun _ => ?_) (fun _ => ?_) | with_reducible refine aK (fun _ => ?_) (fun _ => ?_) | with_reducible refine aI ?_ ?_ | ((with_reducible refine And.intro ?bnd ?_); (case bnd => decide)) | fail)
 all_goals simp_all [Tm.isFun]
theorem h190 (t : Tm) (s : List UInt8) : Pure (PC GL) 190 [enc t, .str s] (.b (t.isAtom s)) := by
 refine k190.pure (by simp) (by simp [go_sem]) (by simp [go_sem]) ?_
 simp -implicitDefEqProofs only [c190, r190, go_sem]
 repeat' (first | simp -implicitDefEqProofs only [go_sem, *] | with_reducible refine aV (fun _ => ?_) (fun _ => ?_) | with_reducible refine aX (fun _ => ?_) (fun _ => ?_) | with_reducible refine aK (fun _ => ?_) (fun _ => ?_) | with_reducible refine aI ?_ ?_ | ((with_reducible refine And.intro ?bnd ?_); (case bnd => decide)) | fail)
 all_goals simp_all [Tm.isAtom]
theorem h234 (t : Tm) : Pure (PC GL) 234 [enc t] (.tup [encSym t.sym, .b t.isSym]) := by
 refine k234.pure (by simp) (by simp [go_sem]) (by simp [go_sem]) ?_
 simp -implicitDefEqProofs only [c234, r234, go_sem]
 repeat' (first | simp -implicitDefEqProofs only [go_sem, *] | with_reducible refine aV (fun _ => ?_) (fun _ => ?_) | with_reducible refine aX (fun _ => ?_) (fun _ => ?_) | with_reducible refine aK (fun _ => ?_) (fun _ => ?_) | with_reducible refine aI ?_ ?_ | ((with_reducible refine And.intro ?bnd ?_); (case bnd => decide)) | fail)
 all_goals simp_all [Tm.isSym, Tm.sym, encSym, go_sem]
def opsL : List (List UInt8 × Int) := [([118, 101, 99, 116, 111, 114, 95, 110, 101, 119], 2), ([118, 101, 99, 116, 111, 114, 95, 103, 101, 116], 4), ([118, 101, 99, 116, 111, 114, 95, 115, 101, 116], 4),
 ([118, 101, 99, 116, 111, 114, 95, 115, 105, 122, 101], 3), ([115, 116, 114, 105, 110, 103, 95, 110, 101, 119], 2), ([115, 116, 114, 105, 110, 103, 95, 103, 101, 116], 4), ([115, 116, 114, 105, 110, 103, 95, 115, 101, 116], 4), ([115, 116, 114, 105, 110, 103, 95, 115, 105, 122, 101], 3), ([115, 116, 114, 105, 110, 103, 95, 106, 111, 105, 110], 3)]
def NoN : CallF := fun _ _ _ => none
theorem xL : SoundC Tryz.prog GL NoN := fun _ _ _ _ _ h => by cases h
def opsH : List AObj := [.map (opsL.map fun p => .str p.1) (opsL.map fun p => .v (.int .i64 p.2))]
theorem e103 : (match evCall GL (mkT Tryz.prog) (mkKC Tryz.prog) (withD Tryz.prog GL NoN) 30 (.fn 103) [] [] with
 | some (.val x, h) => beqAV x (.mp 0) && (match h with | [.map ks vs] => beqAVs ks (opsL.map fun p => .str p.1) && beqAVs vs (opsL.map fun p => .v (.int .i64 p.2)) | _ => false)
 | _ => false) = true := by kernel_rfl
theorem h103 (h : List AObj) {R : ARes -> List AObj -> Prop} (hR : R (.val (.mp h.length)) (h ++ opsH)) : PC GL (.fn 103) [] h R := by
 have h0 : ACall Tryz.prog GL 103 [] [] fun r h' => r = .val (.mp 0) /\ h' = opsH := by
  have he := e103 (GL := GL)
  split at he
  ·rename_i x h1 hx
   simp only [Bool.and_eq_true] at he
   have h2 := eV he.1
   have h3 := he.2
   split at h3
   ·simp only [Bool.and_eq_true] at h3
    exact rD xL hx ⟨by rw [h2], by rw [opsH, bL h3.1, bL h3.2]⟩
   ·cases h3
  ·cases he
 have h1 := mG (h := h) (by simp [bds]) h0
 refine ACall.mono _ _ _ _ _ ?_ h1
 rintro r h' ⟨r0, h0, ⟨rfl, rfl⟩, rfl, rfl⟩
 have e : opsH.map (renO (· + h.length)) = opsH := by
  simp only [opsH, List.map_cons, List.map_nil, renO]
  have e1 : ∀ l : List (List UInt8 × Int), rens (· + h.length) (l.map fun p => AV.str p.1) = l.map fun p => AV.str p.1 := by
   intro l; induction l with
   | nil => rfl
   | cons x r ih => simp only [List.map_cons, rens, ren, ih]
  have e2 : ∀ l : List (List UInt8 × Int), rens (· + h.length) (l.map fun p => AV.v (.int .i64 p.2)) = l.map fun p => AV.v (.int .i64 p.2) := by
   intro l; induction l with
   | nil => rfl
   | cons x r ih => simp only [List.map_cons, rens, ren, ih]
  rw [e1, e2]
 rw [e]
 simpa [renR, ren] using hR
def fixS : List Sym := [⟨[116, 114, 117, 101], 0⟩, ⟨[61], 2⟩, ⟨[58, 61], 2⟩, ⟨[64], 2⟩, ⟨[58, 45], 2⟩, ⟨[58, 45], 1⟩, ⟨[44], 2⟩, ⟨[124], 2⟩, ⟨[111, 116, 104, 101, 114, 119, 105, 115, 101], 0⟩, ⟨[97, 108, 116, 101, 114, 110, 97, 116, 105, 118, 101, 108, 121], 0⟩]
theorem w_drawn {C : Calling} {m : Nat} {es : List (AEnt × List Nat)} {Q : Post} {Pn : AV -> List AObj -> Prop} {τ : List (Nat × AV)} {h : List AObj} (J : List Nat -> List (Nat × AV) -> List AObj -> Prop) (h0 : J [] τ h)
  (h1 : ∀ l τ h i e, J l τ h -> es[i]? = some e -> i ∉ l -> (∀ j ∈ e.2, j ∈ l) -> opsA GL C [e.1] τ h (J (i :: l)) Pn) (h2 : ∀ l τ h, J l τ h -> (∀ i, i < es.length -> i ∈ l) -> Q .normal τ h) : wpA GL C m (.drawn es) Q Pn τ h := ⟨J, h0, h1, h2⟩
abbrev qSym : KQ := .st [.str, .int .i64]
theorem eq_sym (a b : Sym) : eqKQ qSym (encSym a) (encSym b) = some (decide (a = b)) := by
 obtain ⟨s, n⟩ := a
 obtain ⟨s', n'⟩ := b
 simp only [eqKQ, encSym, eqAVs, eqAV, and_self, if_true, Bool.and_true, Option.some.injEq, Sym.mk.injEq]
 by_cases h1 : s = s' <;> by_cases h2 : n = n' <;> simp [h1, h2]
def idxS (s : Sym) : List Sym -> Option Nat
 | [] => none
 | k :: r => if s = k then some 0 else (idxS s r).map (· + 1)
theorem nO (s : Sym) : ∀ ks : List Sym, findA qSym (encSym s) (ks.map encSym) = some (idxS s ks)
 | [] => by simp [findA, eq_sym, idxS]
 | k :: r => by
  simp only [List.map_cons, findA, eq_sym, nO s r, idxS]
  by_cases h : s = k <;> simp [h]
theorem iS {s : Sym} : ∀ {ks : List Sym}, s ∉ ks -> idxS s ks = none
 | [], _ => rfl
 | k :: r, h => by
  simp only [List.mem_cons, not_or] at h
  simp [idxS, h.1, iS h.2]
theorem iL {s : Sym} : ∀ {ks : List Sym}, s ∈ ks -> ∃ i, idxS s ks = some i /\ i < ks.length
 | k :: r, h => by
  by_cases he : s = k
  ·exact ⟨0, by simp [idxS, he], by simp⟩
  ·obtain ⟨i, h1, h2⟩ := iL ((List.mem_cons.1 h).resolve_left he)
   exact ⟨i + 1, by simp [idxS, he, h1], by simpa using h2⟩
def fixH (ks : List Sym) : List AObj := [.map (ks.map encSym) (ks.map fun _ => .v (.bool true))]
structure J104 (l : List Nat) (τ : List (Nat × AV)) (h : List AObj) : Prop where
 tm : ∀ j s, fixS[j]? = some s -> 2 * j + 1 ∈ l -> tget τ (j + 2) = encSym s
 no : 0 ∉ l -> h = []
 mp : 0 ∈ l -> tget τ 1 = .mp 0 /\ ∃ ks, h = fixH ks /\ ∀ s, s ∈ ks ↔ ∃ j, fixS[j]? = some s /\ 2 * j + 2 ∈ l
 in0 : 0 ∉ l -> ∀ j, 2 * j + 2 ∉ l
 r1 : 21 ∈ l -> tget τ 12 = .mp 0
 r2 : 22 ∈ l -> tget τ 0 = .mp 0
 dn : 21 ∈ l -> ∀ i, i < 21 -> i ∈ l
theorem dD {i j : Nat} {x : AV} {τ : List (Nat × AV)} (h : i ≠ j) : tget ((j, x) :: τ) i = tget τ i := by
 simp only [tget]
 split
 ·rename_i hb; exact absurd (Nat.eq_of_beq_eq_true hb) h
 ·rfl
theorem iN {j : Nat} {s : Sym} (h : fixS[j]? = some s) : j < 10 := (List.getElem?_eq_some_iff.1 h).1
theorem fixS_inj {i j : Nat} {s : Sym} (h : fixS[i]? = some s) (h' : fixS[j]? = some s) : i = j := by
 have hn : fixS.Nodup := by decide
 have hi := (List.getElem?_eq_some_iff.1 h)
 have hj := (List.getElem?_eq_some_iff.1 h')
 exact (List.getElem_inj hn).1 (hi.2.trans hj.2.symm)
theorem step_make {l : List Nat} {τ : List (Nat × AV)} {h : List AObj} (hJ : J104 l τ h) (hi : 0 ∉ l) : J104 (0 :: l) ((1, .mp h.length) :: τ) (h ++ [.map [] []]) := by
 have := hJ.no hi
 subst this
 refine ⟨fun j s hj hl => ?_, fun h => absurd (List.mem_cons_self ..) h, fun _ => ⟨by simp [tget], [], rfl, fun s => ⟨fun h => (by cases h), fun ⟨j, _, hj⟩ => ?_⟩⟩, fun h => absurd (List.mem_cons_self ..) h, fun hl => ?_, fun hl => ?_, fun hl i hi' => List.mem_cons_of_mem _ (hJ.dn ((List.mem_cons.1 hl).resolve_left (by omega)) i hi')⟩
 ·rw [dD (by omega)]
  exact hJ.tm j s hj ((List.mem_cons.1 hl).resolve_left (by omega))
 ·exact absurd ((List.mem_cons.1 hj).resolve_left (by omega)) (hJ.in0 hi j)
 ·rw [dD (by omega)]; exact hJ.r1 ((List.mem_cons.1 hl).resolve_left (by omega))
 ·rw [dD (by omega)]; exact hJ.r2 ((List.mem_cons.1 hl).resolve_left (by omega))
theorem cC {l : List Nat} {τ : List (Nat × AV)} {h : List AObj} (hJ : J104 l τ h) {j : Nat} {s : Sym} (hj : fixS[j]? = some s) (h21 : 21 ∉ l) : J104 ((2 * j + 1) :: l) ((j + 2, encSym s) :: τ) h := by
 have hj10 := iN hj
 have hm : ∀ {i : Nat}, i ≠ 2 * j + 1 -> (i ∈ (2 * j + 1) :: l ↔ i ∈ l) := fun hi => ⟨fun h => (List.mem_cons.1 h).resolve_left hi, List.mem_cons_of_mem _⟩
 refine ⟨fun j' s' hj' hl => ?_, fun h => hJ.no fun h0 => h ((hm (by omega)).2 h0), fun hl => ?_, fun h0 j' hl => hJ.in0 (fun h => h0 ((hm (by omega)).2 h)) j' ((hm (by omega)).1 hl), fun hl => absurd ((hm (by omega)).1 hl) h21, fun hl => ?_, fun hl => absurd ((hm (by omega)).1 hl) h21⟩
 ·by_cases e : j' = j
  ·subst e
   rw [hj] at hj'; cases hj'
   simp [tget, Nat.beq_refl]
  ·rw [dD (by omega)]
   exact hJ.tm j' s' hj' ((hm (by omega)).1 hl)
 ·obtain ⟨h1, ks, h2, h3⟩ := hJ.mp ((hm (by omega)).1 hl)
  refine ⟨by rw [dD (by omega)]; exact h1, ks, h2, fun s' => (h3 s').trans ⟨fun ⟨i, a, b⟩ => ⟨i, a, (hm (by omega)).2 b⟩, fun ⟨i, a, b⟩ => ⟨i, a, (hm (by omega)).1 b⟩⟩⟩
 ·rw [dD (by omega)]; exact hJ.r2 ((hm (by omega)).1 hl)
theorem bT {l : List Nat} {τ : List (Nat × AV)} {h : List AObj} (hJ : J104 l τ h) {j : Nat} {s : Sym} (hj : fixS[j]? = some s) (hi : 2 * j + 2 ∉ l) (h0 : 0 ∈ l) (hb : 2 * j + 1 ∈ l) {C : Calling} {Pn : AV -> List AObj -> Prop} :
  opsA GL C [(none, none, .mapUpdate (.st [.str, .int .i64]) (.t 1) (.t (j + 2)) (.c (.v (.bool true))))] τ h (J104 ((2 * j + 2) :: l)) Pn := by
 have hj10 := iN hj
 have hm : ∀ {i : Nat}, i ≠ 2 * j + 2 -> (i ∈ (2 * j + 2) :: l ↔ i ∈ l) := fun hi => ⟨fun h => (List.mem_cons.1 h).resolve_left hi, List.mem_cons_of_mem _⟩
 obtain ⟨h1, ks, rfl, h3⟩ := hJ.mp h0
 have hns : s ∉ ks := fun hs => by
  obtain ⟨j', a, b⟩ := (h3 s).1 hs
  rw [fixS_inj a hj] at b
  exact hi b
 have hk := hJ.tm j s hj hb
 have hf := nO s ks
 rw [iS hns] at hf
 simp -implicitDefEqProofs only [go_sem, fixH, h1, hk, hf]
 refine ⟨fun j' s' hj' hl => hJ.tm j' s' hj' ((hm (by omega)).1 hl), fun h => absurd ((hm (by omega)).2 h0) h, fun _ => ⟨h1, ks ++ [s], by simp [fixH], fun s' => ?_⟩, fun h => absurd ((hm (by omega)).2 h0) h, fun hl => hJ.r1 ((hm (by omega)).1 hl), fun hl => hJ.r2 ((hm (by omega)).1 hl), fun hl i hi' => List.mem_cons_of_mem _ (hJ.dn ((hm (by omega)).1 hl) i hi')⟩
 rw [List.mem_append, List.mem_singleton, h3]
 constructor
 ·rintro (⟨i, a, b⟩ | rfl)
  ·exact ⟨i, a, List.mem_cons_of_mem _ b⟩
  ·exact ⟨j, hj, by simp⟩
 ·rintro ⟨i, a, b⟩
  by_cases e : i = j
  ·subst e; rw [hj] at a; cases a; exact .inr rfl
  ·exact .inl ⟨i, a, (hm (by omega)).1 b⟩
theorem step_21 {l : List Nat} {τ : List (Nat × AV)} {h : List AObj} (hJ : J104 l τ h) (hd : ∀ i, i < 21 -> i ∈ l) : J104 (21 :: l) ((12, tget τ 1) :: τ) h := by
 have hm : ∀ {i : Nat}, i ≠ 21 -> (i ∈ 21 :: l ↔ i ∈ l) := fun hi => ⟨fun h => (List.mem_cons.1 h).resolve_left hi, List.mem_cons_of_mem _⟩
 have h0 := hd 0 (by omega)
 obtain ⟨h1, ks, h2, h3⟩ := hJ.mp h0
 refine ⟨fun j s hj hl => ?_, fun h => absurd ((hm (by omega)).2 h0) h, fun _ => ⟨by rw [dD (by omega)]; exact h1, ks, h2, fun s => (h3 s).trans ⟨fun ⟨i, a, b⟩ => ⟨i, a, (hm (by omega)).2 b⟩, fun ⟨i, a, b⟩ => ⟨i, a, (hm (by omega)).1 b⟩⟩⟩, fun h => absurd ((hm (by omega)).2 h0) h, fun _ => by simp [tget, h1], fun hl => ?_, fun _ i hi => List.mem_cons_of_mem _ (hd i hi)⟩
 ·have := iN hj
  rw [dD (by omega)]
  exact hJ.tm j s hj ((List.mem_cons.1 hl).elim (fun h => hd _ (by omega)) id)
 ·rw [dD (by omega)]; exact hJ.r2 ((hm (by omega)).1 hl)
theorem step_22 {l : List Nat} {τ : List (Nat × AV)} {h : List AObj} (hJ : J104 l τ h) (hd : 21 ∈ l) : J104 (22 :: l) ((0, tget τ 12) :: τ) h := by
 have h1 := hJ.r1 hd
 have hdn := hJ.dn hd
 have h0 := hdn 0 (by omega)
 obtain ⟨h2, ks, h3, h4⟩ := hJ.mp h0
 refine ⟨fun j s hj hl => ?_, fun h => absurd (List.mem_cons_of_mem _ h0) h, fun _ => ⟨by rw [dD (by omega)]; exact h2, ks, h3, fun s => (h4 s).trans ⟨fun ⟨i, a, b⟩ => ⟨i, a, List.mem_cons_of_mem _ b⟩, fun ⟨i, a, b⟩ => ⟨i, a, ?_⟩⟩⟩, fun h => absurd (List.mem_cons_of_mem _ h0) h, fun _ => by rw [dD (by omega)]; exact h1, fun _ => by simp [tget, h1], fun _ i hi => List.mem_cons_of_mem _ (hdn i hi)⟩
 ·have := iN hj
  rw [dD (by omega)]
  exact hJ.tm j s hj ((List.mem_cons.1 hl).resolve_left (by omega))
 ·have := iN a
  exact hdn _ (by omega)
theorem a104 : ACall Tryz.prog GL 104 [] [] fun r h' => r = .val (.mp 0) /\ ∃ ks : List Sym, (∀ s, s ∈ ks ↔ s ∈ fixS) /\ h' = fixH ks := by
 refine k104.call (by simp) ?_
 simp -implicitDefEqProofs only [go_sem, c104, r104]
 refine w_drawn J104 ⟨fun _ _ _ h => (by cases h), fun _ => rfl, fun h => (by cases h), fun _ _ h => (by cases h), fun h => (by cases h), fun h => (by cases h), fun h => (by cases h)⟩ ?_ ?_
 ·intro l τ h i e hJ he hi hd
  have n21 : i < 21 -> 21 ∉ l := fun hlt hm => hi (hJ.dn hm i hlt)
  rcases i with _|_|_|_|_|_|_|_|_|_|_|_|_|_|_|_|_|_|_|_|_|_|_|i
  all_goals (first | (simp only [List.getElem?_cons_succ, List.getElem?_cons_zero, Option.some.injEq] at he; subst he) | (simp at he; done))
  ·simp -implicitDefEqProofs only [go_sem]
   exact step_make hJ hi
  ·exact cC hJ (j := 0) (s := ⟨[116, 114, 117, 101], 0⟩) rfl (n21 (by omega))
  ·exact bT hJ (j := 0) (s := ⟨[116, 114, 117, 101], 0⟩) rfl hi (hd 0 (by simp)) (hd 1 (by simp))
  ·exact cC hJ (j := 1) (s := ⟨[61], 2⟩) rfl (n21 (by omega))
  ·exact bT hJ (j := 1) (s := ⟨[61], 2⟩) rfl hi (hd 0 (by simp)) (hd 3 (by simp))
  ·exact cC hJ (j := 2) (s := ⟨[58, 61], 2⟩) rfl (n21 (by omega))
  ·exact bT hJ (j := 2) (s := ⟨[58, 61], 2⟩) rfl hi (hd 0 (by simp)) (hd 5 (by simp))
  ·exact cC hJ (j := 3) (s := ⟨[64], 2⟩) rfl (n21 (by omega))
  ·exact bT hJ (j := 3) (s := ⟨[64], 2⟩) rfl hi (hd 0 (by simp)) (hd 7 (by simp))
  ·exact cC hJ (j := 4) (s := ⟨[58, 45], 2⟩) rfl (n21 (by omega))
  ·exact bT hJ (j := 4) (s := ⟨[58, 45], 2⟩) rfl hi (hd 0 (by simp)) (hd 9 (by simp))
  ·exact cC hJ (j := 5) (s := ⟨[58, 45], 1⟩) rfl (n21 (by omega))
  ·exact bT hJ (j := 5) (s := ⟨[58, 45], 1⟩) rfl hi (hd 0 (by simp)) (hd 11 (by simp))
  ·exact cC hJ (j := 6) (s := ⟨[44], 2⟩) rfl (n21 (by omega))
  ·exact bT hJ (j := 6) (s := ⟨[44], 2⟩) rfl hi (hd 0 (by simp)) (hd 13 (by simp))
  ·exact cC hJ (j := 7) (s := ⟨[124], 2⟩) rfl (n21 (by omega))
  ·exact bT hJ (j := 7) (s := ⟨[124], 2⟩) rfl hi (hd 0 (by simp)) (hd 15 (by simp))
  ·exact cC hJ (j := 8) (s := ⟨[111, 116, 104, 101, 114, 119, 105, 115, 101], 0⟩) rfl (n21 (by omega))
  ·exact bT hJ (j := 8) (s := ⟨[111, 116, 104, 101, 114, 119, 105, 115, 101], 0⟩) rfl hi (hd 0 (by simp)) (hd 17 (by simp))
  ·exact cC hJ (j := 9) (s := ⟨[97, 108, 116, 101, 114, 110, 97, 116, 105, 118, 101, 108, 121], 0⟩) rfl (n21 (by omega))
  ·exact bT hJ (j := 9) (s := ⟨[97, 108, 116, 101, 114, 110, 97, 116, 105, 118, 101, 108, 121], 0⟩) rfl hi (hd 0 (by simp)) (hd 19 (by simp))
  ·exact step_21 hJ fun i hi => hd i (by simp; omega)
  ·exact step_22 hJ (hd 21 (by simp))
 ·intro l τ h hJ hall
  obtain ⟨h1, ks, rfl, h3⟩ := hJ.mp (hall 0 (by simp))
  have h22 := hJ.r2 (hall 22 (by simp))
  simp -implicitDefEqProofs only [go_sem, h22]
  refine ⟨_, _, Wk.refl (Nat.zero_le _), rfl, ks, fun s => ?_, rfl⟩
  rw [h3, List.mem_iff_getElem?]
  exact ⟨fun ⟨j, a, _⟩ => ⟨j, a⟩, fun ⟨j, a⟩ => ⟨j, a, hall _ (by have := iN a; simp; omega)⟩⟩
theorem h104 (h : List AObj) {R : ARes -> List AObj -> Prop} (hR : ∀ ks : List Sym, (∀ s, s ∈ ks ↔ s ∈ fixS) -> R (.val (.mp h.length)) (h ++ fixH ks)) : PC GL (.fn 104) [] h R := by
 have h1 := mG (h := h) (by simp [bds]) (a104 (GL := GL))
 refine ACall.mono _ _ _ _ _ ?_ h1
 rintro r h' ⟨r0, h0, ⟨rfl, ks, hk, rfl⟩, rfl, rfl⟩
 have e : (fixH ks).map (renO (· + h.length)) = fixH ks := by
  simp only [fixH, List.map_cons, List.map_nil, renO, free_encSym.rens]
  have : rens (· + h.length) (ks.map fun _ => AV.v (.bool true)) = ks.map fun _ => AV.v (.bool true) := Free.rens (f := fun _ : Sym => AV.v (.bool true)) ⟨fun _ _ => by simp only [ren], fun _ _ => by simp only [bd]⟩ _ ks
  rw [this]
 rw [e]
 simpa [renR, ren] using hR ks hk
theorem eq_str (a b : List UInt8) : eqKQ (.one .str) (.str a) (.str b) = some (decide (a = b)) := by
 simp only [eqKQ, eqAV, Option.some.injEq]
 by_cases h : a = b <;> simp [h]
def idxT {α : Type} (s : List UInt8) : List (List UInt8 × α) -> Option Nat
 | [] => none
 | k :: r => if s = k.1 then some 0 else (idxT s r).map (· + 1)
theorem gK {α : Type} (s : List UInt8) : ∀ ks : List (List UInt8 × α), findA (.one .str) (.str s) (ks.map fun p => AV.str p.1) = some (idxT s ks)
 | [] => by simp [findA, eq_str, idxT]
 | k :: r => by
  simp only [List.map_cons, findA, eq_str, gK s r, idxT]
  by_cases h : s = k.1 <;> simp [h]
def getT {α : Type} (s : List UInt8) : List (List UInt8 × α) -> Option α
 | [] => none
 | k :: r => if s = k.1 then some k.2 else getT s r
theorem eT {α : Type} (s : List UInt8) (f : α -> AV) : ∀ ks : List (List UInt8 × α), (idxT s ks = none /\ getT s ks = none) ∨ ∃ j a, idxT s ks = some j /\ getT s ks = some a /\ (ks.map fun p => f p.2).getD j .any = f a
 | [] => .inl ⟨rfl, rfl⟩
 | k :: r => by
  by_cases h : s = k.1
  ·exact .inr ⟨0, k.2, by simp [idxT, h], by simp [getT, h], by simp⟩
  ·rcases eT s f r with ⟨h1, h2⟩ | ⟨j, a, h1, h2, h3⟩
   ·exact .inl ⟨by simp [idxT, h, h1], by simp [getT, h, h2]⟩
   ·exact .inr ⟨j + 1, a, by simp [idxT, h, h1], by simp [getT, h, h2], by simpa using h3⟩
def Sym.isOp (s : Sym) : Bool := getT s.name opsL == some s.arity
def Sym.isFix (s : Sym) : Bool := decide (s ∈ fixS)
def Sym.res (s : Sym) : Bool := s.isOp || s.isFix
theorem nF {ks : List Sym} (h : ∀ s, s ∈ ks ↔ s ∈ fixS) (s : Sym) : (idxS s ks = none /\ s.isFix = false) ∨ ∃ j, idxS s ks = some j /\ s.isFix = true /\ (ks.map fun _ => AV.v (.bool true)).getD j .any = .v (.bool true) := by
 by_cases hs : s ∈ ks
 ·obtain ⟨j, h1, h2⟩ := iL hs
  exact .inr ⟨j, h1, by simp [Sym.isFix, (h s).1 hs], by simp [List.getD, h2]⟩
 ·exact .inl ⟨iS hs, by simp [Sym.isFix]; exact fun h' => hs ((h s).2 h')⟩
theorem opsH_eq : opsH = [.map (opsL.map fun p => .str p.1) (opsL.map fun p => .v (.int .i64 p.2))] := rfl
theorem mY (ks : List Sym) : fixH ks = [.map (ks.map encSym) (ks.map fun _ => .v (.bool true))] := rfl
theorem cQ (a : List UInt8) (n : Int) (ks : List Sym) : findA (.st [.str, .int .i64]) (.agg [.str a, .v (.int .i64 n)]) (ks.map encSym) = some (idxS ⟨a, n⟩ ks) := nO ⟨a, n⟩ ks
theorem h25 (s : Sym) : Pure (PC GL) 25 [encSym s] (.b s.res) := by
 obtain ⟨a, n⟩ := s
 refine k25.pure (by simp) (by simp [go_sem]) (by simp [go_sem]) ?_
 simp -implicitDefEqProofs only [go_sem, c25, r25, encSym]
 refine h103 _ ?_
 simp -implicitDefEqProofs only [go_sem, opsH_eq, gK]
 rcases eT a (fun n => AV.v (.int .i64 n)) opsL with ⟨h1, h2⟩ | ⟨j, m, h1, h2, h3⟩
 ·simp -implicitDefEqProofs only [go_sem, h1]
  refine h104 _ fun ks hk => ?_
  simp -implicitDefEqProofs only [go_sem, mY, cQ]
  rcases nF hk ⟨a, n⟩ with ⟨h3, h4⟩ | ⟨j, h3, h4, h5⟩
  ·simp -implicitDefEqProofs only [go_sem, h3]
   refine aI ?_ ?_ <;> simp [go_sem, Sym.res, Sym.isOp, h2, h4]
  ·simp -implicitDefEqProofs only [go_sem, h3, h5]
   refine aI ?_ ?_ <;> simp [go_sem, Sym.res, Sym.isOp, h2, h4]
 ·simp -implicitDefEqProofs only [go_sem, h1, h3]
  refine aV (fun h6 => ?_) (fun h6 => ?_)
  ·simp only [Bool.not_eq_true'] at h6
   simp -implicitDefEqProofs only [go_sem, h6]
   refine h104 _ fun ks hk => ?_
   simp -implicitDefEqProofs only [go_sem, mY, cQ]
   rcases nF hk ⟨a, n⟩ with ⟨h7, h4⟩ | ⟨j, h7, h4, h5⟩
   ·simp -implicitDefEqProofs only [go_sem, h7]
    refine aI ?_ ?_ <;> simp_all [go_sem, Sym.res, Sym.isOp]
   ·simp -implicitDefEqProofs only [go_sem, h7, h5]
    refine aI ?_ ?_ <;> simp_all [go_sem, Sym.res, Sym.isOp]
  ·simp only [Bool.not_eq_false'] at h6
   simp -implicitDefEqProofs only [go_sem, h6]
   refine aI ?_ ?_ <;> simp_all [go_sem, Sym.res, Sym.isOp]
def Tm.gkind (t : Tm) : Int :=
 if t.isSym = false then 0 else if t.isAtom [116, 114, 117, 101] then 2 else if t.isFun [61] 2 then 3 else if t.isFun [58, 61] 2 then 4 else if t.sym.isOp then 5 else if t.sym.isFix then 0 else 1
theorem h183 (t : Tm) : Pure (PC GL) 183 [enc t] (.i t.gkind) := by
  refine k183.pure (by simp) (by simp [go_sem]) (by simp [go_sem]) ?_
  simp -implicitDefEqProofs only [go_sem, c183, r183]
  refine aG hC (h234 t) ?_
  simp -implicitDefEqProofs only [go_sem, encSym]
  refine h103 _ ?_
  simp -implicitDefEqProofs only [go_sem, opsH_eq, gK]
  rcases eT t.s (fun n => AV.v (.int .i64 n)) opsL with ⟨h1, h2⟩ | ⟨j, m, h1, h2, h3⟩
  · repeat' (first | simp -implicitDefEqProofs only [go_sem, *] | with_reducible refine aV (fun _ => ?_) (fun _ => ?_) | with_reducible refine aX (fun _ => ?_) (fun _ => ?_) | with_reducible refine aK (fun _ => ?_) (fun _ => ?_) | with_reducible refine aI ?_ ?_ | (refine aG hC (h190 _ _) ?_) | (refine aG hC (h182 _ _ _) ?_) | ((with_reducible refine And.intro ?bnd ?_); (case bnd => decide)) | fail)
    all_goals first
      | (refine h104 _ fun ks hk => ?_
         simp -implicitDefEqProofs only [go_sem, mY, cQ]
         rcases nF hk t.sym with ⟨h7, h4⟩ | ⟨j, h7, h4, h5⟩
         · rw [show t.sym = ⟨t.sym.name, t.sym.arity⟩ from rfl] at h7
           simp -implicitDefEqProofs only [go_sem, h7]
           repeat' (first | simp -implicitDefEqProofs only [go_sem, *] | with_reducible refine aV (fun _ => ?_) (fun _ => ?_) | with_reducible refine aX (fun _ => ?_) (fun _ => ?_) | with_reducible refine aK (fun _ => ?_) (fun _ => ?_) | with_reducible refine aI ?_ ?_ | ((with_reducible refine And.intro ?bnd ?_); (case bnd => decide)) | fail)
           all_goals simp_all [go_sem, Tm.gkind, Sym.isOp, Tm.sym]
         · rw [show t.sym = ⟨t.sym.name, t.sym.arity⟩ from rfl] at h7
           simp -implicitDefEqProofs only [go_sem, h7, h5]
           repeat' (first | simp -implicitDefEqProofs only [go_sem, *] | with_reducible refine aV (fun _ => ?_) (fun _ => ?_) | with_reducible refine aX (fun _ => ?_) (fun _ => ?_) | with_reducible refine aK (fun _ => ?_) (fun _ => ?_) | with_reducible refine aI ?_ ?_ | ((with_reducible refine And.intro ?bnd ?_); (case bnd => decide)) | fail)
           all_goals simp_all [go_sem, Tm.gkind, Sym.isOp, Tm.sym])
      | (simp_all [go_sem, Tm.gkind]; done)
  · repeat' (first | simp -implicitDefEqProofs only [go_sem, *] | with_reducible refine aV (fun _ => ?_) (fun _ => ?_) | with_reducible refine aX (fun _ => ?_) (fun _ => ?_) | with_reducible refine aK (fun _ => ?_) (fun _ => ?_) | with_reducible refine aI ?_ ?_ | (refine aG hC (h190 _ _) ?_) | (refine aG hC (h182 _ _ _) ?_) | ((with_reducible refine And.intro ?bnd ?_); (case bnd => decide)) | fail)
    all_goals first
      | (refine h104 _ fun ks hk => ?_
         simp -implicitDefEqProofs only [go_sem, mY, cQ]
         rcases nF hk t.sym with ⟨h7, h4⟩ | ⟨j, h7, h4, h5⟩
         · rw [show t.sym = ⟨t.sym.name, t.sym.arity⟩ from rfl] at h7
           simp -implicitDefEqProofs only [go_sem, h7]
           repeat' (first | simp -implicitDefEqProofs only [go_sem, *] | with_reducible refine aV (fun _ => ?_) (fun _ => ?_) | with_reducible refine aX (fun _ => ?_) (fun _ => ?_) | with_reducible refine aK (fun _ => ?_) (fun _ => ?_) | with_reducible refine aI ?_ ?_ | ((with_reducible refine And.intro ?bnd ?_); (case bnd => decide)) | fail)
           all_goals simp_all [go_sem, Tm.gkind, Sym.isOp, Tm.sym]
         · rw [show t.sym = ⟨t.sym.name, t.sym.arity⟩ from rfl] at h7
           simp -implicitDefEqProofs only [go_sem, h7, h5]
           repeat' (first | simp -implicitDefEqProofs only [go_sem, *] | with_reducible refine aV (fun _ => ?_) (fun _ => ?_) | with_reducible refine aX (fun _ => ?_) (fun _ => ?_) | with_reducible refine aK (fun _ => ?_) (fun _ => ?_) | with_reducible refine aI ?_ ?_ | ((with_reducible refine And.intro ?bnd ?_); (case bnd => decide)) | fail)
           all_goals simp_all [go_sem, Tm.gkind, Sym.isOp, Tm.sym])
      | (simp_all [go_sem, Tm.gkind, Sym.isOp, Tm.sym]; done)
def natF : CallF := fun f args h => match f, args with
 | .fn 25, [.agg [.str s, .v (.int .i64 n)]] => some (.val (.v (.bool (Sym.res ⟨s, n⟩))), h)
 | .fn 183, [x] => match dec x with
  | some t => some (.val (.v (.int .i64 (Tm.gkind t))), h)
  | none => none
 | _, _ => none
theorem bQ : SoundC Tryz.prog GL natF := by
 intro f args h r h' he R hR
 unfold natF at he
 split at he
 ·simp only [Option.some.injEq, Prod.mk.injEq] at he
  obtain ⟨rfl, rfl⟩ := he
  exact aG hC (h25 _) hR
 ·split at he
  ·rename_i x t ht
   simp only [Option.some.injEq, Prod.mk.injEq] at he
   obtain ⟨rfl, rfl⟩ := he
   have h1 : ACall Tryz.prog GL 183 [enc t] h R := aG (C := PC GL) hC (h183 t) hR
   intro E A G w vs hW ha
   refine h1 E A G w vs hW ?_
   simp only [Reps] at ha ⊢
   obtain ⟨u, us, rfl, h2, rfl⟩ := ha
   exact ⟨u, [], rfl, rep_dec _ _ ht _ h2, rfl⟩
  ·cases he
 ·cases he
def GLs : Glob := [(0, [.str [43], .str [45], .str [42], .str [47], .str [109, 111, 100], .str [45]])]
theorem dge (n : Nat) : decide ((n : Int) >= 1) = decide (1 <= n) := by simp only [decide_eq_decide]; omega
theorem dle (n : Nat) : decide ((n : Int) <= 32) = decide (n <= 32) := by simp only [decide_eq_decide]; omega
theorem h311 (r : Int) : Pure (PC GL) 311 [.v (.int .i32 r)] (.b (decide (r < 32) || decide (126 < r))) := by
 refine k311.pure (by simp) (by simp [go_sem]) (by simp [go_sem]) ?_
 simp -implicitDefEqProofs only [c311, r311, go_sem]
 repeat' (first | simp -implicitDefEqProofs only [go_sem, *] | with_reducible refine aV (fun _ => ?_) (fun _ => ?_) | with_reducible refine aX (fun _ => ?_) (fun _ => ?_) | with_reducible refine aK (fun _ => ?_) (fun _ => ?_) | with_reducible refine aI ?_ ?_ | ((with_reducible refine And.intro ?bnd ?_); (case bnd => decide)) | fail)
 all_goals simp_all
theorem h315 (s : List UInt8) (_hs : s.length < 2 ^ 30) : Pure (PC GL) 315 [.str s, .fn (.func 311) [] [], .b true] (.i (firstBad s)) := by
 refine k315.pure (by simp) (by simp [go_sem]) (by simp [go_sem]) ?_
 simp -implicitDefEqProofs only [c315, r315, go_sem]
 refine s_for hC (fun j => (s.take j).all byteOk = true) (fun _ => [(10, .ref 0 0), (0, .str s), (1, .fn (.func 311) [] []), (2, .b true)]) (fun j => [.siter ⟨s.toArray⟩ j]) s.length (by simp) ?_ ?_
 ·refine Wk.slots (by simp) ?_ ?_ <;> simp [go_sem]
 ·intro j hj hI
  simp -implicitDefEqProofs only [go_sem]
  refine nxO_and (fun hlt => ?_) (fun hlt => ?_)
  ·rw [nJ] at hlt
   have hlt : j < s.length := Nat.le_of_ble_eq_true hlt
   by_cases hb : byteOk s[j] = true
   ·simp -implicitDefEqProofs only [go_sem, qL hlt hb]
    refine aG hC (h311 _) ?_
    have hb' := hb
    simp only [byteOk, Bool.and_eq_true, decide_eq_true_eq] at hb'
    have e : (decide (((s[j]).toNat : Int) < 32) || decide (126 < ((s[j]).toNat : Int))) = false := by simp; omega
    simp -implicitDefEqProofs only [go_sem, e]
    refine ⟨hlt, by rw [kR hlt, hI, hb]; rfl, Wk.slots (by simp) ?_ ?_⟩ <;> simp [go_sem]
   ·have hb : byteOk s[j] = false := by simpa using hb
    have hd := oD hlt hb
    simp -implicitDefEqProofs only [go_sem]
    refine aG hC (h311 _) ?_
    have e : (decide (((Utf8.decode ⟨s.toArray⟩ j).1 : Int) < 32) || decide (126 < ((Utf8.decode ⟨s.toArray⟩ j).1 : Int))) = true := by simp; omega
    simp -implicitDefEqProofs only [go_sem, e]
    refine aI ?_ ?_ <;> simp [go_sem, iY hlt hI hb]
  ·rw [nJ] at hlt
   have hge : s.length <= j := by
    rcases Nat.lt_or_ge j s.length with h | h
    ·rw [show Nat.blt j s.length = true from Nat.ble_eq_true_of_le h] at hlt; cases hlt
    ·exact h
   rw [aT hge] at hI
   simp -implicitDefEqProofs only [go_sem]
   refine aI ?_ ?_ <;> simp [go_sem, iU hI]
theorem h301 (s : List UInt8) (hs : s.length < 2 ^ 30) : Pure (PC GL) 301 [.str s, .fn (.func 311) [] []] (.i (firstBad s)) := by
 refine k301.pure (by simp) (by simp [go_sem]) (by simp [go_sem]) ?_
 simp -implicitDefEqProofs only [c301, r301, go_sem]
 repeat' (first | simp -implicitDefEqProofs only [go_sem, *] | with_reducible refine aV (fun _ => ?_) (fun _ => ?_) | with_reducible refine aX (fun _ => ?_) (fun _ => ?_) | with_reducible refine aK (fun _ => ?_) (fun _ => ?_) | with_reducible refine aI ?_ ?_ | (refine aG hC (h315 _ hs) ?_) | ((with_reducible refine And.intro ?bnd ?_); (case bnd => decide)) | fail)
 all_goals simp_all [go_sem]
theorem h286 (s : List UInt8) (hs : s.length < 2 ^ 30) : Pure (PC GL) 286 [.str s] (.b (nameOk s)) := by
 refine k286.pure (by simp) (by simp [go_sem]) (by simp [go_sem]) ?_
 simp -implicitDefEqProofs only [c286, r286, go_sem]
 simp -implicitDefEqProofs only [go_sem, dge]
 repeat' (first | simp -implicitDefEqProofs only [go_sem, *, dle, jZ] | with_reducible refine aV (fun _ => ?_) (fun _ => ?_) | with_reducible refine aX (fun _ => ?_) (fun _ => ?_) | with_reducible refine aK (fun _ => ?_) (fun _ => ?_) | with_reducible refine aI ?_ ?_ | (refine aG hC (h301 _ hs) ?_) | ((with_reducible refine And.intro ?bnd ?_); (case bnd => decide)) | fail)
 all_goals simp_all [go_sem, nameOk]
 all_goals (intros; omega)
def Tm.bare (t : Tm) (n s l : Bool) : Bool := (n || t.n == 0) && ((s || t.s == []) && (l || (t.l.length : Int) == 0))
def Tm.nodeOk (t : Tm) : Bool :=
 if t.kind = 1 then t.bare true false false && (decide (0 <= t.n) && decide (t.n < 100000))
 else if t.kind = 2 then t.bare true false false && (decide (-2147483647 <= t.n) && decide (t.n <= 2147483647))
 else if t.kind = 3 then t.bare false true false && nameOk t.s
 else if t.kind = 4 then t.bare false true false && decide ((t.s.length : Int) <= 255)
 else if t.kind = 5 then t.bare false true true && (nameOk t.s && (decide (1 <= (t.l.length : Int)) && decide ((t.l.length : Int) <= 16)))
 else if t.kind = 6 then t.bare false false true && decide ((t.l.length : Int) <= 64)
 else false
mutual
def Tm.nodesOk : Tm -> Bool
 | .mk k n s l => (Tm.mk k n s l).nodeOk && nodesOks l
def nodesOks : List Tm -> Bool
 | [] => true
 | t :: r => t.nodesOk && nodesOks r
end
theorem bC (t : Tm) : t.nodesOk = (t.nodeOk && nodesOks t.l) := by cases t; rfl
theorem cA : ∀ a b, nodesOks (a ++ b) = (nodesOks a && nodesOks b)
 | [], b => by simp [nodesOks]
 | x :: r, b => by simp only [List.cons_append, nodesOks, cA r b, Bool.and_assoc]
theorem iW {l : List Tm} {j : Nat} (h : j < l.length) : nodesOks (l.take (j + 1)) = (nodesOks (l.take j) && l[j].nodesOk) := by
 rw [bD h, cA]; simp [nodesOks]
theorem fU {l : List Tm} (h : nodesOks l = true) {x : Tm} (hx : x ∈ l) : x.nodesOk = true := by
 induction l with
 | nil => cases hx
 | cons y r ih =>
  simp only [nodesOks, Bool.and_eq_true] at h
  rcases List.mem_cons.1 hx with rfl | hx
  ·exact h.1
  ·exact ih h.2 hx
theorem lG {l : List Tm} {x : Tm} (hx : x ∈ l) : x.deep <= deeps l := by
 induction l with
 | nil => cases hx
 | cons y r ih =>
  simp only [deeps]
  rcases List.mem_cons.1 hx with rfl | hx
  ·omega
  ·have := ih hx; omega
mutual
def Tm.strs : Tm -> Prop
 | .mk _ _ s l => s.length < 2 ^ 30 /\ strss l
def strss : List Tm -> Prop
 | [] => True
 | t :: r => t.strs /\ strss r
end
theorem bS (t : Tm) : t.strs ↔ t.s.length < 2 ^ 30 /\ strss t.l := by cases t; rfl
theorem bJ : ∀ {l : List Tm}, strss l -> ∀ x ∈ l, x.strs
 | y :: r, h, x, hx => by
  rcases List.mem_cons.1 hx with rfl | hx
  ·exact h.1
  ·exact bJ h.2 x hx
def Tm.ok (t : Tm) : Bool := decide (t.size <= 4000) && (decide (t.deep <= 600) && t.nodesOk)
theorem h282 (t : Tm) (n s l : Bool) : Pure (PC GL) 282 [enc t, .b n, .b s, .b l] (.b (t.bare n s l)) := by
 refine k282.pure (by simp) (by simp [go_sem]) (by simp [go_sem]) ?_
 simp -implicitDefEqProofs only [c282, r282, go_sem]
 repeat' (first | simp -implicitDefEqProofs only [go_sem, *] | with_reducible refine aV (fun _ => ?_) (fun _ => ?_) | with_reducible refine aX (fun _ => ?_) (fun _ => ?_) | with_reducible refine aK (fun _ => ?_) (fun _ => ?_) | with_reducible refine aI ?_ ?_ | ((with_reducible refine And.intro ?bnd ?_); (case bnd => decide)) | fail)
 all_goals simp_all [go_sem, Tm.bare]
def frmH : List AObj := [.cells 287 [.fn (.func 282) [] []]]
def frmV (k : Nat) : AV := .agg [.v .nilFunc, .fn (.func 283) [] [.ref k 0], .fn (.func 284) [] [.ref k 0], .fn (.func 285) [] [.ref k 0], .fn (.func 287) [] [.ref k 0], .fn (.func 288) [] [.ref k 0], .fn (.func 289) [] [.ref k 0]]
theorem eZ : ∀ (i : Nat) (x : AObj), frmH[i]? = some x -> bdO frmH.length x := by
 intro i x hx
 cases i with
 | zero => simp [frmH] at hx; subst hx; simp [bdO, bds, bd]
 | succ i => simp [frmH] at hx
theorem dM {GL : Glob} {x v : AV} {h h1 : List AObj} (hw : wkr x v) (hb : bd 0 v) (hh : Wk GL h1.length [] h [] h1) : ∃ y h', Wk GL h1.length [(0, x)] h [(0, y)] h' /\ h' = h1 /\ ARes.val y = ARes.val v := by
 refine ⟨v, h1, fun E A G w f hW hf => ?_, rfl, rfl⟩
 obtain ⟨E', A', G', g1, g2, g3, g4, g5⟩ := hh E A G w (fun _ => undef) hW (fun i => by simp [tget, Rep])
 refine ⟨E', A', G', g1, fun i => ?_, g3, g4, g5⟩
 simp only [tget]
 split
 ·rename_i hi
  have := hf i
  simp only [tget, hi] at this
  have h6 := Rep.wk _ _ _ hw this
  have h7 : Rep E' A G w v (f i) := Rep.ren (κ := fun k => k) (E := E) (E' := E') (fun k hk hk' => g5 k (by rw [<- g1.n]; exact hk)) _ _ (sB (Nat.zero_le _) v hb) (by rw [iF]; exact h6)
  exact h7.mono (Env.le_refl _) g3
 ·simp [Rep]
theorem dV {GL : Glob} {ex : List AObj} : Wk GL frmH.length [] (frmH ++ ex) [] frmH := Wk.slots (Nat.le_refl _) (by simp [SlotsOk]) (by simp [frmH, ObjsOk, renO, rens, ren, wkO, wkrs, wkr, bdO, bds, bd])
theorem h283 (t : Tm) : PureOn (PC GL) 283 [enc t, .ref 0 0] (.b (t.bare true false false && (decide (0 <= t.n) && decide (t.n < 100000)))) frmH := by
 refine k283.call (by simp) ?_
 simp -implicitDefEqProofs only [go_sem, c283, r283, frmH]
 refine aG hC (h282 _ _ _ _) ?_
 repeat' (first | simp -implicitDefEqProofs only [go_sem, *] | with_reducible refine aV (fun _ => ?_) (fun _ => ?_) | with_reducible refine aX (fun _ => ?_) (fun _ => ?_) | with_reducible refine aK (fun _ => ?_) (fun _ => ?_) | with_reducible refine aI ?_ ?_ | ((with_reducible refine And.intro ?bnd ?_); (case bnd => decide)) | fail)
 all_goals (refine dM (h1 := frmH) ?_ ?_ dV <;> simp_all [go_sem])
theorem h284 (t : Tm) : PureOn (PC GL) 284 [enc t, .ref 0 0] (.b (t.bare true false false && (decide (-2147483647 <= t.n) && decide (t.n <= 2147483647)))) frmH := by
 refine k284.call (by simp) ?_
 simp -implicitDefEqProofs only [go_sem, c284, r284, frmH]
 refine aG hC (h282 _ _ _ _) ?_
 repeat' (first | simp -implicitDefEqProofs only [go_sem, *] | with_reducible refine aV (fun _ => ?_) (fun _ => ?_) | with_reducible refine aX (fun _ => ?_) (fun _ => ?_) | with_reducible refine aK (fun _ => ?_) (fun _ => ?_) | with_reducible refine aI ?_ ?_ | ((with_reducible refine And.intro ?bnd ?_); (case bnd => decide)) | fail)
 all_goals (refine dM (h1 := frmH) ?_ ?_ dV <;> simp_all [go_sem])
theorem h285 (t : Tm) (hs : t.s.length < 2 ^ 30) : PureOn (PC GL) 285 [enc t, .ref 0 0] (.b (t.bare false true false && nameOk t.s)) frmH := by
 refine k285.call (by simp) ?_
 simp -implicitDefEqProofs only [go_sem, c285, r285, frmH]
 refine aG hC (h282 _ _ _ _) ?_
 repeat' (first | simp -implicitDefEqProofs only [go_sem, *] | with_reducible refine aV (fun _ => ?_) (fun _ => ?_) | with_reducible refine aX (fun _ => ?_) (fun _ => ?_) | with_reducible refine aK (fun _ => ?_) (fun _ => ?_) | with_reducible refine aI ?_ ?_ | (refine aG hC (h286 _ hs) ?_) | ((with_reducible refine And.intro ?bnd ?_); (case bnd => decide)) | fail)
 all_goals (refine dM (h1 := frmH) ?_ ?_ dV <;> simp_all [go_sem])
theorem h287 (t : Tm) : PureOn (PC GL) 287 [enc t, .ref 0 0] (.b (t.bare false true false && decide ((t.s.length : Int) <= 255))) frmH := by
 refine k287.call (by simp) ?_
 simp -implicitDefEqProofs only [go_sem, c287, r287, frmH]
 refine aG hC (h282 _ _ _ _) ?_
 repeat' (first | simp -implicitDefEqProofs only [go_sem, *] | with_reducible refine aV (fun _ => ?_) (fun _ => ?_) | with_reducible refine aX (fun _ => ?_) (fun _ => ?_) | with_reducible refine aK (fun _ => ?_) (fun _ => ?_) | with_reducible refine aI ?_ ?_ | ((with_reducible refine And.intro ?bnd ?_); (case bnd => decide)) | fail)
 all_goals (refine dM (h1 := frmH) ?_ ?_ dV <;> simp_all [go_sem])
theorem h288 (t : Tm) (hs : t.s.length < 2 ^ 30) : PureOn (PC GL) 288 [enc t, .ref 0 0] (.b (t.bare false true true && (nameOk t.s && (decide (1 <= (t.l.length : Int)) && decide ((t.l.length : Int) <= 16))))) frmH := by
 refine k288.call (by simp) ?_
 simp -implicitDefEqProofs only [go_sem, c288, r288, frmH]
 refine aG hC (h282 _ _ _ _) ?_
 repeat' (first | simp -implicitDefEqProofs only [go_sem, *] | with_reducible refine aV (fun _ => ?_) (fun _ => ?_) | with_reducible refine aX (fun _ => ?_) (fun _ => ?_) | with_reducible refine aK (fun _ => ?_) (fun _ => ?_) | with_reducible refine aI ?_ ?_ | (refine aG hC (h286 _ hs) ?_) | ((with_reducible refine And.intro ?bnd ?_); (case bnd => decide)) | fail)
 all_goals (refine dM (h1 := frmH) ?_ ?_ dV <;> simp_all [go_sem])
theorem h289 (t : Tm) : PureOn (PC GL) 289 [enc t, .ref 0 0] (.b (t.bare false false true && decide ((t.l.length : Int) <= 64))) frmH := by
 refine k289.call (by simp) ?_
 simp -implicitDefEqProofs only [go_sem, c289, r289, frmH]
 refine aG hC (h282 _ _ _ _) ?_
 repeat' (first | simp -implicitDefEqProofs only [go_sem, *] | with_reducible refine aV (fun _ => ?_) (fun _ => ?_) | with_reducible refine aX (fun _ => ?_) (fun _ => ?_) | with_reducible refine aK (fun _ => ?_) (fun _ => ?_) | with_reducible refine aI ?_ ?_ | ((with_reducible refine And.intro ?bnd ?_); (case bnd => decide)) | fail)
 all_goals (refine dM (h1 := frmH) ?_ ?_ dV <;> simp_all [go_sem])
theorem e243 : (match evCall GL (mkT Tryz.prog) (mkKC Tryz.prog) (withD Tryz.prog GL NoN) 30 (.fn 243) [] [] with
 | some (.val x, h) => beqAV x (frmV 0) && (match h with | [.cells T l] => Nat.beq T 287 && beqAVs l [.fn (.func 282) [] []] | _ => false)
 | _ => false) = true := by kernel_rfl
theorem h243 (h : List AObj) {R : ARes -> List AObj -> Prop} (hR : R (.val (frmV h.length)) (h ++ frmH)) : PC GL (.fn 243) [] h R := by
 have h0 : ACall Tryz.prog GL 243 [] [] fun r h' => r = .val (frmV 0) /\ h' = frmH := by
  have he := e243 (GL := GL)
  split at he
  ·rename_i x h1 hx
   simp only [Bool.and_eq_true] at he
   have h2 := eV he.1
   have h3 := he.2
   split at h3
   ·simp only [Bool.and_eq_true] at h3
    exact rD xL hx ⟨by rw [h2], by rw [frmH, Nat.eq_of_beq_eq_true h3.1, bL h3.2]⟩
   ·cases h3
  ·cases he
 have h1 := mG (h := h) (by simp [bds]) h0
 refine ACall.mono _ _ _ _ _ ?_ h1
 rintro r h' ⟨r0, h0, ⟨rfl, rfl⟩, rfl, rfl⟩
 have e : frmH.map (renO (· + h.length)) = frmH := by simp [frmH, renO, rens, ren]
 rw [e]
 simpa [renR, ren, rens, frmV] using hR
end Go.Rip
