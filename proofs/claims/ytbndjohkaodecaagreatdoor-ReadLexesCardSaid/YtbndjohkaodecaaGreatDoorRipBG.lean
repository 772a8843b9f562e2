/- The examples of the chapter hold. -/
import Derived.Test.YtbndjohkaodecaaGreatDoorRipBF
namespace Go.Rip
open Go Go.Proofs
set_option maxRecDepth 100000
variable {GL : Glob}
attribute [local irreducible] Pure
theorem bS {f : FuncId} {args args' : List AV} {h : List AObj} {R : ARes -> List AObj -> Prop} (hw : Wds args args') (hc : PC GL (.fn f) args' h R) : PC GL (.fn f) args h R :=
 fun E A G w vs hW ha => hc E A G w vs hW (hw.reps ha)
theorem dH {s : Str} {t : Tm} {ns : List Str} (h : readT s = .ok (t, ns)) : readsB s t = true := by unfold readsB; rw [h]; exact same_refl t
theorem lx0 : lexOut [102, 40, 88, 44, 45, 49, 41, 46] = .ok [⟨1, 0, [102], 0, 1⟩, ⟨6, 0, [40], 1, 2⟩, ⟨3, 0, [88], 2, 3⟩, ⟨6, 0, [44], 3, 4⟩, ⟨1, 0, [45], 4, 5⟩, ⟨4, 1, [], 5, 6⟩, ⟨6, 0, [41], 6, 7⟩, ⟨7, 0, [46], 7, 8⟩] := by kernel_rfl
theorem rd0 : readT [97, 32, 61, 32, 98, 32, 61, 32, 99] = .error (21, 6) := by kernel_rfl
theorem e0 : readsB [88, 32, 43, 32, 89, 32, 42, 32, 88] (.mk 5 0 [43] [(.mk 1 0 [] []), (.mk 5 0 [42] [(.mk 1 1 [] []), (.mk 1 0 [] [])])]) = true := dH (ns := [[88], [89]]) (by kernel_rfl)
theorem e1 : readsB [45, 32, 49] (.mk 5 0 [45] [(.mk 2 (1) [] [])]) = true := dH (ns := []) (by kernel_rfl)
theorem e2 : readsB [45, 49] (.mk 2 (-1) [] []) = true := dH (ns := []) (by kernel_rfl)
theorem e3 : readsB [97, 32, 45, 32, 45, 49] (.mk 5 0 [45] [(.mk 3 0 [97] []), (.mk 2 (-1) [] [])]) = true := dH (ns := []) (by kernel_rfl)
theorem e4 : readsB [91, 97, 44, 98, 124, 84, 93] (.mk 5 0 [46] [(.mk 3 0 [97] []), (.mk 5 0 [46] [(.mk 3 0 [98] []), (.mk 1 0 [] [])])]) = true := dH (ns := [[84]]) (by kernel_rfl)
theorem e5 : readsB [123, 125] (.mk 6 0 [] []) = true := dH (ns := []) (by kernel_rfl)
theorem e6 : readsB [39, 43, 39] (.mk 3 0 [43] []) = true := dH (ns := []) (by kernel_rfl)
theorem e7 : writesB (.mk 5 0 [45] [(.mk 3 0 [97] []), (.mk 5 0 [45] [(.mk 3 0 [98] []), (.mk 3 0 [99] [])])]) [97, 45, 40, 98, 45, 99, 41] = true := by kernel_rfl
theorem e8 : writesB (.mk 5 0 [45] [(.mk 5 0 [45] [(.mk 3 0 [97] []), (.mk 3 0 [98] [])]), (.mk 3 0 [99] [])]) [97, 45, 98, 45, 99] = true := by kernel_rfl
theorem e9 : writesB (.mk 5 0 [45] [(.mk 2 (1) [] [])]) [45, 40, 49, 41] = true := by kernel_rfl
theorem e10 : writesB (.mk 5 0 [42] [(.mk 3 0 [97] []), (.mk 2 (-1) [] [])]) [97, 42, 32, 45, 49] = true := by kernel_rfl
theorem e11 : writesB (.mk 5 0 [109, 111, 100] [(.mk 3 0 [97] []), (.mk 3 0 [98] [])]) [97, 32, 109, 111, 100, 32, 98] = true := by kernel_rfl
theorem e12 : writesB (.mk 5 0 [58, 45] [(.mk 5 0 [58, 45] [(.mk 3 0 [97] []), (.mk 3 0 [98] [])])]) [58, 45, 32, 40, 97, 58, 45, 98, 41] = true := by kernel_rfl
theorem e13 : writesB (.mk 5 0 [61] [(.mk 1 7 [] []), (.mk 5 0 [102] [(.mk 3 0 [43] []), (.mk 4 0 [97, 10] [])])]) [72, 61, 102, 40, 39, 43, 39, 44, 34, 97, 92, 110, 34, 41] = true := by kernel_rfl
theorem sane_ok (hG : GLok GL) : Pure (PC GL) 17 [] (.b true) := by
 refine aN (by simp [go_sem]) (by simp [go_sem]) ?_
 refine k17.call (by simp) ?_
 obtain ⟨tA, eA⟩ : ∃ t, t = Tm.mk 3 0 [97] [] := ⟨_, rfl⟩
 obtain ⟨tB, eB⟩ : ∃ t, t = Tm.mk 3 0 [98] [] := ⟨_, rfl⟩
 obtain ⟨tC, eC⟩ : ∃ t, t = Tm.mk 3 0 [99] [] := ⟨_, rfl⟩
 simp -implicitDefEqProofs only [go_sem, c17, r17]
 refine aC hC (show Pure (PC GL) 30 [.str [97]] (enc tA) from eA ▸ h30 [97]) ?_
 simp -implicitDefEqProofs only [go_sem]
 refine aC hC (show Pure (PC GL) 30 [.str [98]] (enc tB) from eB ▸ h30 [98]) ?_
 simp -implicitDefEqProofs only [go_sem]
 refine aC hC (show Pure (PC GL) 30 [.str [99]] (enc tC) from eC ▸ h30 [99]) ?_
 simp -implicitDefEqProofs only [go_sem]
 refine aC hC (h18 hG _) ?_
 rw [lexV, lx0]
 have d0 : ((0 : Int) != 0) = false := rfl
 have n0 : ((0 : Nat) : Int) = 0 := rfl
 have n4 : ((4 : Nat) : Int) = 4 := rfl
 have n5 : ((5 : Nat) : Int) = 5 := rfl
 have n8 : ((8 : Nat) : Int) = 8 := rfl
 have n8' : ((0 + 1 + 1 + 1 + 1 + 1 + 1 + 1 + 1 : Nat) : Int) = 8 := rfl
 repeat' (first | simp -implicitDefEqProofs only [go_sem, encLx, List.length_cons, List.length_nil, Int.reduceToNat, Nat.reduceAdd, List.getD_cons_zero, List.getD_cons_succ, d0, n0, n4, n5, n8', bne_self_eq_false, beq_self_eq_true] | (with_reducible refine And.intro (by unfold bounds; decide) ?_))
 refine aC hC (h53 0) ?_
 simp -implicitDefEqProofs only [go_sem]
 refine aC hC (h53 1) ?_
 simp -implicitDefEqProofs only [go_sem]
 refine aC hC (h53 0) ?_
 simp -implicitDefEqProofs only [go_sem, Nat.reduceAdd]
 refine bS (args' := [.str [42], .sl 4 (([(.mk 1 1 [] []), (.mk 1 0 [] [])] : List Tm).map enc)]) ⟨Wd.rfl _, Wd.fz ⟨Wd.rfl _, Wd.rfl _, trivial⟩, trivial⟩ (aC hC (h31 [42] [(.mk 1 1 [] []), (.mk 1 0 [] [])]) ?_)
 simp -implicitDefEqProofs only [go_sem, Nat.reduceAdd]
 refine bS (args' := [.str [43], .sl 4 (([(.mk 1 0 [] []), (.mk 5 0 [42] [(.mk 1 1 [] []), (.mk 1 0 [] [])])] : List Tm).map enc)]) ⟨Wd.rfl _, Wd.fz ⟨Wd.rfl _, Wd.rfl _, trivial⟩, trivial⟩ (aC hC (h31 [43] [(.mk 1 0 [] []), (.mk 5 0 [42] [(.mk 1 1 [] []), (.mk 1 0 [] [])])]) ?_)
 simp -implicitDefEqProofs only [go_sem]
 refine bS (args' := [.str [88, 32, 43, 32, 89, 32, 42, 32, 88], enc (.mk 5 0 [43] [(.mk 1 0 [] []), (.mk 5 0 [42] [(.mk 1 1 [] []), (.mk 1 0 [] [])])])]) ⟨Wd.rfl _, Wd.rfl _, trivial⟩ (aC hC (h32 hG [88, 32, 43, 32, 89, 32, 42, 32, 88] (.mk 5 0 [43] [(.mk 1 0 [] []), (.mk 5 0 [42] [(.mk 1 1 [] []), (.mk 1 0 [] [])])]) (by subst eA eB eC; decide)) ?_)
 rw [show readsB [88, 32, 43, 32, 89, 32, 42, 32, 88] (.mk 5 0 [43] [(.mk 1 0 [] []), (.mk 5 0 [42] [(.mk 1 1 [] []), (.mk 1 0 [] [])])]) = true by subst eA eB eC; exact e0]
 simp -implicitDefEqProofs only [go_sem]
 refine aC hC (h54 (1)) ?_
 simp -implicitDefEqProofs only [go_sem, Nat.reduceAdd]
 refine bS (args' := [.str [45], .sl 4 (([(.mk 2 (1) [] [])] : List Tm).map enc)]) ⟨Wd.rfl _, Wd.fz ⟨Wd.rfl _, trivial⟩, trivial⟩ (aC hC (h31 [45] [(.mk 2 (1) [] [])]) ?_)
 simp -implicitDefEqProofs only [go_sem]
 refine bS (args' := [.str [45, 32, 49], enc (.mk 5 0 [45] [(.mk 2 (1) [] [])])]) ⟨Wd.rfl _, Wd.rfl _, trivial⟩ (aC hC (h32 hG [45, 32, 49] (.mk 5 0 [45] [(.mk 2 (1) [] [])]) (by subst eA eB eC; decide)) ?_)
 rw [show readsB [45, 32, 49] (.mk 5 0 [45] [(.mk 2 (1) [] [])]) = true by subst eA eB eC; exact e1]
 simp -implicitDefEqProofs only [go_sem]
 refine aC hC (h54 (-1)) ?_
 simp -implicitDefEqProofs only [go_sem]
 refine bS (args' := [.str [45, 49], enc (.mk 2 (-1) [] [])]) ⟨Wd.rfl _, Wd.rfl _, trivial⟩ (aC hC (h32 hG [45, 49] (.mk 2 (-1) [] []) (by subst eA eB eC; decide)) ?_)
 rw [show readsB [45, 49] (.mk 2 (-1) [] []) = true by subst eA eB eC; exact e2]
 simp -implicitDefEqProofs only [go_sem, bC, Nat.reduceAdd]
 refine aC hC (h54 (-1)) ?_
 simp -implicitDefEqProofs only [go_sem, bC, Nat.reduceAdd]
 refine bS (args' := [.str [45], .sl 4 (([tA, (.mk 2 (-1) [] [])] : List Tm).map enc)]) ⟨Wd.rfl _, Wd.fz ⟨Wd.rfl _, Wd.rfl _, trivial⟩, trivial⟩ (aC hC (h31 [45] [tA, (.mk 2 (-1) [] [])]) ?_)
 simp -implicitDefEqProofs only [go_sem]
 refine bS (args' := [.str [97, 32, 45, 32, 45, 49], enc (.mk 5 0 [45] [tA, (.mk 2 (-1) [] [])])]) ⟨Wd.rfl _, Wd.rfl _, trivial⟩ (aC hC (h32 hG [97, 32, 45, 32, 45, 49] (.mk 5 0 [45] [tA, (.mk 2 (-1) [] [])]) (by subst eA eB eC; decide)) ?_)
 rw [show readsB [97, 32, 45, 32, 45, 49] (.mk 5 0 [45] [tA, (.mk 2 (-1) [] [])]) = true by subst eA eB eC; exact e3]
 simp -implicitDefEqProofs only [go_sem, bC, Nat.reduceAdd]
 refine aC hC (h53 0) ?_
 simp -implicitDefEqProofs only [go_sem, bC, Nat.reduceAdd]
 refine bS (args' := [.str [46], .sl 4 (([tB, (.mk 1 0 [] [])] : List Tm).map enc)]) ⟨Wd.rfl _, Wd.fz ⟨Wd.rfl _, Wd.rfl _, trivial⟩, trivial⟩ (aC hC (h31 [46] [tB, (.mk 1 0 [] [])]) ?_)
 simp -implicitDefEqProofs only [go_sem, bC, Nat.reduceAdd]
 refine bS (args' := [.str [46], .sl 4 (([tA, (.mk 5 0 [46] [tB, (.mk 1 0 [] [])])] : List Tm).map enc)]) ⟨Wd.rfl _, Wd.fz ⟨Wd.rfl _, Wd.rfl _, trivial⟩, trivial⟩ (aC hC (h31 [46] [tA, (.mk 5 0 [46] [tB, (.mk 1 0 [] [])])]) ?_)
 simp -implicitDefEqProofs only [go_sem]
 refine bS (args' := [.str [91, 97, 44, 98, 124, 84, 93], enc (.mk 5 0 [46] [tA, (.mk 5 0 [46] [tB, (.mk 1 0 [] [])])])]) ⟨Wd.rfl _, Wd.rfl _, trivial⟩ (aC hC (h32 hG [91, 97, 44, 98, 124, 84, 93] (.mk 5 0 [46] [tA, (.mk 5 0 [46] [tB, (.mk 1 0 [] [])])]) (by subst eA eB eC; decide)) ?_)
 rw [show readsB [91, 97, 44, 98, 124, 84, 93] (.mk 5 0 [46] [tA, (.mk 5 0 [46] [tB, (.mk 1 0 [] [])])]) = true by subst eA eB eC; exact e4]
 simp -implicitDefEqProofs only [go_sem, Nat.reduceAdd]
 refine bS (args' := [.str [123, 125], enc (.mk 6 0 [] [])]) ⟨Wd.rfl _, fH, trivial⟩ (aC hC (h32 hG [123, 125] (.mk 6 0 [] []) (by subst eA eB eC; decide)) ?_)
 rw [show readsB [123, 125] (.mk 6 0 [] []) = true by subst eA eB eC; exact e5]
 simp -implicitDefEqProofs only [go_sem]
 refine aC hC (h30 [43]) ?_
 simp -implicitDefEqProofs only [go_sem]
 refine bS (args' := [.str [39, 43, 39], enc (.mk 3 0 [43] [])]) ⟨Wd.rfl _, Wd.rfl _, trivial⟩ (aC hC (h32 hG [39, 43, 39] (.mk 3 0 [43] []) (by subst eA eB eC; decide)) ?_)
 rw [show readsB [39, 43, 39] (.mk 3 0 [43] []) = true by subst eA eB eC; exact e6]
 simp -implicitDefEqProofs only [go_sem]
 refine aC hC (h21 hG [97, 32, 61, 32, 98, 32, 61, 32, 99]) ?_
 rw [termV, rd0]
 have q1 : ((21 : Int) != 21) = false := rfl
 have q2 : ((6 : Int) != 6) = false := rfl
 simp -implicitDefEqProofs only [go_sem, q1, q2, bC]
 refine bS (args' := [.str [45], .sl 4 (([tB, tC] : List Tm).map enc)]) ⟨Wd.rfl _, Wd.fz ⟨Wd.rfl _, Wd.rfl _, trivial⟩, trivial⟩ (aC hC (h31 [45] [tB, tC]) ?_)
 simp -implicitDefEqProofs only [go_sem, bC, Nat.reduceAdd]
 refine bS (args' := [.str [45], .sl 4 (([tA, (.mk 5 0 [45] [tB, tC])] : List Tm).map enc)]) ⟨Wd.rfl _, Wd.fz ⟨Wd.rfl _, Wd.rfl _, trivial⟩, trivial⟩ (aC hC (h31 [45] [tA, (.mk 5 0 [45] [tB, tC])]) ?_)
 simp -implicitDefEqProofs only [go_sem]
 refine aC hC (h55 hG [97, 45, 40, 98, 45, 99, 41] (.mk 5 0 [45] [tA, (.mk 5 0 [45] [tB, tC])]) (by subst eA eB eC; decide) (by subst eA eB eC; simp [Tm.strs, strss])) ?_
 rw [show writesB (.mk 5 0 [45] [tA, (.mk 5 0 [45] [tB, tC])]) [97, 45, 40, 98, 45, 99, 41] = true by subst eA eB eC; exact e7]
 simp -implicitDefEqProofs only [go_sem, bC, Nat.reduceAdd]
 refine bS (args' := [.str [45], .sl 4 (([tA, tB] : List Tm).map enc)]) ⟨Wd.rfl _, Wd.fz ⟨Wd.rfl _, Wd.rfl _, trivial⟩, trivial⟩ (aC hC (h31 [45] [tA, tB]) ?_)
 simp -implicitDefEqProofs only [go_sem, bC, Nat.reduceAdd]
 refine bS (args' := [.str [45], .sl 4 (([(.mk 5 0 [45] [tA, tB]), tC] : List Tm).map enc)]) ⟨Wd.rfl _, Wd.fz ⟨Wd.rfl _, Wd.rfl _, trivial⟩, trivial⟩ (aC hC (h31 [45] [(.mk 5 0 [45] [tA, tB]), tC]) ?_)
 simp -implicitDefEqProofs only [go_sem]
 refine aC hC (h55 hG [97, 45, 98, 45, 99] (.mk 5 0 [45] [(.mk 5 0 [45] [tA, tB]), tC]) (by subst eA eB eC; decide) (by subst eA eB eC; simp [Tm.strs, strss])) ?_
 rw [show writesB (.mk 5 0 [45] [(.mk 5 0 [45] [tA, tB]), tC]) [97, 45, 98, 45, 99] = true by subst eA eB eC; exact e8]
 simp -implicitDefEqProofs only [go_sem]
 refine aC hC (h54 (1)) ?_
 simp -implicitDefEqProofs only [go_sem, Nat.reduceAdd]
 refine bS (args' := [.str [45], .sl 4 (([(.mk 2 (1) [] [])] : List Tm).map enc)]) ⟨Wd.rfl _, Wd.fz ⟨Wd.rfl _, trivial⟩, trivial⟩ (aC hC (h31 [45] [(.mk 2 (1) [] [])]) ?_)
 simp -implicitDefEqProofs only [go_sem]
 refine aC hC (h55 hG [45, 40, 49, 41] (.mk 5 0 [45] [(.mk 2 (1) [] [])]) (by subst eA eB eC; decide) (by subst eA eB eC; simp [Tm.strs, strss])) ?_
 rw [show writesB (.mk 5 0 [45] [(.mk 2 (1) [] [])]) [45, 40, 49, 41] = true by subst eA eB eC; exact e9]
 simp -implicitDefEqProofs only [go_sem, bC, Nat.reduceAdd]
 refine aC hC (h54 (-1)) ?_
 simp -implicitDefEqProofs only [go_sem, bC, Nat.reduceAdd]
 refine bS (args' := [.str [42], .sl 4 (([tA, (.mk 2 (-1) [] [])] : List Tm).map enc)]) ⟨Wd.rfl _, Wd.fz ⟨Wd.rfl _, Wd.rfl _, trivial⟩, trivial⟩ (aC hC (h31 [42] [tA, (.mk 2 (-1) [] [])]) ?_)
 simp -implicitDefEqProofs only [go_sem]
 refine aC hC (h55 hG [97, 42, 32, 45, 49] (.mk 5 0 [42] [tA, (.mk 2 (-1) [] [])]) (by subst eA eB eC; decide) (by subst eA eB eC; simp [Tm.strs, strss])) ?_
 rw [show writesB (.mk 5 0 [42] [tA, (.mk 2 (-1) [] [])]) [97, 42, 32, 45, 49] = true by subst eA eB eC; exact e10]
 simp -implicitDefEqProofs only [go_sem, bC, Nat.reduceAdd]
 refine bS (args' := [.str [109, 111, 100], .sl 4 (([tA, tB] : List Tm).map enc)]) ⟨Wd.rfl _, Wd.fz ⟨Wd.rfl _, Wd.rfl _, trivial⟩, trivial⟩ (aC hC (h31 [109, 111, 100] [tA, tB]) ?_)
 simp -implicitDefEqProofs only [go_sem]
 refine aC hC (h55 hG [97, 32, 109, 111, 100, 32, 98] (.mk 5 0 [109, 111, 100] [tA, tB]) (by subst eA eB eC; decide) (by subst eA eB eC; simp [Tm.strs, strss])) ?_
 rw [show writesB (.mk 5 0 [109, 111, 100] [tA, tB]) [97, 32, 109, 111, 100, 32, 98] = true by subst eA eB eC; exact e11]
 simp -implicitDefEqProofs only [go_sem, bC, Nat.reduceAdd]
 refine bS (args' := [.str [58, 45], .sl 4 (([tA, tB] : List Tm).map enc)]) ⟨Wd.rfl _, Wd.fz ⟨Wd.rfl _, Wd.rfl _, trivial⟩, trivial⟩ (aC hC (h31 [58, 45] [tA, tB]) ?_)
 simp -implicitDefEqProofs only [go_sem, Nat.reduceAdd]
 refine bS (args' := [.str [58, 45], .sl 4 (([(.mk 5 0 [58, 45] [tA, tB])] : List Tm).map enc)]) ⟨Wd.rfl _, Wd.fz ⟨Wd.rfl _, trivial⟩, trivial⟩ (aC hC (h31 [58, 45] [(.mk 5 0 [58, 45] [tA, tB])]) ?_)
 simp -implicitDefEqProofs only [go_sem]
 refine aC hC (h55 hG [58, 45, 32, 40, 97, 58, 45, 98, 41] (.mk 5 0 [58, 45] [(.mk 5 0 [58, 45] [tA, tB])]) (by subst eA eB eC; decide) (by subst eA eB eC; simp [Tm.strs, strss])) ?_
 rw [show writesB (.mk 5 0 [58, 45] [(.mk 5 0 [58, 45] [tA, tB])]) [58, 45, 32, 40, 97, 58, 45, 98, 41] = true by subst eA eB eC; exact e12]
 simp -implicitDefEqProofs only [go_sem]
 refine aC hC (h53 7) ?_
 simp -implicitDefEqProofs only [go_sem]
 refine aC hC (h30 [43]) ?_
 simp -implicitDefEqProofs only [go_sem, Nat.reduceAdd]
 refine bS (args' := [.str [102], .sl 4 (([(.mk 3 0 [43] []), (.mk 4 0 [97, 10] [])] : List Tm).map enc)]) ⟨Wd.rfl _, Wd.fz ⟨Wd.rfl _, fH, trivial⟩, trivial⟩ (aC hC (h31 [102] [(.mk 3 0 [43] []), (.mk 4 0 [97, 10] [])]) ?_)
 simp -implicitDefEqProofs only [go_sem, Nat.reduceAdd]
 refine bS (args' := [.str [61], .sl 4 (([(.mk 1 7 [] []), (.mk 5 0 [102] [(.mk 3 0 [43] []), (.mk 4 0 [97, 10] [])])] : List Tm).map enc)]) ⟨Wd.rfl _, Wd.fz ⟨Wd.rfl _, Wd.rfl _, trivial⟩, trivial⟩ (aC hC (h31 [61] [(.mk 1 7 [] []), (.mk 5 0 [102] [(.mk 3 0 [43] []), (.mk 4 0 [97, 10] [])])]) ?_)
 simp -implicitDefEqProofs only [go_sem]
 refine aC hC (h55 hG [72, 61, 102, 40, 39, 43, 39, 44, 34, 97, 92, 110, 34, 41] (.mk 5 0 [61] [(.mk 1 7 [] []), (.mk 5 0 [102] [(.mk 3 0 [43] []), (.mk 4 0 [97, 10] [])])]) (by subst eA eB eC; decide) (by subst eA eB eC; simp [Tm.strs, strss])) ?_
 rw [show writesB (.mk 5 0 [61] [(.mk 1 7 [] []), (.mk 5 0 [102] [(.mk 3 0 [43] []), (.mk 4 0 [97, 10] [])])]) [72, 61, 102, 40, 39, 43, 39, 44, 34, 97, 92, 110, 34, 41] = true by subst eA eB eC; exact e13]
 simp -implicitDefEqProofs only [go_sem]
 exact aR (bM _) rfl
end Go.Rip
