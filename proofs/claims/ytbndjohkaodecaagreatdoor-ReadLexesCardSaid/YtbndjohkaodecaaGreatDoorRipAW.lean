/- What is thrown is caught: read.try. -/
import Derived.Test.YtbndjohkaodecaaGreatDoorRipAV
import Derived.Test.YtbndjohkaodecaaGreatDoorRipAK
namespace Go.Rip
open Go Go.Proofs
set_option maxRecDepth 100000
variable {GL : Glob}
def da56 : List ACode := [.region [E1 2 (.alloc 3 [.v (.int .i64 0)]), E1 3 (.alloc 24 [.v (.int .i64 0)])]]
def de56 : List AEnt := [E1 4 (.mkFunc 94 [] [T2, T3])]
def c56 : ACode := RG [MV 5 T0, E1 6 (.callV T5 [])] (RG [E0 (.store 1 T2 (CI 0)), E0 (.store 1 T3 (CI 0))] .ret)
def r56 : List ARet := [.cell 2 false 1, .cell 3 false 1]
def c94 : ACode := .block 0 (RG [E1 7 (.bin .eql .nil T5 (.c (.v .nilIface)))] (.cond T7 (.region [MV 2 T5]) (RG [E1 8 (.tyAssert 123 (.agg [.v (.int .i64 0), .v (.int .i64 0)]) true T5), E1 9 (.extract T8 1), E1 10 (.extract T8 0)] (.cond T9
 (.seq (.region [E1 3 (.alloc 123 [.v (.int .i64 0), .v (.int .i64 0)]), E0 (.store 2 T3 T10)]) (.region [E1 11 (FA 1 T3), E1 12 (LD T11), E1 13 (FA 0 T3), E1 14 (LD T13), E0 (.store 1 T0 T12), E0 (.chk (some 14) (LD T13)), E0 (.store 1 T1 T14)]))
 (RG [MV 4 T5] (.region [MV 6 T4, E0 (.panic T6)]))))))
theorem D56 : mkD Tryz.prog 56 = some ⟨da56, de56, 4, c56, r56, 7⟩ := by kernel_rfl
theorem K94 : mkK Tryz.prog 94 = some (5, 5, c94, 15) := by kernel_rfl
attribute [local irreducible] Pure
theorem mM {C : Calling} {m : Nat} {c : ACode} {Q : Post} {Pn : AV -> List AObj -> Prop} {τ : List (Nat × AV)} {h : List AObj} (g : wpA GL C m c (pst GL C m Pn [] Q) Pn τ h) : wpA GL C m c Q Pn τ h := g
theorem rec_wrong {k m : Nat} {e n : Int} {H : List AObj} {τ : List (Nat × AV)} {R : ARes -> List AObj -> Prop} (hm : m <= H.length) (c0 : H[k]? = some (.cells 3 [.i 0])) (c1 : H[k + 1]? = some (.cells 24 [.i 0]))
  (t2 : tget τ 2 = .ref k 0) (t3 : tget τ 3 = .ref (k + 1) 0) (hR : ∀ h', m <= h'.length -> (∀ i o, H[i]? = some o -> i ≠ k -> i ≠ k + 1 -> h'[i]? = some o) -> R (.val (.tup [.i n, .i e])) h') :
  bodyRec GL (AC Tryz.prog GL) c94 5 5 (wrongV e n) [.ref k 0, .ref (k + 1) 0] H (finD GL m r56 τ R) := by
 unfold bodyRec
 refine mM ?_
 have c0_g := fun l => aF (l := l) c0
 have c0_s := fun o l => aG (l := l) c0 o
 have c0_e := fun o l => aD (o := o) (l := l) c0
 have c0_h := fun o => aH (o := o) c0
 have c1_g := fun l => aF (l := l) c1
 have c1_s := fun o l => aG (l := l) c1 o
 have c1_e := fun o l => aD (o := o) (l := l) c1
 have c1_h := fun o => aH (o := o) c1
 have l0 := aL c0
 have l1 := aL c1
 have hne : k ≠ k + 1 := by omega
 have f1 : ∀ X l, (H.set k X ++ l)[k + 1]? = some (.cells 24 [.i 0]) := fun X l => aF (by rw [aE hne]; exact c1)
 have f2 : ∀ X Y l, (H.set k X ++ l).set (k + 1) Y = (H.set k X).set (k + 1) Y ++ l := fun X Y l => cH (by simpa using l1)
 have f3 : ∀ X Y l, ((H.set k X).set (k + 1) Y ++ l)[H.length]? = l[0]? := fun X Y l => by rw [List.getElem?_append_right (by simp)]; simp
 have f4 : ∀ X l, (H.set k X ++ l)[H.length]? = l[0]? := fun X l => by rw [List.getElem?_append_right (by simp)]; simp
 simp -implicitDefEqProofs only [go_sem, c94, wrongV, c0_g, c0_s, f1, f2, f4]
 have g0 : ∀ X Y l, ((H.set k X).set (k + 1) Y ++ l)[k]? = some X := fun X Y l => aF (by rw [aE (by omega), List.getElem?_set_self l0])
 have g1 : ∀ X Y l, ((H.set k X).set (k + 1) Y ++ l)[k + 1]? = some Y := fun X Y l => aF (by rw [List.getElem?_set_self (by simpa using l1)])
 refine ⟨_, _, Wk.refl (by simp), ?_⟩
 have er : ∀ l', retA τ ((H.set k (.cells 3 [.i n])).set (k + 1) (.cells 24 [.i e]) ++ l') r56 = some (.tup [.i n, .i e]) := fun l' => by simp -implicitDefEqProofs only [go_sem, r56, t2, t3, g0, g1]
 simp only [finD, er]
 exact ⟨_, _, Wk.refl (by simp; omega), hR _ (by simp; omega) fun i o hi n1 n2 => aF (by rw [aE (Ne.symm n2), aE (Ne.symm n1)]; exact hi)⟩
theorem rec_nil {k m : Nat} {H : List AObj} {τ : List (Nat × AV)} {R : ARes -> List AObj -> Prop} (hm : m <= H.length) (c0 : H[k]? = some (.cells 3 [.i 0])) (c1 : H[k + 1]? = some (.cells 24 [.i 0]))
  (t2 : tget τ 2 = .ref k 0) (t3 : tget τ 3 = .ref (k + 1) 0) (hR : R (.val (.tup [.i 0, .i 0])) H) :
  bodyRec GL (AC Tryz.prog GL) c94 5 5 (.v .nilIface) [.ref k 0, .ref (k + 1) 0] H (finD GL m r56 τ R) := by
 unfold bodyRec
 refine mM ?_
 simp -implicitDefEqProofs only [go_sem, c94]
 have er : retA τ H r56 = some (.tup [.i 0, .i 0]) := by simp -implicitDefEqProofs only [go_sem, r56, t2, t3, c0, c1]
 refine ⟨_, _, Wk.refl (Nat.le_refl _), ?_⟩
 simp only [finD, er]
 exact ⟨_, _, Wk.refl hm, hR⟩
theorem h56b {g : FuncId} {caps : List AV} {h : List AObj} {Bad : Int -> Int -> List AObj -> Prop} {Ok : List AObj -> Prop}
  (hst : ∀ e n h' h'', Bad e n h' -> (∀ i o, h'[i]? = some o -> i ≠ h.length -> i ≠ h.length + 1 -> h''[i]? = some o) -> Bad e n h'')
  (hc : AC Tryz.prog GL (.fn g) caps (h ++ [.cells 3 [.i 0], .cells 24 [.i 0]]) fun x h' => h'[h.length]? = some (.cells 3 [.i 0]) /\ h'[h.length + 1]? = some (.cells 24 [.i 0]) /\ ((∃ e n, x = .panic (wrongV e n) /\ Bad e n h') ∨ ((∃ v, x = .val v) /\ Ok h'))) :
  AC Tryz.prog GL (.fn 56) [.fn (.func g) [] caps] h fun x h' => h.length <= h'.length /\ ((∃ e n, x = .val (.tup [.i n, .i e]) /\ Bad e n h') ∨ (x = .val (.tup [.i 0, .i 0]) /\ Ok h')) := by
 refine mkD_ok Tryz.prog GL 56 _ D56 _ _ _ (by simp) ?_
 simp only [bodyDefer, da56, de56, wpPre]
 refine mM ?_
 simp -implicitDefEqProofs only [go_sem]
 simp only [kseq, K94]
 refine ⟨by simp, ?_⟩
 unfold bodyBehind
 refine mM ?_
 simp -implicitDefEqProofs only [go_sem, c56, List.append_assoc, List.cons_append, List.nil_append]
 refine aJ hC hc fun x h' ⟨q0, q1, hx⟩ => ?_
 have hl := aL q1
 rcases hx with ⟨e, n, rfl, hb⟩ | ⟨⟨v, rfl⟩, hok⟩
 ·simp -implicitDefEqProofs only [go_sem]
  exact rec_wrong (by omega) q0 q1 (by simp [go_sem]) (by simp [go_sem]) fun h'' hm hs => ⟨hm, .inl ⟨e, n, rfl, hst _ _ _ _ hb hs⟩⟩
 ·have s0 := nO q0
  have s1 := nO q1
  simp -implicitDefEqProofs only [go_sem, q0, q1, s0, s1]
  exact rec_nil (by omega) q0 q1 (by simp [go_sem]) (by simp [go_sem]) ⟨by omega, .inr ⟨rfl, hok⟩⟩
theorem h56 {g : FuncId} {caps : List AV} {h : List AObj} {Bad : Int -> Int -> Prop} {Ok : List AObj -> Prop}
  (hc : AC Tryz.prog GL (.fn g) caps (h ++ [.cells 3 [.i 0], .cells 24 [.i 0]]) fun x h' => h'[h.length]? = some (.cells 3 [.i 0]) /\ h'[h.length + 1]? = some (.cells 24 [.i 0]) /\ ((∃ e n, x = .panic (wrongV e n) /\ Bad e n) ∨ ((∃ v, x = .val v) /\ Ok h'))) :
  AC Tryz.prog GL (.fn 56) [.fn (.func g) [] caps] h fun x h' => h.length <= h'.length /\ ((∃ e n, x = .val (.tup [.i n, .i e]) /\ Bad e n) ∨ (x = .val (.tup [.i 0, .i 0]) /\ Ok h')) :=
 h56b (Bad := fun e n _ => Bad e n) (fun _ _ _ _ hb _ => hb) hc
end Go.Rip
