/- How terms are written: lexemes. -/
import Derived.Test.YtbndjohkaodecaaGreatDoorRipBB
import Derived.Test.YtbndjohkaodecaaGreatDoorRipAZ
import Derived.Test.YtbndjohkaodecaaGreatDoorRipBC
import Derived.Test.YtbndjohkaodecaaGreatDoorRipBA
import Derived.Test.YtbndjohkaodecaaGreatDoorRipAK
namespace Go.Rip
open Go Go.Proofs
set_option maxRecDepth 100000
variable {GL : Glob}
attribute [local irreducible] Pure
theorem bM (b : Bool) : bd 0 (.b b) := by simp [bd]
theorem dU (s : Str) : bd 0 (.str s) := by simp [bd]
theorem lexS_ok {l : Str} {ls : List Lx} (h : lexOut l = .ok ls) : lexS l = some ls := by
 unfold lexOut at h
 unfold lexS
 split at h
 ·cases h
 ·rename_i h1
  rw [if_neg h1]
  cases hz : lexL l 0 with
  | error e => rw [hz] at h; cases h
  | ok r =>
   rw [hz] at h
   simp only at h ⊢
   split at h
   ·cases h
   ·rename_i h2
    rw [if_neg h2]
    cases h; rfl
theorem sL {l : Str} {e : Int × Int} (h : lexOut l = .error e) : lexS l = none := by
 unfold lexOut at h
 unfold lexS
 split at h
 ·rename_i h1
  rw [if_pos h1]
 ·rename_i h1
  rw [if_neg h1]
  cases hz : lexL l 0 with
  | error e => rfl
  | ok r =>
   rw [hz] at h
   simp only at h ⊢
   split at h
   ·rename_i h2
    rw [if_pos h2]
   ·cases h
theorem h161 (t : Tm) : Pure (PC GL) 161 [enc t] (.b (isCell t)) := by
 refine aN (by simp [go_sem]) (by simp [go_sem]) ?_
 refine k161.call (by simp) ?_
 unfold isCell
 rcases hA : (t.kind == 5) with _ | _
 ·simp -implicitDefEqProofs only [go_sem, c161, r161, hA]
  exact aR (bM _) rfl
 rcases hB : (t.s == [46]) with _ | _
 ·simp -implicitDefEqProofs only [go_sem, c161, r161, hA, hB]
  exact aR (bM _) rfl
 ·have e : ((t.l.length : Int) == 2) = (t.l.length == 2) := by rw [Bool.eq_iff_iff]; simp; omega
  simp -implicitDefEqProofs only [go_sem, c161, r161, hA, hB, List.length_map, e]
  exact aR (bM _) (by simp)
theorem h120 (hG : GLok GL) (s : Str) : Pure (PC GL) 120 [.str s] (.b (bareB s)) := by
 refine aN (by simp [go_sem]) (by simp [go_sem]) ?_
 refine k120.call (by simp) ?_
 simp -implicitDefEqProofs only [go_sem, c120, r120]
 refine aC hC (h18 hG s) ?_
 unfold lexV bareB
 rcases hz : lexOut s with ⟨e, n⟩ | ls
 ·have he := fW hz
  have d1 : (e == 0) = false := by simpa using he
  rw [sL hz]
  simp -implicitDefEqProofs only [go_sem, d1]
  exact aR (bM _) rfl
 ·rw [lexS_ok hz]
  have d0 : ((0 : Int) == 0) = true := rfl
  have z0 : ∀ n : Nat, (((0 : Nat) : Int) == ((n + 1 : Nat) : Int)) = false := fun n => by simp; omega
  have z1 : (((0 : Nat) : Int) == 1) = false := rfl
  have z2 : (((0 : Nat) : Int) == 2) = false := rfl
  have z3 : (((1 : Nat) : Int) == 2) = false := rfl
  have z4 : (((1 : Nat) : Int) == 1) = true := rfl
  have z5 : (((2 : Nat) : Int) == 2) = true := rfl
  rcases ls with _ | ⟨x, _ | ⟨y, r⟩⟩
  ·simp -implicitDefEqProofs only [go_sem, d0, z1]
   exact aR (bM _) rfl
  ·rcases hK : (x.kind == 1) with _ | _
   ·repeat' (first | simp -implicitDefEqProofs only [go_sem, d0, z4, encLx, hK, Int.reduceToNat, List.getD_cons_zero] | (with_reducible refine And.intro (by unfold bounds; decide) ?_))
    exact aR (bM _) rfl
   ·repeat' (first | simp -implicitDefEqProofs only [go_sem, d0, z4, encLx, hK, Int.reduceToNat, List.getD_cons_zero] | (with_reducible refine And.intro (by unfold bounds; decide) ?_))
    exact aR (bM _) rfl
  ·have d2 : (((r.length + 1 + 1 : Nat) : Int) == 1) = false := by simp; omega
   simp -implicitDefEqProofs only [go_sem, d0, List.length_map, List.length_cons, d2]
   exact aR (bM _) rfl
theorem h162 (hG : GLok GL) (a b : Str) (ha : a.length < 2 ^ 40) (hb : b.length < 2 ^ 40) : Pure (PC GL) 162 [.str a, .str b] (.b (apartB a b)) := by
 refine aN (by simp [go_sem]) (by simp [go_sem]) ?_
 refine k162.call (by simp) ?_
 have b62 : (a.length + b.length).ble (2 ^ 62) = true := by rw [Nat.ble_eq]; omega
 simp -implicitDefEqProofs only [go_sem, c162, r162, b62]
 refine aC hC (h18 hG (a ++ b)) ?_
 unfold lexV apartB
 rcases hz : lexOut (a ++ b) with ⟨e, n⟩ | ls
 ·have he := fW hz
  have d1 : (e == 0) = false := by simpa using he
  rw [sL hz]
  simp -implicitDefEqProofs only [go_sem, d1]
  exact aR (bM _) rfl
 ·rw [lexS_ok hz]
  have d0 : ((0 : Int) == 0) = true := rfl
  have z0 : ∀ n : Nat, (((0 : Nat) : Int) == ((n + 1 : Nat) : Int)) = false := fun n => by simp; omega
  have z1 : (((0 : Nat) : Int) == 1) = false := rfl
  have z2 : (((0 : Nat) : Int) == 2) = false := rfl
  have z3 : (((1 : Nat) : Int) == 2) = false := rfl
  have z4 : (((1 : Nat) : Int) == 1) = true := rfl
  have z5 : (((2 : Nat) : Int) == 2) = true := rfl
  rcases ls with _ | ⟨x, _ | ⟨y, _ | ⟨z, r⟩⟩⟩
  ·simp -implicitDefEqProofs only [go_sem, d0, z2]
   exact aR (bM _) rfl
  ·simp -implicitDefEqProofs only [go_sem, d0, z3]
   exact aR (bM _) rfl
  ·have e1 : ((x.e : Int) == (a.length : Int)) = (x.e == a.length) := by rw [Bool.eq_iff_iff]; simp; omega
   rcases hK : (x.e == a.length) with _ | _
   ·rw [hK] at e1
    repeat' (first | simp -implicitDefEqProofs only [go_sem, d0, z5, encLx, e1, Int.reduceToNat, Nat.reduceAdd, List.getD_cons_zero] | (with_reducible refine And.intro (by unfold bounds; decide) ?_))
    exact aR (bM _) (by rw [hK]; rfl)
   ·rw [hK] at e1
    repeat' (first | simp -implicitDefEqProofs only [go_sem, d0, z5, encLx, e1, Int.reduceToNat, Nat.reduceAdd, List.getD_cons_zero, List.getD_cons_succ] | (with_reducible refine And.intro (by unfold bounds; decide) ?_))
    exact aR (bM _) (by rw [hK, Bool.true_and])
  ·have d2 : (((r.length + 1 + 1 + 1 : Nat) : Int) == 2) = false := by simp; omega
   simp -implicitDefEqProofs only [go_sem, d0, List.length_map, List.length_cons, d2]
   exact aR (bM _) rfl
theorem escC_len {q : UInt8} {other : UInt8 -> Str} (ho : ∀ c, (other c).length <= 4) (c : UInt8) : (escC q other c).length <= 4 := by
 unfold escC
 split
 ·simp
 ·split
  ·simp
  ·exact ho c
theorem lE {q : UInt8} {other : UInt8 -> Str} (ho : ∀ c, (other c).length <= 4) : ∀ s : Str, (s.flatMap (escC q other)).length <= 4 * s.length
 | [] => by simp
 | c :: r => by
  have := lE (q := q) ho r
  have := escC_len (q := q) ho c
  simp only [List.flatMap_cons, List.length_append, List.length_cons]
  omega
theorem vC {q : UInt8} {other : UInt8 -> Str} {s : Str} {j : Nat} (hj : j < s.length) : (s.take (j + 1)).flatMap (escC q other) = (s.take j).flatMap (escC q other) ++ escC q other (s.getD j 0) := by
 rw [List.take_succ_eq_append_getElem hj, List.flatMap_append, List.getD_eq_getElem?_getD, List.getElem?_eq_getElem hj]
 simp
theorem h121 {o : FuncId} {other : UInt8 -> Str} (hc : ∀ c, Pure (PC GL) o [.u c] (.str (other c))) (ho : ∀ c, (other c).length <= 4) (s : Str) (q : UInt8) (hs : s.length < 2 ^ 30) : Pure (PC GL) 121 [.str s, .u q, .fn (.func o) [] []] (.str (escL q other s)) := by
 refine aN (by simp [go_sem]) (by simp [go_sem]) ?_
 refine k121.call (by simp) ?_
 have bd0 : BdAt 102 [] [] 0 [.cells 102 [.v (.pointer none), .v (.slice none 0 0)]] := ⟨_, _, rfl, .inl rfl, .inl ⟨rfl, rfl⟩⟩
 have b92 : ∀ c : UInt8, ((c.toNat : Int) == 92) = (c == 92) := fun c => bJ c 92
 have bq : ∀ c : UInt8, ((c.toNat : Int) == (q.toNat : Int)) = (c == q) := fun c => bJ c q
 simp -implicitDefEqProofs only [go_sem, c121, r121]
 refine aI hC (h80 q eD (by simp) bd0) fun x h1 ⟨_, b1⟩ => ?_
 simp -implicitDefEqProofs only [go_sem]
 refine cK hC (fun j (_ : Unit) => [(0, .str s), (1, .u q), (2, .fn (.func o) [] []), (7, .ref 0 0), (13, .i s.length), (14, .i (j : Nat))]) (fun j _ h' => j <= s.length /\ BdAt 102 [] (q :: (s.take j).flatMap (escC q other)) 0 h') s.length ⟨(), _, Wk.pick (by simp) (by simp [go_sem]), by simp, by simpa using b1⟩ fun j _ h2 hj ⟨p1, p2⟩ => ?_
 have fl := lE (q := q) ho (s.take j)
 simp only [List.length_take] at fl
 have fl2 : (q :: (s.take j).flatMap (escC q other)).length < 2 ^ 40 := by simp only [List.length_cons]; omega
 by_cases hlt : j < s.length
 ·have d1 : decide ((j : Int) < (s.length : Int)) = true := decide_eq_true (by omega)
  have w1 : IntKind.i64.wrap ((j : Int) + 1) = ((j + 1 : Nat) : Int) := by rw [aK _ (by omega)]; simp
  have hsn := vC (q := q) (other := other) hlt
  have nxt : ∀ l, escC q other (s.getD j 0) = l -> ∀ h', BdAt 102 [] ((q :: (s.take j).flatMap (escC q other)) ++ l) 0 h' -> BdAt 102 [] (q :: (s.take (j + 1)).flatMap (escC q other)) 0 h' := fun l e h' hb => by
   rw [hsn, e]; exact hb
  simp -implicitDefEqProofs only [go_sem, d1, Int.toNat_natCast, hlt, bq]
  rcases hA : (s.getD j 0 == q) with _ | _
  rotate_left
  ·have hAB : (s.getD j 0 == q || s.getD j 0 == 92) = true := by rw [hA]; rfl
   simp -implicitDefEqProofs only [go_sem]
   refine aI hC (h80 92 eD fl2 p2) fun x h3 ⟨_, b3⟩ => ?_
   simp -implicitDefEqProofs only [go_sem]
   refine aI hC (h80 (s.getD j 0) eD (by simp only [List.length_append, List.length_cons, List.length_nil]; omega) b3) fun x h4 ⟨_, b4⟩ => ?_
   simp -implicitDefEqProofs only [go_sem, w1]
   exact ⟨by omega, _, Wk.pick (by simp) (by simp [go_sem]), by omega, nxt [92, s.getD j 0] (by unfold escC; rw [hAB, if_pos rfl]) _ (by simpa only [List.append_assoc, List.cons_append, List.nil_append] using b4)⟩
  rcases hB : (s.getD j 0 == 92) with _ | _
  rotate_left
  ·have hAB : (s.getD j 0 == q || s.getD j 0 == 92) = true := by rw [hA, hB]; rfl
   simp -implicitDefEqProofs only [go_sem, b92, hB]
   refine aI hC (h80 92 eD fl2 p2) fun x h3 ⟨_, b3⟩ => ?_
   simp -implicitDefEqProofs only [go_sem]
   refine aI hC (h80 (s.getD j 0) eD (by simp only [List.length_append, List.length_cons, List.length_nil]; omega) b3) fun x h4 ⟨_, b4⟩ => ?_
   simp -implicitDefEqProofs only [go_sem, w1]
   exact ⟨by omega, _, Wk.pick (by simp) (by simp [go_sem]), by omega, nxt [92, s.getD j 0] (by unfold escC; rw [hAB, if_pos rfl]) _ (by simpa only [List.append_assoc, List.cons_append, List.nil_append] using b4)⟩
  have hAB : (s.getD j 0 == q || s.getD j 0 == 92) = false := by rw [hA, hB]; rfl
  simp -implicitDefEqProofs only [go_sem, b92, hB]
  refine aC hC (h170 _) ?_
  rcases hP : isPlain (s.getD j 0) with _ | _
  ·simp -implicitDefEqProofs only [go_sem]
   refine aC hC (hc _) ?_
   simp -implicitDefEqProofs only [go_sem]
   refine aI hC (h78 (other (s.getD j 0)) eD fl2 (by have := ho (s.getD j 0); omega) p2) fun x h3 ⟨_, b3⟩ => ?_
   simp -implicitDefEqProofs only [go_sem, w1]
   exact ⟨by omega, _, Wk.pick (by simp) (by simp [go_sem]), by omega, nxt (other (s.getD j 0)) (by unfold escC; rw [hAB, hP]; rfl) _ b3⟩
  ·simp -implicitDefEqProofs only [go_sem]
   refine aI hC (h80 (s.getD j 0) eD fl2 p2) fun x h3 ⟨_, b3⟩ => ?_
   simp -implicitDefEqProofs only [go_sem, w1]
   exact ⟨by omega, _, Wk.pick (by simp) (by simp [go_sem]), by omega, nxt [s.getD j 0] (by unfold escC; rw [hAB, hP]; rfl) _ b3⟩
 ·have d1 : decide ((j : Int) < (s.length : Int)) = false := decide_eq_false (by omega)
  have e : s.take j = s := List.take_of_length_le (by omega)
  rw [e] at p2 fl2
  simp -implicitDefEqProofs only [go_sem, d1]
  refine aI hC (h80 q eD fl2 p2) fun x h3 ⟨_, b3⟩ => ?_
  simp -implicitDefEqProofs only [go_sem]
  obtain ⟨p, v, g1, g2, g3⟩ := b3
  refine aJ hC (h79 g1 g3) fun x h4 ⟨e1, _⟩ => ?_
  subst e1
  simp -implicitDefEqProofs only [go_sem]
  exact aR (dU _) (by simp [escL])
theorem h122 (c : UInt8) : Pure (PC GL) 122 [.u c] (.str []) := by
 refine aN (by simp [go_sem]) (by simp [go_sem]) ?_
 refine k122.call (by simp) ?_
 simp -implicitDefEqProofs only [go_sem, c122, r122]
 exact aR (dU _) rfl
theorem h204 (c : UInt8) : Pure (PC GL) 204 [.u c] (.str []) := by
 refine aN (by simp [go_sem]) (by simp [go_sem]) ?_
 refine k204.call (by simp) ?_
 simp -implicitDefEqProofs only [go_sem, c204, r204]
 exact aR (dU _) rfl
def otherT (c : UInt8) : Str := if c == 10 then [92, 110] else [92, 120, hexD (c.toNat / 16), hexD (c.toNat % 16)]
theorem hex_enc : ∀ i, i < 16 -> (Utf8.encode ((([48, 49, 50, 51, 52, 53, 54, 55, 56, 57, 97, 98, 99, 100, 101, 102] : Str).getD i 0).toNat : Int)).data.toList = [hexD i] := by decide +kernel
theorem h203 (c : UInt8) : Pure (PC GL) 203 [.u c] (.str (otherT c)) := by
 refine aN (by simp [go_sem]) (by simp [go_sem]) ?_
 refine k203.call (by simp) ?_
 have b10 : ∀ c : UInt8, ((c.toNat : Int) == 10) = (c == 10) := fun c => bJ c 10
 unfold otherT
 rcases h10 : (c == 10) with _ | _
 ·have z16 : ((16 : Int) = 0) = False := by simp
  have hc : c.toNat < 256 := c.toNat_lt
  have e1 : IntKind.u8.wrap ((c.toNat : Int).tdiv 16) = ((c.toNat / 16 : Nat) : Int) := by
   have : (c.toNat : Int).tdiv 16 = ((c.toNat / 16 : Nat) : Int) := (Int.ofNat_tdiv c.toNat 16).symm
   rw [this]
   have := rI (UInt8.ofNat (c.toNat / 16)) 0 (by omega)
   simp only [UInt8.toNat_ofNat'] at this
   rw [Nat.mod_eq_of_lt (by omega)] at this
   simpa using this
  have e2 : (c.toNat : Int).tmod 16 = ((c.toNat % 16 : Nat) : Int) := (Int.ofNat_tmod c.toNat 16).symm
  have l1 : c.toNat / 16 < 16 := by omega
  have l2 : c.toNat % 16 < 16 := by omega
  simp -implicitDefEqProofs only [go_sem, c203, r203, b10, h10, z16, e1]
  refine ⟨⟨by omega, by simp; omega⟩, ?_⟩
  simp only [Int.toNat_natCast, hex_enc _ l1, if_false]
  have b1 : Nat.ble (2 + 1) (2 ^ 62) = true := by decide
  have b2 : Nat.ble (3 + 1) (2 ^ 62) = true := by decide
  simp -implicitDefEqProofs only [go_sem, e2, Int.toNat_natCast, List.length_singleton, b1]
  refine ⟨by omega, ?_⟩
  simp only [hex_enc _ l2]
  simp -implicitDefEqProofs only [go_sem, List.length_singleton, b2]
  exact aR (dU _) rfl
 ·simp -implicitDefEqProofs only [go_sem, c203, r203, b10, h10]
  exact aR (dU _) rfl
theorem h164 (s : Str) (hs : s.length < 2 ^ 30) : Pure (PC GL) 164 [.str s] (.str (textW s)) := by
 refine aN (by simp [go_sem]) (by simp [go_sem]) ?_
 refine k164.call (by simp) ?_
 simp -implicitDefEqProofs only [go_sem, c164, r164]
 refine aC hC (h121 h203 (fun c => by unfold otherT; split <;> simp) s 34 hs) ?_
 simp -implicitDefEqProofs only [go_sem]
 exact aR (dU _) rfl
theorem h167 (hG : GLok GL) (s : Str) (hs : s.length < 2 ^ 30) : Pure (PC GL) 167 [.str s] (.str (functorW s)) := by
 refine aN (by simp [go_sem]) (by simp [go_sem]) ?_
 refine k167.call (by simp) ?_
 simp -implicitDefEqProofs only [go_sem, c167, r167]
 refine aC hC (h120 hG s) ?_
 unfold functorW
 rcases hB : bareB s with _ | _
 ·simp -implicitDefEqProofs only [go_sem]
  refine aC hC (h121 h204 (by simp) s 39 hs) ?_
  simp -implicitDefEqProofs only [go_sem]
  exact aR (dU _) rfl
 ·simp -implicitDefEqProofs only [go_sem]
  exact aR (dU _) rfl
def atomV (s : Str) : AV := if s == [91, 93] then .sl 1 [.str [91], .str [93]] else .sl 1 [.str (if (infixO s).isSome || (prefixO s).isSome || !bareB s then quoteW s else s)]
theorem h84 (hG : GLok GL) (s : Str) (hs : s.length < 2 ^ 30) : Pure (PC GL) 84 [.str s] (atomV s) := by
 refine aN (by simp [go_sem]) (by unfold atomV; split <;> simp [go_sem]) ?_
 refine k84.call (by simp) ?_
 unfold atomV
 rcases hN : (s == [91, 93]) with _ | _
 ·simp -implicitDefEqProofs only [go_sem, c84, r84, hN]
  refine aC hC (h119 s) ?_
  rcases hO : ((infixO s).isSome || (prefixO s).isSome) with _ | _
  ·simp -implicitDefEqProofs only [go_sem]
   refine aC hC (h120 hG s) ?_
   rcases hB : bareB s with _ | _
   ·simp -implicitDefEqProofs only [go_sem]
    refine aC hC (h121 h122 (by simp) s 39 hs) ?_
    simp -implicitDefEqProofs only [go_sem]
    exact aO (by simp [wkr, quoteW]) (by simp [go_sem])
   ·simp -implicitDefEqProofs only [go_sem]
    exact aO (by simp [wkr]) (by simp [go_sem])
  ·simp -implicitDefEqProofs only [go_sem]
   refine aC hC (h121 h122 (by simp) s 39 hs) ?_
   simp -implicitDefEqProofs only [go_sem]
   exact aO (by simp [wkr, quoteW]) (by simp [go_sem])
 ·simp -implicitDefEqProofs only [go_sem, c84, r84, hN]
  exact aO (by simp [wkr]) (by simp [go_sem])
theorem digF_eq : ∀ (f n : Nat), n < f -> digF f n = Go.Lib.decDigits n
 | 0, n, h => by omega
 | f + 1, n, h => by
  rw [digF, Go.Lib.decDigits]
  split
  ·rfl
  ·rw [digF_eq f (n / 10) (by omega)]
theorem rB (n : Nat) : dig n = Go.Lib.decDigits n := digF_eq _ _ (Nat.lt_succ_self n)
theorem nJ {n : Int} (h : 0 <= n) : Go.Lib.itoa n = dig n.toNat := by rw [Go.Lib.itoa, if_neg (by omega), rB]
theorem kH : ∀ (k n : Nat), n < 10 ^ (k + 1) -> (dig n).length <= k + 1
 | 0, n, h => by
  rw [rB, Go.Lib.decDigits, dif_pos (by simpa using h)]
  simp
 | k + 1, n, h => by
  rw [rB, Go.Lib.decDigits]
  split
  ·simp
  ·have := kH k (n / 10) (by rw [Nat.pow_succ] at h; omega)
   rw [rB] at this
   simp only [List.length_append, List.length_cons, List.length_nil]
   omega
theorem enc65 : ∀ i, i < 26 -> (Utf8.encode ((65 + i : Nat) : Int)).data.toList = [UInt8.ofNat (65 + i)] := by decide +kernel
theorem h68 (hG : GLok GL) (n : Int) (h0 : 0 <= n) (h1 : n < 2 ^ 40) : Pure (PC GL) 68 [.i n] (.str (varN n)) := by
 refine aN (by simp [go_sem]) (by simp [go_sem]) ?_
 refine k68.call (by simp) ?_
 obtain ⟨m, rfl⟩ : ∃ m : Nat, n = m := ⟨n.toNat, by omega⟩
 have z26 : ((26 : Int) = 0) = False := by simp
 have e1 : (m : Int).tmod 26 = ((m % 26 : Nat) : Int) := (Int.ofNat_tmod m 26).symm
 have e2 : (m : Int).tdiv 26 = ((m / 26 : Nat) : Int) := (Int.ofNat_tdiv m 26).symm
 have w1 : IntKind.i64.wrap (65 + ((m % 26 : Nat) : Int)) = ((65 + m % 26 : Nat) : Int) := by rw [aK _ (by omega)]; omega
 have w2 : IntKind.i32.wrap ((65 + m % 26 : Nat) : Int) = ((65 + m % 26 : Nat) : Int) := by simp [IntKind.wrap, IntKind.bits, IntKind.signed]; omega
 have w3 : IntKind.i64.wrap ((m / 26 : Nat) : Int) = ((m / 26 : Nat) : Int) := aK _ (by omega)
 have g := enc65 (m % 26) (by omega)
 unfold varN
 rw [Int.toNat_natCast]
 by_cases h26 : 26 <= m
 ·have d1 : decide ((m : Int) >= 26) = true := decide_eq_true (by omega)
  have p := h107 hG ((m / 26 : Nat) : Int) (by omega) (by omega)
  rw [nJ (by omega), Int.toNat_natCast] at p
  have b1 : Nat.ble (1 + (dig (m / 26)).length) (2 ^ 62) = true := by
   rw [Nat.ble_eq]
   have := kH 12 (m / 26) (by omega)
   omega
  rw [if_pos (by omega : (m : Int) >= 26)]
  simp -implicitDefEqProofs only [go_sem, c68, r68, z26, if_false, e1, w1, w2, g, d1, e2, w3]
  refine aC hC p ?_
  simp -implicitDefEqProofs only [go_sem, List.length_singleton, b1]
  exact aR (dU _) rfl
 ·have d1 : decide ((m : Int) >= 26) = false := decide_eq_false (by omega)
  rw [if_neg (by omega : ¬ (m : Int) >= 26)]
  simp -implicitDefEqProofs only [go_sem, c68, r68, z26, if_false, e1, w1, w2, g, d1]
  exact aR (dU _) rfl
theorem jP : BdT 105 6 := by unfold BdT; kernel_rfl
def WrAt (w : Ws) (nv : AV) (pl : Bool) (k : Nat) (h : List AObj) : Prop := BdAt 105 [.str w.last, nv, .b pl, .b w.before] w.b k h
theorem WrAt.get {w : Ws} {nv : AV} {pl : Bool} {k : Nat} {h : List AObj} (hw : WrAt w nv pl k h) : ∃ p v, h[k]? = some (.cells 105 [p, v, .str w.last, nv, .b pl, .b w.before]) /\ (p = .v (.pointer none) ∨ p = .ref k 0) /\ BdV w.b v h := hw
theorem bdv_app {bs : Str} {v : AV} {h : List AObj} (hv : BdV bs v h) (l : List AObj) : BdV bs v (h ++ l) := hv.imp id fun ⟨a, e, ha⟩ => ⟨a, e, aM ha⟩
theorem WrAt.app {w : Ws} {nv : AV} {pl : Bool} {k : Nat} {h : List AObj} (hw : WrAt w nv pl k h) (l : List AObj) : WrAt w nv pl k (h ++ l) := by
 obtain ⟨p, v, a, b, c⟩ := hw
 exact ⟨p, v, aM a, b, bdv_app c l⟩
theorem WrAt.lt {w : Ws} {nv : AV} {pl : Bool} {k : Nat} {h : List AObj} (hw : WrAt w nv pl k h) : k < h.length := by
 obtain ⟨p, v, a, _⟩ := hw
 exact aL a
theorem pre_prio {s : Str} {o : Opr} (h : prefixO s = some o) : (o.prio > 200) ↔ s = [58, 45] := by
 unfold prefixO prefixT at h
 rw [assoc] at h
 split at h
 ·rename_i e
  cases h
  simp at e
  simp [e]
 ·rename_i e
  rw [assoc] at h
  split at h
  ·cases h
   simp at e
   simp; exact e
  ·rw [assoc] at h; cases h
theorem tV : prefixO [45] = some ⟨200, 0, 200⟩ := rfl
theorem pre_neck : prefixO [58, 45] = some ⟨1200, 0, 1199⟩ := rfl
theorem inf_dot : infixO [46] = none := by decide
def FormIs (pl : Bool) (t : Tm) (x : ARes) : Prop := match formW pl t with
 | some (o, b) => x = .val (.tup [encOp o, .b true, .b b])
 | none => ∃ o b, x = .val (.tup [encOp o, .b false, .b b])
theorem qB {pl : Bool} {x : Tm} {o : Opr} (h : signW pl x = some o) : (!pl && x.kind == 5 && x.l.length == 1) = true /\ prefixO x.s = some o := by
 unfold signW at h
 split at h
 ·rename_i hk
  refine ⟨hk, ?_⟩
  split at h
  ·split at h
   ·exact h
   ·cases h
  ·exact h
 ·cases h
theorem wB {pl : Bool} {t x : Tm} (hk : (!pl && t.kind == 5 && t.l.length == 1) = true) (hs : t.s = [45]) (hx : t.l = [x]) : signW pl t = if (x.kind != 2 && !(match formW pl x with
  | some (o, b) => b || decide (o.prio > 200)
  | none => false)) = true then some ⟨200, 0, 200⟩ else none := by
 unfold signW
 rw [if_pos hk, hs, hx]
 simp only [beq_self_eq_true, if_true, List.getD_cons_zero, tV]
 have hpl : pl = false := by
  cases pl
  ·rfl
  ·simp at hk
 have e : (x.kind != 2 && (infixW pl x).isNone && !neckB x) = (x.kind != 2 && !(match formW pl x with
   | some (o, b) => b || decide (o.prio > 200)
   | none => false)) := by
  rw [Bool.and_assoc]
  congr 1
  unfold formW
  cases hi : infixW pl x with
  | some o => rfl
  | none =>
   simp only [Option.isNone_none, Bool.true_and]
   congr 1
   cases hsg : signW pl x with
   | none =>
    simp only [Option.map_none]
    rcases hn : neckB x with _ | _
    ·rfl
    ·exfalso
     unfold neckB at hn
     simp only [Bool.and_eq_true, beq_iff_eq] at hn
     obtain ⟨⟨n1, n2⟩, n3⟩ := hn
     unfold signW at hsg
     rw [if_pos (by simp [hpl, n1, n2]), n3, pre_neck] at hsg
     simp at hsg
   | some o =>
    obtain ⟨a, b⟩ := qB hsg
    have q := pre_prio b
    simp only [Bool.and_eq_true, beq_iff_eq] at a
    obtain ⟨⟨_, a2⟩, a3⟩ := a
    simp only [Option.map_some, Bool.false_or]
    rw [Bool.eq_iff_iff]
    unfold neckB
    simp [a2, a3, q]
 rw [e]
theorem mK {pl : Bool} {t : Tm} (h : pl = true ∨ (t.kind == 5) = false ∨ isCell t = true ∨ (t.l.length ≠ 2 /\ t.l.length ≠ 1)) : formW pl t = none := by
 have hi : infixW pl t = none := by
  unfold infixW
  split
  ·rename_i hk
   simp only [Bool.and_eq_true, beq_iff_eq, Bool.not_eq_true'] at hk
   obtain ⟨⟨k1, k2⟩, k3⟩ := hk
   rcases h with h | h | h | h
   ·rw [h] at k1; cases k1
   ·simp [k2] at h
   ·unfold isCell at h
    simp only [Bool.and_eq_true, beq_iff_eq] at h
    rw [h.1.2, inf_dot]
   ·exact absurd k3 h.1
  ·rfl
 have hs : signW pl t = none := by
  unfold signW
  split
  ·rename_i hk
   simp only [Bool.and_eq_true, beq_iff_eq, Bool.not_eq_true'] at hk
   obtain ⟨⟨k1, k2⟩, k3⟩ := hk
   rcases h with h | h | h | h
   ·rw [h] at k1; cases k1
   ·simp [k2] at h
   ·unfold isCell at h
    simp only [Bool.and_eq_true, beq_iff_eq] at h
    omega
   ·exact absurd k3 h.2
  ·rfl
 unfold formW
 rw [hi, hs]; rfl
theorem form_two {t : Tm} (hK : (t.kind == 5) = true) (h2 : t.l.length = 2) : formW false t = (infixO t.s).map fun o => (o, true) := by
 have hs : signW false t = none := by
  unfold signW
  rw [if_neg (by simp [h2])]
 unfold formW infixW
 rw [if_pos (by simp [h2]; simpa using hK), hs]
 cases infixO t.s <;> rfl
theorem form_one {t : Tm} (h1 : t.l.length = 1) : formW false t = (signW false t).map fun o => (o, false) := by
 unfold formW infixW
 rw [if_neg (by simp [h1])]
theorem h114 (t : Tm) : ∀ {w : Ws} {nv : AV} {pl : Bool} {k : Nat} {h : List AObj}, WrAt w nv pl k h ->
  AC Tryz.prog GL (.fn 114) [.ref k 0, enc t] h fun x h' => Keep All h h' /\ FormIs pl t x := by
 induction t using wM with
 | _ t ih =>
  intro w nv pl k h hw
  have hw0 := hw
  obtain ⟨p, v, hk, hp, hv⟩ := hw
  have hlt := aL hk
  refine k114.call (by simp) ?_
  have nq : ∀ a b : Int, (a != b) = !(a == b) := fun _ _ => rfl
  have no : formW pl t = none -> ∀ l b, ∃ y h', Wk GL h.length [(0, .tup [.agg [.i 0, .i 0, .i 0], .b false, .b b])] (h ++ l) [(0, y)] h' /\ Keep All h h' /\ FormIs pl t (.val y) := fun e l b =>
   ⟨_, _, Wk.refl (by simp), Keep.app _ _ _, by unfold FormIs; rw [e]; exact ⟨⟨0, 0, 0⟩, b, rfl⟩⟩
  have hk_g := fun l => aF (l := l) hk
  have hk_s := fun o l => aG (l := l) hk o
  have hk_e := fun o l => aD (o := o) (l := l) hk
  have hk_h := fun o => aH (o := o) hk
  rcases pl with _ | _
  rotate_left
  ·simp -implicitDefEqProofs only [go_sem, c114, r114, aQ, aS, List.append_assoc, hk_g]
   exact no (mK (.inl rfl)) _ _
  rcases hK : (t.kind == 5) with _ | _
  ·simp -implicitDefEqProofs only [go_sem, c114, r114, aQ, aS, List.append_assoc, hk_g, nq, hK]
   exact no (mK (.inr (.inl hK))) _ _
  simp -implicitDefEqProofs only [go_sem, c114, r114, List.append_assoc, hk_g, nq, hK]
  refine aC hC (h161 t) ?_
  rcases hCl : isCell t with _ | _
  rotate_left
  ·simp -implicitDefEqProofs only [go_sem, aQ, aS]
   exact no (mK (.inr (.inr (.inl hCl)))) _ _
  have e2 : ((t.l.length : Int) == 2) = (t.l.length == 2) := by rw [Bool.eq_iff_iff]; simp; omega
  have e1 : ((t.l.length : Int) == 1) = (t.l.length == 1) := by rw [Bool.eq_iff_iff]; simp; omega
  rcases h2 : (t.l.length == 2) with _ | _
  rotate_left
  ·simp -implicitDefEqProofs only [go_sem, List.length_map, e2, h2]
   refine aC hC (h29 t.s) ?_
   have hF := form_two hK (by simpa using h2)
   rcases hI : infixO t.s with _ | o
   ·rw [hI] at hF
    simp only [opV, encOp]
    simp -implicitDefEqProofs only [go_sem, aQ, aS]
    exact no hF _ _
   ·rw [hI] at hF
    simp only [opV, encOp]
    simp -implicitDefEqProofs only [go_sem, aQ, aS]
    exact ⟨_, _, Wk.refl (by simp), Keep.app _ _ _, by unfold FormIs; rw [hF]; rfl⟩
  rcases h1 : (t.l.length == 1) with _ | _
  ·simp -implicitDefEqProofs only [go_sem, aQ, aS, List.length_map, e2, h2, e1, h1]
   exact no (mK (.inr (.inr (.inr ⟨by simpa using h2, by simpa using h1⟩)))) _ _
  obtain ⟨x, hx⟩ : ∃ x, t.l = [x] := List.length_eq_one_iff.1 (by simpa using h1)
  have hF := form_one (t := t) (by simpa using h1)
  simp -implicitDefEqProofs only [go_sem, List.length_map, e2, h2, e1, h1]
  refine aC hC (h46 t.s) ?_
  rcases hD : (t.s == [45]) with _ | _
  ·have hsw : signW false t = prefixO t.s := by
    unfold signW
    rw [if_pos (by simp [hx]; simpa using hK), hD, if_neg (by simp)]
   rw [hsw] at hF
   rcases hI : prefixO t.s with _ | o
   ·rw [hI] at hF
    simp only [opV, encOp]
    simp -implicitDefEqProofs only [go_sem, aQ, aS, hD]
    exact no hF _ _
   ·rw [hI] at hF
    simp only [opV, encOp]
    simp -implicitDefEqProofs only [go_sem, aQ, aS, hD]
    exact ⟨_, _, Wk.refl (by simp), Keep.app _ _ _, by unfold FormIs; rw [hF]; rfl⟩
  ·have hs : t.s = [45] := by simpa using hD
   have hdash := wB (pl := false) (by simp [hx]; simpa using hK) hs hx
   rw [hs, tV]
   simp only [opV, encOp]
   have q1 : (([45] : Str) == [45]) = true := rfl
   simp -implicitDefEqProofs only [go_sem, aQ, aS, List.append_assoc, q1, hx, List.map_cons, Int.reduceToNat, Nat.reduceAdd, List.getD_cons_zero]
   refine ⟨⟨by decide, by decide⟩, ?_⟩
   refine aJ hC (ih x (by rw [hx]; simp) (hw0.app _)) fun y h2 ⟨kp, hy⟩ => ?_
   have kp0 : Keep All h h2 := (Keep.app _ _ _).trans kp
   have l2 := kp.1
   simp only [List.length_append, List.length_cons, List.length_nil] at l2
   have c4 : h2[h.length + 1]? = some (.cells 51 [.i 200, .i 0, .i 200]) := kp.got (by rw [aZ (by simp)]; simp)
   have c7 : h2[h.length + 2]? = some (.cells 31 [.v (.int .i64 x.kind), .v (.int .i64 x.n), .str x.s, .sl 4 (x.l.map enc)]) := kp.got (by rw [aZ (by simp)]; simp)
   have yes : ∀ b : Bool, signW false t = (if b = true then some ⟨200, 0, 200⟩ else none) -> ∀ X l, ∃ y h', Wk GL h.length [(0, .tup [.agg [.i 200, .i 0, .i 200], .b b, .b false])] (h2.set (h.length + 1) X ++ l) [(0, y)] h' /\ Keep All h h' /\ FormIs false t (.val y) := fun b e X l => by
    rw [e] at hF
    refine ⟨_, _, Wk.refl (by simp; omega), (kp0.turnK _ (by omega)).more _, ?_⟩
    unfold FormIs
    cases b
    ·simp only [Bool.false_eq_true, if_false, Option.map_none] at hF
     rw [hF]; exact ⟨⟨200, 0, 200⟩, false, rfl⟩
    ·simp only [if_true, Option.map_some] at hF
     rw [hF]; rfl
   unfold FormIs at hy
   have c4_g := fun l => aF (l := l) c4
   have c4_s := fun o l => aG (l := l) c4 o
   have c4_e := fun o l => aD (o := o) (l := l) c4
   have c4_h := fun o => aH (o := o) c4
   have c7_g := fun l => aF (l := l) c7
   have c7_s := fun o l => aG (l := l) c7 o
   have c7_e := fun o l => aD (o := o) (l := l) c7
   have c7_h := fun o => aH (o := o) c7
   rcases hfx : formW false x with _ | ⟨o, b⟩
   ·rw [hfx] at hy hdash
    obtain ⟨o, b, rfl⟩ := hy
    simp only [encOp]
    rcases hx2 : (x.kind == 2) with _ | _
    ·simp -implicitDefEqProofs only [go_sem, c4_g, c4_s, c4_e, c7_g, nq, hx2]
     exact yes true (by rw [hdash, nq, hx2]; rfl) _ _
    ·simp -implicitDefEqProofs only [go_sem, c4_g, c4_s, c4_e, c7_g, nq, hx2]
     exact yes false (by rw [hdash, nq, hx2]; rfl) _ _
   ·rw [hfx] at hy hdash
    subst hy
    simp only [encOp]
    rcases hx2 : (x.kind == 2) with _ | _
    ·rcases b with _ | _
     ·rcases hp2 : decide (o.prio > 200) with _ | _
      ·simp -implicitDefEqProofs only [go_sem, c4_g, c4_s, c4_e, c7_g, nq, hx2, hp2]
       exact yes true (by rw [hdash, nq, hx2]; simp only [Bool.false_or, hp2]; rfl) _ _
      ·simp -implicitDefEqProofs only [go_sem, c4_g, c4_s, c4_e, c7_g, nq, hx2, hp2]
       exact yes false (by rw [hdash, nq, hx2]; simp only [Bool.false_or, hp2]; rfl) _ _
     ·simp -implicitDefEqProofs only [go_sem, c4_g, c4_s, c4_e, c7_g, nq, hx2]
      exact yes false (by rw [hdash, nq, hx2]; rfl) _ _
    ·simp -implicitDefEqProofs only [go_sem, c4_g, c4_s, c4_e, c7_g, nq, hx2]
     exact yes false (by rw [hdash, nq, hx2]; rfl) _ _
theorem WrAt.turn {w : Ws} {nv : AV} {pl : Bool} {k : Nat} {h : List AObj} {p v : AV} (hk : h[k]? = some (.cells 105 [p, v, .str w.last, nv, .b pl, .b w.before])) (hp : p = .v (.pointer none) ∨ p = .ref k 0) (hv : BdV w.b v h) (s : Str) (b : Bool) : WrAt ⟨w.b, s, b⟩ nv pl k (h.set k (.cells 105 [p, v, .str s, nv, .b pl, .b b])) :=
 ⟨p, v, aH hk, hp, dF hv hk⟩
theorem dE {k : Nat} {h : List AObj} {x : AObj} (o : AObj) (hk : h[k]? = some x) : Keep (BdK k) h (h.set k o) := Keep.set _ hk (.inl rfl)
theorem h115 (hG : GLok GL) {w : Ws} {nv : AV} {pl : Bool} {k : Nat} {h : List AObj} (s : Str) (hb : w.b.length < 2 ^ 39) (hl : w.last.length <= 2000) (hs : s.length <= 2000) (hw : WrAt w nv pl k h) :
  Gives (PC GL) 115 [.ref k 0, .str s] h fun x h' => x = .tup [] /\ Keep (BdK k) h h' /\ WrAt (putW s w) nv pl k h' := by
 obtain ⟨p, v, hk, hp, hv⟩ := hw.get
 have hlt := aL hk
 refine k115.gives (by simp) ?_
 have w1 := WrAt.turn hk hp hv w.last false
 have k1 := dE (.cells 105 [p, v, .str w.last, nv, .b pl, .b false]) hk
 have ns : ∀ a b : Str, (a != b) = !(a == b) := fun _ _ => rfl
 have hk_g := fun l => aF (l := l) hk
 have hk_s := fun o l => aG (l := l) hk o
 have hk_e := fun o l => aD (o := o) (l := l) hk
 have hk_h := fun o => aH (o := o) hk
 rcases hL : (w.last == []) with _ | _
 ·simp -implicitDefEqProofs only [go_sem, c115, r115, hk, hk_h, hL]
  refine aC hC (h162 hG w.last s (by omega) (by omega)) ?_
  rcases hA : apartB w.last s with _ | _
  ·simp -implicitDefEqProofs only [go_sem]
   refine aI hC (h80 (T := 105) (rest := [.str w.last, nv, .b pl, .b false]) 32 jP (show w.b.length < 2 ^ 40 by omega) w1) fun x h2 ⟨k2, b2⟩ => ?_
   have e : (putW s w) = ⟨w.b ++ [32] ++ s, s, false⟩ := by unfold putW; rw [ns, hL, hA]; simp
   have hL2 : (w.b ++ [32]).length < 2 ^ 40 := by simp; omega
   have k12 := k1.trans k2
   simp -implicitDefEqProofs only [go_sem]
   refine aI hC (h78 (T := 105) (rest := [.str w.last, nv, .b pl, .b false]) s jP hL2 (by omega) b2) fun x h3 ⟨k3, b3⟩ => ?_
   obtain ⟨p3, v3, hk3, hp3, hv3⟩ := b3
   have m3 := (k12.trans k3).1
   have hk3_g := fun l => aF (l := l) hk3
   have hk3_s := fun o l => aG (l := l) hk3 o
   have hk3_e := fun o l => aD (o := o) (l := l) hk3
   have hk3_h := fun o => aH (o := o) hk3
   simp -implicitDefEqProofs only [go_sem, hk3]
   exact aT (by simpa using m3) ⟨rfl, (k12.trans k3).trans (dE _ hk3), ⟨p3, v3, by rw [e]; exact aH hk3, hp3, by rw [e]; exact dF hv3 hk3⟩⟩
  ·have e : (putW s w) = ⟨w.b ++ s, s, false⟩ := by unfold putW; rw [ns, hL, hA]; simp
   have hL2 : w.b.length < 2 ^ 40 := by omega
   simp -implicitDefEqProofs only [go_sem]
   refine aI hC (h78 (T := 105) (rest := [.str w.last, nv, .b pl, .b false]) s jP hL2 (by omega) w1) fun x h3 ⟨k3, b3⟩ => ?_
   obtain ⟨p3, v3, hk3, hp3, hv3⟩ := b3
   have m3 := (k1.trans k3).1
   have hk3_g := fun l => aF (l := l) hk3
   have hk3_s := fun o l => aG (l := l) hk3 o
   have hk3_e := fun o l => aD (o := o) (l := l) hk3
   have hk3_h := fun o => aH (o := o) hk3
   simp -implicitDefEqProofs only [go_sem, hk3]
   exact aT (by simpa using m3) ⟨rfl, (k1.trans k3).trans (dE _ hk3), ⟨p3, v3, by rw [e]; exact aH hk3, hp3, by rw [e]; exact dF hv3 hk3⟩⟩
 ·have e : (putW s w) = ⟨w.b ++ s, s, false⟩ := by unfold putW; rw [ns, hL]; simp
  have hL2 : w.b.length < 2 ^ 40 := by omega
  simp -implicitDefEqProofs only [go_sem, c115, r115, hk, hk_h, hL]
  refine aI hC (h78 (T := 105) (rest := [.str w.last, nv, .b pl, .b false]) s jP hL2 (by omega) w1) fun x h3 ⟨k3, b3⟩ => ?_
  obtain ⟨p3, v3, hk3, hp3, hv3⟩ := b3
  have m3 := (k1.trans k3).1
  have hk3_g := fun l => aF (l := l) hk3
  have hk3_s := fun o l => aG (l := l) hk3 o
  have hk3_e := fun o l => aD (o := o) (l := l) hk3
  have hk3_h := fun o => aH (o := o) hk3
  simp -implicitDefEqProofs only [go_sem, hk3]
  exact aT (by simpa using m3) ⟨rfl, (k1.trans k3).trans (dE _ hk3), ⟨p3, v3, by rw [e]; exact aH hk3, hp3, by rw [e]; exact dF hv3 hk3⟩⟩
def It.str (nf : Int -> Str) : It -> Str
 | .p s => s
 | .f s => s
 | .n s => s
 | .v i => nf i
 | _ => []
theorem dR {s : Str} {w : Ws} (hs : s.length <= 2000) : (putW s w).b.length <= w.b.length + 2001 /\ (putW s w).last.length <= 2000 := by
 unfold putW
 refine ⟨?_, hs⟩
 simp only [List.length_append]
 split <;> simp <;> omega
theorem step_len {nf : Int -> Str} {i : It} {w : Ws} (hi : (i.str nf).length <= 2000) (_hl : w.last.length <= 2000) : (stepW nf i w).b.length <= w.b.length + 4002 /\ (stepW nf i w).last.length <= 2000 := by
 cases i with
 | p s => have := dR (w := w) (s := s) hi; rw [stepW]; omega
 | f s => have := dR (w := w) (s := s) hi; rw [stepW]; simp only; omega
 | v j => have := dR (w := w) (s := nf j) hi; rw [stepW]; omega
 | g => rw [stepW]; simp
 | o =>
  rw [stepW]
  have h1 : ([40] : Str).length <= 2000 := by decide
  split
  ·have := dR (w := ⟨w.b ++ [32], [], true⟩) h1
   simp only [List.length_append, List.length_cons, List.length_nil] at this
   omega
  ·have := dR (w := w) h1; omega
 | n s =>
  have := dR (w := w) (s := [45]) (by decide)
  have hs : s.length <= 2000 := hi
  rw [stepW]
  simp only [List.length_append]
  omega
 | z =>
  rw [stepW]
  have a := dR (w := w) (s := [91]) (by decide)
  have b := dR (w := putW [91] w) (s := [93]) (by decide)
  omega
def Fits (nf : Int -> Str) (w : Ws) (l : List It) : Prop := w.b.length + 4002 * l.length < 2 ^ 38 /\ w.last.length <= 2000 /\ ∀ i ∈ l, (i.str nf).length <= 2000
theorem Fits.cons {nf : Int -> Str} {w : Ws} {i : It} {l : List It} (h : Fits nf w (i :: l)) : Fits nf (stepW nf i w) l := by
 obtain ⟨a, b, c⟩ := h
 have := step_len (c i (by simp)) b
 simp only [List.length_cons] at a
 exact ⟨by omega, this.2, fun x hx => c x (by simp [hx])⟩
theorem Fits.app {nf : Int -> Str} : ∀ {a b : List It} {w : Ws}, Fits nf w (a ++ b) -> Fits nf w a /\ Fits nf (stepsW nf a w) b
 | [], b, w, h => ⟨⟨by have := h.1; simp at this ⊢; omega, h.2.1, by simp⟩, h⟩
 | i :: a, b, w, h => by
  have h0 : Fits nf w (i :: (a ++ b)) := h
  obtain ⟨_, h2⟩ := h0.cons.app
  exact ⟨⟨by have := h.1; simp at this ⊢; omega, h.2.1, fun x hx => h.2.2 x (List.mem_append_left _ hx)⟩, h2⟩
theorem Fits.b {nf : Int -> Str} {w : Ws} {l : List It} (h : Fits nf w l) : w.b.length < 2 ^ 38 := by have := h.1; omega
theorem gO : ∀ (a : List (List It)) (x : List It), commas (a ++ [x]) = commas a ++ ((if a.isEmpty then [] else [.p [44]]) ++ x)
 | [], x => by simp [commas]
 | [a], x => by simp [commas]
 | a :: b :: r, x => by
  have := gO (b :: r) x
  simp only [List.cons_append, commas] at this ⊢
  rw [this]
  simp
theorem mU (a : List (List It)) : ∀ b : List (List It), ∃ r, commas (a ++ b) = commas a ++ r
 | [] => ⟨[], by simp⟩
 | x :: b => by
  obtain ⟨r, hr⟩ := mU (a ++ [x]) b
  rw [List.append_assoc] at hr
  refine ⟨((if a.isEmpty then [] else [.p [44]]) ++ x) ++ r, ?_⟩
  rw [List.singleton_append] at hr
  rw [hr, gO, List.append_assoc]
structure Nms (GL : Glob) (nf : Int -> Str) (gd : Int -> Prop) (fN : FuncId) (cap : List AV) (NP : List AObj -> Prop) (k : Nat) : Prop where
 call : ∀ i h, gd i -> NP h -> PureOn (PC GL) fN (.i i :: cap) (.str (nf i)) h
 keep : ∀ h h', NP h -> Keep (BdK k) h h' -> NP h'
mutual
def Tm.gw (gd : Int -> Prop) : Tm -> Prop
 | .mk k n s l => (Tm.mk k n s l).nodeOk = true /\ (k = 1 -> gd n) /\ gws gd l
def gws (gd : Int -> Prop) : List Tm -> Prop
 | [] => True
 | t :: r => t.gw gd /\ gws gd r
end
theorem nY {gd : Int -> Prop} (t : Tm) : t.gw gd ↔ t.nodeOk = true /\ (t.kind = 1 -> gd t.n) /\ gws gd t.l := by cases t; rfl
theorem qR {gd : Int -> Prop} : ∀ {l : List Tm}, gws gd l -> ∀ x ∈ l, x.gw gd
 | y :: r, h, x, hx => by
  rcases List.mem_cons.1 hx with rfl | hx
  ·exact h.1
  ·exact qR h.2 x hx
section
variable {nf : Int -> Str} {gd : Int -> Prop} {fN : FuncId} {cap : List AV} {NP : List AObj -> Prop} {k : Nat} {pl : Bool}
def Wrote (GL : Glob) (nf : Int -> Str) (nv : AV) (pl : Bool) (k : Nat) (f : FuncId) (args : List AV) (w : Ws) (l : List It) (h : List AObj) : Prop :=
 Gives (PC GL) f (.ref k 0 :: args) h fun x h' => x = .tup [] /\ Keep (BdK k) h h' /\ WrAt (stepsW nf l w) nv pl k h'
def WT (GL : Glob) (nf : Int -> Str) (gd : Int -> Prop) (nv : AV) (NP : List AObj -> Prop) (k : Nat) (pl : Bool) (f : Nat) : Prop := ∀ (lim : Int) (t : Tm) (w : Ws) (h : List AObj), 2 * t.size <= f -> t.size < 2 ^ 30 -> t.gw gd -> Fits nf w (itW f pl lim t) -> NP h -> WrAt w nv pl k h -> Wrote GL nf nv pl k 77 [enc t, .i lim] w (itW f pl lim t) h
theorem h163 (hG : GLok GL) {nv : AV} {w : Ws} {h : List AObj} (n : Int) (hn : -2147483647 <= n /\ n <= 2147483647) (hf : Fits nf w [if n >= 0 then .p (dig n.toNat) else .n (dig (-n).toNat)]) (hw : WrAt w nv pl k h) :
  Wrote GL nf nv pl k 163 [.i n] w [if n >= 0 then .p (dig n.toNat) else .n (dig (-n).toNat)] h := by
 refine k163.gives (by simp) ?_
 have hb := hf.b
 have hl := hf.2.1
 have hsm := hf.2.2
 rw [aW, bT]
 by_cases h0 : n >= 0
 ·have d1 : decide (n >= 0) = true := decide_eq_true h0
  rw [if_pos h0] at hsm ⊢
  have hs : (dig n.toNat).length <= 2000 := hsm (.p (dig n.toNat)) (by simp)
  have p := h107 hG n (by omega) (by omega)
  rw [nJ (by omega)] at p
  simp -implicitDefEqProofs only [go_sem, c163, r163, d1]
  refine aC hC p ?_
  simp -implicitDefEqProofs only [go_sem]
  refine aI hC (h115 hG (dig n.toNat) (by omega) hl hs hw) fun x h2 ⟨x1, k2, w2⟩ => ?_
  subst x1
  simp -implicitDefEqProofs only [go_sem]
  exact aT k2.1 ⟨rfl, k2, w2⟩
 ·have d1 : decide (n >= 0) = false := decide_eq_false h0
  rw [if_neg h0] at hsm ⊢
  have hs : (dig (-n).toNat).length <= 2000 := hsm (.n (dig (-n).toNat)) (by simp)
  have p := h107 hG (-n) (by omega) (by omega)
  rw [nJ (by omega)] at p
  have wn : IntKind.i64.wrap (0 - n) = -n := by rw [aK _ (by omega)]; omega
  simp -implicitDefEqProofs only [go_sem, c163, r163, d1]
  refine aI hC (h115 hG [45] (by omega) hl (by decide) hw) fun x h2 ⟨x1, k2, w2⟩ => ?_
  subst x1
  obtain ⟨p2, v2, hk2, hp2, hv2⟩ := w2.get
  have l2 := dR (w := w) (s := [45]) (by decide)
  have hk2_g := fun l => aF (l := l) hk2
  have hk2_s := fun o l => aG (l := l) hk2 o
  have hk2_e := fun o l => aD (o := o) (l := l) hk2
  have hk2_h := fun o => aH (o := o) hk2
  simp -implicitDefEqProofs only [go_sem, wn]
  refine aC hC p ?_
  simp -implicitDefEqProofs only [go_sem]
  refine aI hC (h78 (T := 105) (rest := [.str [45], nv, .b pl, .b false]) (dig (-n).toNat) jP (show (putW [45] w).b.length < 2 ^ 40 by omega) (by omega) w2) fun x h3 ⟨k3, b3⟩ => ?_
  obtain ⟨p3, v3, hk3, hp3, hv3⟩ := b3
  have m3 := (k2.trans k3).1
  have hk3_g := fun l => aF (l := l) hk3
  have hk3_s := fun o l => aG (l := l) hk3 o
  have hk3_e := fun o l => aD (o := o) (l := l) hk3
  have hk3_h := fun o => aH (o := o) hk3
  simp -implicitDefEqProofs only [go_sem, wn]
  refine aC hC p ?_
  simp -implicitDefEqProofs only [go_sem, hk3]
  exact aT (by simpa using m3) ⟨rfl, (k2.trans k3).trans (dE _ hk3), ⟨p3, v3, aH hk3, hp3, dF hv3 hk3⟩⟩
end
theorem Keep.bd {k b : Nat} {h h' : List AObj} {T : TypeId} {c : List AV} (a : Keep (BdK k) h h') (hb : h[b]? = some (.cells T c)) (hk : b ≠ k) : h'[b]? = some (.cells T c) :=
 a.2 b _ hb fun e => e.elim hk fun e => by cases e
section
variable {nf : Int -> Str} {gd : Int -> Prop} {fN : FuncId} {cap : List AV} {NP : List AObj -> Prop} {k : Nat} {pl : Bool} {nv : AV}
theorem h165 (hG : GLok GL) {f : Nat} (hT : WT GL nf gd nv NP k pl f) (hN : ∀ h h', NP h -> Keep (BdK k) h h' -> NP h') (l : List Tm) {w : Ws} {h : List AObj} (hsz : ∀ x ∈ l, 2 * x.size <= f /\ x.size < 2 ^ 30) (hg : gws gd l) (hl : l.length < 2 ^ 40) (hf : Fits nf w (commas (l.map (itW f pl 999)))) (hnp : NP h) (hw : WrAt w nv pl k h) :
  Wrote GL nf nv pl k 165 [.sl 4 (l.map enc)] w (commas (l.map (itW f pl 999))) h := by
 refine k165.gives (by simp) ?_
 simp -implicitDefEqProofs only [go_sem, c165, r165, List.length_map]
 refine cK hC (fun j (_ : Unit) => [(0, .ref k 0), (6, .sl 4 (l.map enc)), (7, .i l.length), (8, .i (j : Nat))]) (fun j _ h' => j <= l.length /\ Keep (BdK k) h h' /\ WrAt (stepsW nf (commas ((l.take j).map (itW f pl 999))) w) nv pl k h') l.length ⟨(), _, Wk.pick (by simp) (by simp [go_sem]), by simp, Keep.refl _ _, by simpa [commas, bT] using hw⟩ fun j _ h2 hj ⟨p1, p2, p3⟩ => ?_
 have l2 := p3.lt
 by_cases hlt : j < l.length
 ·have d1 : decide ((j : Int) < (l.length : Int)) = true := decide_eq_true (by omega)
  have w1 : IntKind.i64.wrap ((j : Int) + 1) = ((j + 1 : Nat) : Int) := by rw [aK _ (by omega)]; simp
  have eg : (l.map enc).getD j .any = enc l[j] := by simp [List.getD, hlt]
  obtain ⟨g1, g2⟩ := hsz _ (List.getElem_mem hlt)
  have g3 := qR hg _ (List.getElem_mem hlt)
  have etk : (l.take (j + 1)).map (itW f pl 999) = (l.take j).map (itW f pl 999) ++ [itW f pl 999 l[j]] := by rw [List.take_succ_eq_append_getElem hlt, List.map_append]; rfl
  have esn := gO ((l.take j).map (itW f pl 999)) (itW f pl 999 l[j])
  obtain ⟨r, hr⟩ := mU ((l.take (j + 1)).map (itW f pl 999)) ((l.drop (j + 1)).map (itW f pl 999))
  rw [<- List.map_append, List.take_append_drop, etk, esn] at hr
  have hf2 : Fits nf (stepsW nf (commas ((l.take j).map (itW f pl 999))) w) ((if ((l.take j).map (itW f pl 999)).isEmpty then [] else [.p [44]]) ++ itW f pl 999 l[j]) := by
   rw [hr, List.append_assoc] at hf
   exact hf.app.2.app.1
  have nxt : ∀ h', WrAt (stepsW nf ((if ((l.take j).map (itW f pl 999)).isEmpty then [] else [.p [44]]) ++ itW f pl 999 l[j]) (stepsW nf (commas ((l.take j).map (itW f pl 999))) w)) nv pl k h' -> WrAt (stepsW nf (commas ((l.take (j + 1)).map (itW f pl 999))) w) nv pl k h' := fun h' e => by
   rw [etk, esn, cB]; exact e
  generalize stepsW nf (commas ((l.take j).map (itW f pl 999))) w = w2 at p3 hf2 nxt
  have c5 : ∀ X : AObj, (h2 ++ [X])[h2.length]? = some X := fun X => by rw [dG]; rfl
  have n5 : h2.length ≠ k := by omega
  have np2 : ∀ X, NP (h2 ++ [X]) := fun X => hN _ _ hnp (p2.trans (Keep.app _ _ _))
  rcases j with _ | j
  ·have hem : ((l.take 0).map (itW f pl 999)).isEmpty = true := rfl
   rw [hem, if_pos rfl] at hf2 nxt
   have d0 : decide (((0 : Nat) : Int) > 0) = false := rfl
   simp -implicitDefEqProofs only [go_sem, d1, Int.toNat_natCast, hlt, eg, d0]
   refine aI hC (hT 999 l[0] _ _ g1 g2 g3 hf2 (np2 _) (p3.app _)) fun x h3 ⟨x1, k3, w3⟩ => ?_
   subst x1
   have m3 := (p2.trans ((Keep.app _ _ _).trans k3)).1
   simp -implicitDefEqProofs only [go_sem, w1]
   exact ⟨by omega, _, Wk.pick m3 (by simp [go_sem]), by omega, p2.trans ((Keep.app _ _ _).trans k3), nxt _ w3⟩
  ·have hem : ((l.take (j + 1)).map (itW f pl 999)).isEmpty = false := by
    cases l with
    | nil => simp at hlt
    | cons a b => rfl
   rw [hem, if_neg (by simp)] at hf2 nxt
   have d0 : decide (((j + 1 : Nat) : Int) > 0) = true := decide_eq_true (by omega)
   have hfc : Fits nf w2 (.p [44] :: itW f pl 999 l[j + 1]) := hf2
   simp -implicitDefEqProofs only [go_sem, d1, Int.toNat_natCast, hlt, eg, d0]
   refine aI hC (h115 hG [44] (by have := hfc.b; omega) hfc.2.1 (by decide) (p3.app _)) fun x h3 ⟨x1, k3, w3⟩ => ?_
   subst x1
   have c5b := k3.bd (c5 _) n5
   simp -implicitDefEqProofs only [go_sem, c5b]
   refine aI hC (hT 999 l[j + 1] _ _ g1 g2 g3 hfc.cons (hN _ _ (np2 _) k3) w3) fun x h4 ⟨x1, k4, w4⟩ => ?_
   subst x1
   have m4 := p2.trans ((Keep.app _ _ _).trans (k3.trans k4))
   simp -implicitDefEqProofs only [go_sem, w1]
   exact ⟨by omega, _, Wk.pick m4.1 (by simp [go_sem]), by omega, m4, nxt _ w4⟩
 ·have d1 : decide ((j : Int) < (l.length : Int)) = false := decide_eq_false (by omega)
  have e : l.take j = l := List.take_of_length_le (by omega)
  rw [e] at p3
  simp -implicitDefEqProofs only [go_sem, d1]
  exact aT p2.1 ⟨rfl, p2, p3⟩
end
theorem kI {t : Tm} (h : isCell t = true) : ∃ a b, t.l = [a, b] := by
 unfold isCell at h
 simp only [Bool.and_eq_true, beq_iff_eq] at h
 have h2 := h.2
 match t.l, h2 with
 | [a, b], _ => exact ⟨a, b, rfl⟩
theorem WrAt.other {w : Ws} {nv : AV} {pl : Bool} {k b : Nat} {h : List AObj} {T : TypeId} {c : List AV} (hw : WrAt w nv pl k h) (hb : h[b]? = some (.cells T c)) (hk : b ≠ k) (o : AObj) : WrAt w nv pl k (h.set b o) := by
 obtain ⟨p, v, h1, h2, h3⟩ := hw
 exact ⟨p, v, by rw [aE hk]; exact h1, h2, h3.imp id fun ⟨a, e, ha⟩ => ⟨a, e, by rw [aE (aU hb ha (by simp))]; exact ha⟩⟩
section
variable {nf : Int -> Str} {gd : Int -> Prop} {fN : FuncId} {cap : List AV} {NP : List AObj -> Prop} {k : Nat} {pl : Bool} {nv : AV}
theorem h166 (hG : GLok GL) {f : Nat} (hT : ∀ g, g <= f -> WT GL nf gd nv NP k pl g) (hN : ∀ h h', NP h -> Keep (BdK k) h h' -> NP h') (t : Tm) {w : Ws} {h : List AObj} (hc : isCell t = true) (hsz : 2 * t.size <= f + 2) (hs3 : t.size < 2 ^ 30) (hg : t.gw gd) (hf : Fits nf w (.p [91] :: (itW f pl 999 (t.l.getD 0 default) ++ itC f pl (t.l.getD 1 default)))) (hnp : NP h) (hw : WrAt w nv pl k h) :
  Wrote GL nf nv pl k 166 [enc t] w (.p [91] :: (itW f pl 999 (t.l.getD 0 default) ++ itC f pl (t.l.getD 1 default))) h := by
 obtain ⟨a, b, hl⟩ := kI hc
 have hlt := hw.lt
 have hn3 : h.length ≠ k := by omega
 have hsa : t.size = a.size + b.size + 1 := by rw [cO, hl]; simp [sizes]
 have gab := ((nY t).1 hg).2.2
 rw [hl] at gab hf ⊢
 simp only [List.getD_cons_zero, List.getD_cons_succ] at hf ⊢
 have pa := cF a
 have pb := cF b
 refine k166.gives (by simp) ?_
 rw [aW, cB]
 have nq : ∀ a b : Int, (a != b) = !(a == b) := fun _ _ => rfl
 have ns : ∀ a b : Str, (a != b) = !(a == b) := fun _ _ => rfl
 simp -implicitDefEqProofs only [go_sem, c166, r166]
 refine aI hC (h115 hG [91] (by have := hf.b; omega) hf.2.1 (by decide) (hw.app _)) fun x h2 ⟨x1, k2, w2⟩ => ?_
 subst x1
 have c3 : h2[h.length]? = some (.cells 31 [.v (.int .i64 t.kind), .v (.int .i64 t.n), .str t.s, .sl 4 (t.l.map enc)]) := k2.bd (by rw [dG]; rfl) hn3
 have f1 := hf.cons
 have c3_g := fun l => aF (l := l) c3
 have c3_s := fun o l => aG (l := l) c3 o
 have c3_e := fun o l => aD (o := o) (l := l) c3
 have c3_h := fun o => aH (o := o) c3
 simp -implicitDefEqProofs only [go_sem, c3, hl, List.map_cons, Int.reduceToNat, Nat.reduceAdd, List.getD_cons_zero]
 refine ⟨⟨by decide, by decide⟩, ?_⟩
 have k02 := (Keep.app (BdK k) h [.cells 31 [.v (.int .i64 t.kind), .v (.int .i64 t.n), .str t.s, .sl 4 (t.l.map enc)]]).trans k2
 rw [show (.p [91] : It) = .p [91] from rfl] at f1
 refine aI hC (hT f (Nat.le_refl _) 999 a _ _ (by omega) (by omega) gab.1 f1.app.1 (hN _ _ hnp k02) w2) fun x h3 ⟨x1, k3, w3⟩ => ?_
 subst x1
 have c3b := k3.bd c3 hn3
 have c3b_g := fun l => aF (l := l) c3b
 have c3b_s := fun o l => aG (l := l) c3b o
 have c3b_e := fun o l => aD (o := o) (l := l) c3b
 have c3b_h := fun o => aH (o := o) c3b
 simp -implicitDefEqProofs only [go_sem, c3b, hl, List.map_cons, Int.reduceToNat, Nat.reduceAdd, List.getD_cons_zero, List.getD_cons_succ]
 refine ⟨⟨by decide, by decide⟩, ?_⟩
 have k03 := k02.trans k3
 have f2 := f1.app.2
 have wf : ∀ h', WrAt (stepsW nf (itC f pl b) (stepsW nf (itW f pl 999 a) (stepW nf (.p [91]) w))) nv pl k h' -> Keep (BdK k) h h' -> ∃ y h'', Wk GL h.length [(0, .tup [])] h' [(0, y)] h'' /\ ∃ z, ARes.val y = ARes.val z /\ z = .tup [] /\ Keep (BdK k) h h'' /\ WrAt (stepsW nf (itC f pl b) (stepsW nf (itW f pl 999 a) (stepW nf (.p [91]) w))) nv pl k h'' := fun h' e1 e2 => aT e2.1 ⟨rfl, e2, e1⟩
 have w3' : WrAt (stepsW nf (itW f pl 999 a) (stepW nf (.p [91]) w)) nv pl k h3 := w3
 generalize stepsW nf (itW f pl 999 a) (stepW nf (.p [91]) w) = w3s at w3' f2 wf
 refine cK hC (fun _ (_ : Tm) => [(0, .ref k 0), (3, .ref h.length 0)]) (fun j c h' => h'[h.length]? = some (.cells 31 [.v (.int .i64 c.kind), .v (.int .i64 c.n), .str c.s, .sl 4 (c.l.map enc)]) /\ Keep (BdK k) h h' /\ ∃ g w', WrAt w' nv pl k h' /\ Fits nf w' (itC g pl c) /\ c.gw gd /\ 2 * c.size + 1 <= g /\ g <= f /\ j + c.size <= t.size /\ stepsW nf (itC g pl c) w' = stepsW nf (itC f pl b) w3s) t.size
  ⟨b, _, Wk.pick (by have := k03.1; simp; omega) (by simp [go_sem]), aH c3b, k03.turnK _ (Nat.le_refl _), f, w3s, w3'.other c3b hn3 _, f2, gab.2.1, by omega, Nat.le_refl _, by omega, rfl⟩ fun j c h4 hj ⟨p1, p2, g, w4, p3, p4, p5, p6, p7, p8, p9⟩ => ?_
 obtain ⟨g, rfl⟩ : ∃ g', g = g' + 1 := ⟨g - 1, by omega⟩
 have l4 := p2.1
 have pc := cF c
 have p1_g := fun l => aF (l := l) p1
 have p1_s := fun o l => aG (l := l) p1 o
 have p1_e := fun o l => aD (o := o) (l := l) p1
 have p1_h := fun o => aH (o := o) p1
 simp -implicitDefEqProofs only [go_sem, p1, bC]
 refine aC hC (h161 c) ?_
 rcases hcc : isCell c with _ | _
 rotate_left
 ·obtain ⟨a', b', hl'⟩ := kI hcc
  have hsc : c.size = a'.size + b'.size + 1 := by rw [cO, hl']; simp [sizes]
  have pa' := cF a'
  have gab' := ((nY c).1 p5).2.2
  rw [itC, if_pos hcc, hl'] at p4 p9
  simp only [List.getD_cons_zero, List.getD_cons_succ] at p4 p9
  rw [hl'] at gab'
  have f4 := p4.cons
  simp -implicitDefEqProofs only [go_sem]
  refine aI hC (h115 hG [44] (by have := p4.b; omega) p4.2.1 (by decide) p3) fun x h5 ⟨x1, k5, w5⟩ => ?_
  subst x1
  have q1 := k5.bd p1 hn3
  have q1_g := fun l => aF (l := l) q1
  have q1_s := fun o l => aG (l := l) q1 o
  have q1_e := fun o l => aD (o := o) (l := l) q1
  have q1_h := fun o => aH (o := o) q1
  simp -implicitDefEqProofs only [go_sem, q1, hl', List.map_cons, Int.reduceToNat, Nat.reduceAdd, List.getD_cons_zero]
  refine ⟨⟨by decide, by decide⟩, ?_⟩
  have k45 := p2.trans k5
  refine aI hC (hT g (by omega) 999 a' _ _ (by omega) (by omega) gab'.1 f4.app.1 (hN _ _ hnp k45) w5) fun x h6 ⟨x1, k6, w6⟩ => ?_
  subst x1
  have q2 := k6.bd q1 hn3
  have k46 := k45.trans k6
  have q2_g := fun l => aF (l := l) q2
  have q2_s := fun o l => aG (l := l) q2 o
  have q2_e := fun o l => aD (o := o) (l := l) q2
  have q2_h := fun o => aH (o := o) q2
  simp -implicitDefEqProofs only [go_sem, q2, hl', List.map_cons, Int.reduceToNat, Nat.reduceAdd, List.getD_cons_zero, List.getD_cons_succ]
  refine ⟨⟨by decide, by decide⟩, by omega, b', _, Wk.pick (by have := k46.1; simp; omega) (by simp [go_sem]), aH q2, k46.turnK _ (Nat.le_refl _), g, _, w6.other q2 hn3 _, f4.app.2, gab'.2.1, by omega, by omega, by omega, ?_⟩
  rw [<- p9, aW, cB]
 ·rw [itC, if_neg (by rw [hcc]; simp)] at p4 p9
  have nilc : ∀ b, isNilA c = b -> isNilA c = b := fun _ e => e
  rcases hK : (c.kind == 3) with _ | _
  ·have hn : isNilA c = false := by unfold isNilA; rw [hK]; rfl
   rw [hn, if_neg (by simp)] at p4 p9
   rw [List.cons_append] at p4 p9
   have f5 := p4.cons
   simp -implicitDefEqProofs only [go_sem, nq, p1, hK]
   refine aI hC (h115 hG [124] (by have := p4.b; omega) p4.2.1 (by decide) p3) fun x h5 ⟨x1, k5, w5⟩ => ?_
   subst x1
   have q1 := k5.bd p1 hn3
   have q1_g := fun l => aF (l := l) q1
   have q1_s := fun o l => aG (l := l) q1 o
   have q1_e := fun o l => aD (o := o) (l := l) q1
   have q1_h := fun o => aH (o := o) q1
   simp -implicitDefEqProofs only [go_sem, q1, bC]
   have k45 := p2.trans k5
   refine aI hC (hT g (by omega) 999 c _ _ (by omega) (by omega) p5 f5.app.1 (hN _ _ hnp k45) w5) fun x h6 ⟨x1, k6, w6⟩ => ?_
   subst x1
   have k46 := k45.trans k6
   have f6 := f5.app.2
   simp -implicitDefEqProofs only [go_sem]
   refine aI hC (h115 hG [93] (by have := f6.b; omega) f6.2.1 (by decide) w6) fun x h7 ⟨x1, k7, w7⟩ => ?_
   subst x1
   simp -implicitDefEqProofs only [go_sem]
   exact wf _ (by rw [<- p9, aW, cB, aW, bT]; exact w7) (k46.trans k7)
  ·rcases hS : (c.s == [91, 93]) with _ | _
   ·have hn : isNilA c = false := by unfold isNilA; rw [hK, hS]; rfl
    rw [hn, if_neg (by simp)] at p4 p9
    rw [List.cons_append] at p4 p9
    have f5 := p4.cons
    simp -implicitDefEqProofs only [go_sem, nq, p1, hK, hS]
    refine aI hC (h115 hG [124] (by have := p4.b; omega) p4.2.1 (by decide) p3) fun x h5 ⟨x1, k5, w5⟩ => ?_
    subst x1
    have q1 := k5.bd p1 hn3
    have q1_g := fun l => aF (l := l) q1
    have q1_s := fun o l => aG (l := l) q1 o
    have q1_e := fun o l => aD (o := o) (l := l) q1
    have q1_h := fun o => aH (o := o) q1
    simp -implicitDefEqProofs only [go_sem, q1, bC]
    have k45 := p2.trans k5
    refine aI hC (hT g (by omega) 999 c _ _ (by omega) (by omega) p5 f5.app.1 (hN _ _ hnp k45) w5) fun x h6 ⟨x1, k6, w6⟩ => ?_
    subst x1
    have k46 := k45.trans k6
    have f6 := f5.app.2
    simp -implicitDefEqProofs only [go_sem]
    refine aI hC (h115 hG [93] (by have := f6.b; omega) f6.2.1 (by decide) w6) fun x h7 ⟨x1, k7, w7⟩ => ?_
    subst x1
    simp -implicitDefEqProofs only [go_sem]
    exact wf _ (by rw [<- p9, aW, cB, aW, bT]; exact w7) (k46.trans k7)
   ·have hn : isNilA c = true := by unfold isNilA; rw [hK, hS]; rfl
    rw [hn, if_pos rfl, List.nil_append] at p4 p9
    rw [aW, bT] at p9
    simp -implicitDefEqProofs only [go_sem, nq, p1, hK, hS]
    refine aI hC (h115 hG [93] (by have := p4.b; omega) p4.2.1 (by decide) p3) fun x h5 ⟨x1, k5, w5⟩ => ?_
    subst x1
    simp -implicitDefEqProofs only [go_sem]
    exact wf _ (by rw [<- p9]; exact w5) (p2.trans k5)
end
theorem jR {t : Tm} (h : t.nodeOk = true) : t.s.length <= 255 /\ t.l.length <= 64 /\ (t.kind = 1 ∨ t.kind = 2 ∨ t.kind = 3 ∨ t.kind = 4 ∨ t.kind = 5 ∨ t.kind = 6) /\ (t.kind = 2 -> -2147483647 <= t.n /\ t.n <= 2147483647) /\ (t.kind = 1 -> 0 <= t.n /\ t.n < 100000) := by
 unfold Tm.nodeOk at h
 have nm : nameOk t.s = true -> t.s.length <= 32 := fun e => by
  unfold nameOk at e
  simp at e
  omega
 split at h
 ·rename_i hk
  simp [Tm.bare] at h
  refine ⟨by simp [h.1.1], by simp [h.1.2], .inl hk, by omega, by omega⟩
 split at h
 ·rename_i hk
  simp [Tm.bare] at h
  refine ⟨by simp [h.1.1], by simp [h.1.2], .inr (.inl hk), by omega, by omega⟩
 split at h
 ·rename_i hk
  simp [Tm.bare] at h
  have := nm h.2
  refine ⟨by omega, by simp [h.1.2], by omega, by omega, by omega⟩
 split at h
 ·rename_i hk
  simp [Tm.bare] at h
  refine ⟨by omega, by simp [h.1.2], by omega, by omega, by omega⟩
 split at h
 ·rename_i hk
  simp [Tm.bare] at h
  have := nm h.2.1
  refine ⟨by omega, by omega, by omega, by omega, by omega⟩
 split at h
 ·rename_i hk
  simp [Tm.bare] at h
  refine ⟨by simp [h.1.2], by omega, by omega, by omega, by omega⟩
 ·cases h
section
variable {nf : Int -> Str} {gd : Int -> Prop} {fN : FuncId} {cap : List AV} {NP : List AObj -> Prop} {k : Nat} {pl : Bool} {nv : AV}
theorem h116 (hG : GLok GL) {f : Nat} (hT : ∀ g, g <= f -> WT GL nf gd (.fn (.func fN) [] cap) NP k pl g) (hN : Nms GL nf gd fN cap NP k) (t : Tm) {w : Ws} {h : List AObj} (hsz : 2 * t.size <= f + 2) (hs3 : t.size < 2 ^ 30) (hg : t.gw gd) (hf : Fits nf w (itS (f + 1) pl t)) (hnp : NP h) (hw : WrAt w (.fn (.func fN) [] cap) pl k h) :
  Wrote GL nf (.fn (.func fN) [] cap) pl k 116 [enc t] w (itS (f + 1) pl t) h := by
 have hlt := hw.lt
 have hn3 : h.length ≠ k := by omega
 obtain ⟨g1, g2, g3⟩ := (nY t).1 hg
 obtain ⟨n1, n2, n3, n4, n5⟩ := jR g1
 have hch : ∀ x ∈ t.l, 2 * x.size <= f /\ x.size < 2 ^ 30 := fun x hx => by have := size_lt hx; omega
 obtain ⟨p, v, hk, hp, hv⟩ := id hw.get
 have hwa : ∀ l, WrAt w (.fn (.func fN) [] cap) pl k (h ++ l) := fun l => hw.app l
 have hb := hf.b
 have hl := hf.2.1
 have ka : ∀ l, Keep (BdK k) h (h ++ l) := fun l => Keep.app _ _ _
 refine k116.gives (by simp) ?_
 have hk_g := fun l => aF (l := l) hk
 have hk_s := fun o l => aG (l := l) hk o
 have hk_e := fun o l => aD (o := o) (l := l) hk
 have hk_h := fun o => aH (o := o) hk
 rw [itS] at hf ⊢
 rcases n3 with hK | hK | hK | hK | hK | hK
 ·rw [hK] at hf ⊢
  have b1 : ((1 : Int) == 1) = true := rfl
  rw [if_pos b1] at hf ⊢
  rw [aW, bT]
  have hs : (nf t.n).length <= 2000 := hf.2.2 (.v t.n) (by simp)
  simp -implicitDefEqProofs only [go_sem, c116, r116, hK, b1, hk_g]
  refine bB hC (hN.call _ _ (g2 hK) (hN.keep _ _ hnp (ka _))) ?_
  simp -implicitDefEqProofs only [go_sem]
  refine aI hC (h115 hG (nf t.n) (by omega) hl hs (hwa _)) fun x h2 ⟨x1, k2, w2⟩ => ?_
  subst x1
  simp -implicitDefEqProofs only [go_sem]
  exact aT ((ka _).trans k2).1 ⟨rfl, (ka _).trans k2, w2⟩
 ·rw [hK] at hf ⊢
  have b1 : ((2 : Int) == 1) = false := rfl
  have b2 : ((2 : Int) == 2) = true := rfl
  rw [if_neg (by decide), if_pos b2] at hf ⊢
  have e : (if t.n >= 0 then [It.p (dig t.n.toNat)] else [It.n (dig (-t.n).toNat)]) = [if t.n >= 0 then It.p (dig t.n.toNat) else It.n (dig (-t.n).toNat)] := by split <;> rfl
  rw [e] at hf ⊢
  simp -implicitDefEqProofs only [go_sem, c116, r116, hK, b1, b2]
  refine aI hC (h163 hG t.n (n4 hK) hf (hwa _)) fun x h2 ⟨x1, k2, w2⟩ => ?_
  subst x1
  simp -implicitDefEqProofs only [go_sem]
  exact aT ((ka _).trans k2).1 ⟨rfl, (ka _).trans k2, w2⟩
 ·rw [hK] at hf ⊢
  have b1 : ((3 : Int) == 1) = false := rfl
  have b2 : ((3 : Int) == 2) = false := rfl
  have b3 : ((3 : Int) == 4) = false := rfl
  have b4 : ((3 : Int) == 3) = true := rfl
  rw [if_neg (by decide), if_neg (by decide), if_neg (by decide), if_pos b4] at hf ⊢
  simp -implicitDefEqProofs only [go_sem, c116, r116, hK, b1, b2, b3, b4]
  refine aC hC (h84 hG t.s (by omega)) ?_
  obtain ⟨ss, e1, e2, e3, e4⟩ : ∃ ss : List Str, atomV t.s = .sl 1 (ss.map AV.str) /\ stepW nf (atomW t.s) w = ss.foldl (fun w s => putW s w) w /\ (∀ s ∈ ss, s.length <= 2000) /\ ss.length <= 2 := by
   have hs := hf.2.2 (atomW t.s) (by simp)
   unfold atomV
   unfold atomW at hs ⊢
   split
   ·exact ⟨[[91], [93]], rfl, rfl, by simp, by simp⟩
   ·rename_i hne
    rw [if_neg hne] at hs
    exact ⟨[_], rfl, rfl, by simpa [It.str] using hs, by simp⟩
  rw [e1, aW, bT, e2]
  simp -implicitDefEqProofs only [go_sem, List.length_map]
  refine cK hC (fun j (_ : Unit) => [(0, .ref k 0), (36, .sl 1 (ss.map AV.str)), (37, .i ss.length), (38, .i (j : Nat))]) (fun j _ h' => j <= ss.length /\ Keep (BdK k) h h' /\ WrAt ((ss.take j).foldl (fun w s => putW s w) w) (.fn (.func fN) [] cap) pl k h' /\ ((ss.take j).foldl (fun w s => putW s w) w).b.length <= w.b.length + 2001 * j /\ ((ss.take j).foldl (fun w s => putW s w) w).last.length <= 2000) 2 ⟨(), _, Wk.pick (by simp) (by simp [go_sem]), by simp, ka _, by simpa using hwa _, by simp, by simpa using hl⟩ fun j _ h2 hj ⟨p1, p2, p3, p4, p5⟩ => ?_
  by_cases hj2 : j < ss.length
  ·have d1 : decide ((j : Int) < (ss.length : Int)) = true := decide_eq_true (by omega)
   have w1 : IntKind.i64.wrap ((j : Int) + 1) = ((j + 1 : Nat) : Int) := by rw [aK _ (by omega)]; simp
   have eg : (ss.map AV.str).getD j .any = .str ss[j] := by simp [List.getD, hj2]
   have hs := e3 _ (List.getElem_mem hj2)
   have et : (ss.take (j + 1)).foldl (fun w s => putW s w) w = putW ss[j] ((ss.take j).foldl (fun w s => putW s w) w) := by rw [List.take_succ_eq_append_getElem hj2, List.foldl_append]; rfl
   have pl2 := dR (w := (ss.take j).foldl (fun w s => putW s w) w) hs
   rw [<- et] at pl2
   simp -implicitDefEqProofs only [go_sem, d1, Int.toNat_natCast, hj2, eg]
   refine aI hC (h115 hG ss[j] (by omega) p5 hs p3) fun x h3 ⟨x1, k3, w3⟩ => ?_
   subst x1
   simp -implicitDefEqProofs only [go_sem, w1]
   exact ⟨by omega, (), _, Wk.pick (p2.trans k3).1 (by simp [go_sem]), by omega, p2.trans k3, by rw [et]; exact w3, by omega, pl2.2⟩
  ·have d1 : decide ((j : Int) < (ss.length : Int)) = false := decide_eq_false (by omega)
   have ej : ss.take j = ss := List.take_of_length_le (by omega)
   rw [ej] at p3
   simp -implicitDefEqProofs only [go_sem, d1]
   exact aT p2.1 ⟨rfl, p2, p3⟩
 ·rw [hK] at hf ⊢
  have b1 : ((4 : Int) == 1) = false := rfl
  have b2 : ((4 : Int) == 2) = false := rfl
  have b3 : ((4 : Int) == 4) = true := rfl
  rw [if_neg (by decide), if_neg (by decide), if_pos b3] at hf ⊢
  rw [aW, bT]
  have hs : (textW t.s).length <= 2000 := hf.2.2 (.p (textW t.s)) (by simp)
  simp -implicitDefEqProofs only [go_sem, c116, r116, hK, b1, b2, b3]
  refine aC hC (h164 t.s (by omega)) ?_
  simp -implicitDefEqProofs only [go_sem]
  refine aI hC (h115 hG (textW t.s) (by omega) hl hs (hwa _)) fun x h2 ⟨x1, k2, w2⟩ => ?_
  subst x1
  simp -implicitDefEqProofs only [go_sem]
  exact aT ((ka _).trans k2).1 ⟨rfl, (ka _).trans k2, w2⟩
 ·rw [hK] at hf ⊢
  have b1 : ((5 : Int) == 1) = false := rfl
  have b2 : ((5 : Int) == 2) = false := rfl
  have b3 : ((5 : Int) == 4) = false := rfl
  have b4 : ((5 : Int) == 3) = false := rfl
  have b5 : ((5 : Int) == 6) = false := rfl
  have b6 : ((5 : Int) == 5) = true := rfl
  rw [if_neg (by decide), if_neg (by decide), if_neg (by decide), if_neg (by decide), if_neg (by decide)] at hf ⊢
  simp -implicitDefEqProofs only [go_sem, c116, r116, hK, b1, b2, b3, b4, b5, b6]
  have fe : AV.agg [.v (.int .i64 5), .v (.int .i64 t.n), .str t.s, .sl 4 (t.l.map enc)] = enc t := by rw [cT, hK]
  simp only [fe]
  refine aC hC (h161 t) ?_
  rcases hC2 : isCell t with _ | _
  rotate_left
  ·rw [hC2, if_pos rfl] at hf
   rw [if_pos rfl]
   simp -implicitDefEqProofs only [go_sem, fe]
   refine aI hC (h166 hG hT hN.keep t hC2 hsz hs3 hg hf (hN.keep _ _ hnp (ka _)) (hwa _)) fun x h2 ⟨x1, k2, w2⟩ => ?_
   subst x1
   simp -implicitDefEqProofs only [go_sem]
   exact aT ((ka _).trans k2).1 ⟨rfl, (ka _).trans k2, w2⟩
  ·rw [hC2, if_neg (by simp)] at hf
   rw [if_neg (by simp)]
   rw [aW, aW, cB, aW, bT]
   have hs : (functorW t.s).length <= 2000 := hf.2.2 (.p (functorW t.s)) (by simp)
   have f1 := hf.cons
   have f2 := f1.cons
   have f3 := f2.app.2
   simp -implicitDefEqProofs only [go_sem]
   refine aC hC (h167 hG t.s (by omega)) ?_
   simp -implicitDefEqProofs only [go_sem]
   refine aI hC (h115 hG (functorW t.s) (by omega) hl hs (hwa _)) fun x h2 ⟨x1, k2, w2⟩ => ?_
   subst x1
   have c3 : h2[h.length]? = some (.cells 31 [.v (.int .i64 t.kind), .v (.int .i64 t.n), .str t.s, .sl 4 (t.l.map enc)]) := k2.bd (by rw [dG, hK]; rfl) hn3
   have k02 := (ka _).trans k2
   obtain ⟨p2, v2, hk2, hp2, hv2⟩ := w2.get
   have hk2_g := fun l => aF (l := l) hk2
   have hk2_s := fun o l => aG (l := l) hk2 o
   have hk2_e := fun o l => aD (o := o) (l := l) hk2
   have hk2_h := fun o => aH (o := o) hk2
   simp -implicitDefEqProofs only [go_sem]
   refine aI hC (h80 (T := 105) (rest := [.str (functorW t.s), .fn (.func fN) [] cap, .b pl, .b false]) 40 jP (by have := f1.b; have e : stepW nf (.p (functorW t.s)) w = putW (functorW t.s) w := rfl; rw [e] at this; omega) w2) fun x h3 ⟨k3, b3⟩ => ?_
   obtain ⟨p3, v3, hk3, hp3, hv3⟩ := b3
   have c3b := k3.bd c3 hn3
   have k03 := k02.trans k3
   have w4 : WrAt (stepW nf .g (stepW nf (.p (functorW t.s)) w)) (.fn (.func fN) [] cap) pl k (h3.set k (.cells 105 [p3, v3, .str [40], .fn (.func fN) [] cap, .b pl, .b false])) := ⟨p3, v3, aH hk3, hp3, dF hv3 hk3⟩
   have k04 := k03.trans (dE (.cells 105 [p3, v3, .str [40], .fn (.func fN) [] cap, .b pl, .b false]) hk3)
   have c4 : ∀ X, (h3.set k X)[h.length]? = some (.cells 31 [.v (.int .i64 t.kind), .v (.int .i64 t.n), .str t.s, .sl 4 (t.l.map enc)]) := fun X => by rw [aE hn3.symm]; exact c3b
   have hk3_g := fun l => aF (l := l) hk3
   have hk3_s := fun o l => aG (l := l) hk3 o
   have hk3_e := fun o l => aD (o := o) (l := l) hk3
   have hk3_h := fun o => aH (o := o) hk3
   simp -implicitDefEqProofs only [go_sem, hk3, c4]
   refine aI hC (h165 hG (hT f (Nat.le_refl _)) hN.keep t.l hch g3 (by omega) f2.app.1 (hN.keep _ _ hnp k04) w4) fun x h5 ⟨x1, k5, w5⟩ => ?_
   subst x1
   have k05 := k04.trans k5
   simp -implicitDefEqProofs only [go_sem]
   refine aI hC (h115 hG [41] (by have := f3.b; omega) f3.2.1 (by decide) w5) fun x h6 ⟨x1, k6, w6⟩ => ?_
   subst x1
   simp -implicitDefEqProofs only [go_sem]
   exact aT (k05.trans k6).1 ⟨rfl, k05.trans k6, w6⟩
 ·rw [hK] at hf ⊢
  have b1 : ((6 : Int) == 1) = false := rfl
  have b2 : ((6 : Int) == 2) = false := rfl
  have b3 : ((6 : Int) == 4) = false := rfl
  have b4 : ((6 : Int) == 3) = false := rfl
  have b5 : ((6 : Int) == 6) = true := rfl
  rw [if_neg (by decide), if_neg (by decide), if_neg (by decide), if_neg (by decide), if_pos b5] at hf ⊢
  rw [aW, cB, aW, bT]
  have f1 := hf.cons
  have f2 := f1.app.2
  simp -implicitDefEqProofs only [go_sem, c116, r116, hK, b1, b2, b3, b4, b5]
  refine aI hC (h115 hG [123] (by omega) hl (by decide) (hwa _)) fun x h2 ⟨x1, k2, w2⟩ => ?_
  subst x1
  have c3 : h2[h.length]? = some (.cells 31 [.v (.int .i64 t.kind), .v (.int .i64 t.n), .str t.s, .sl 4 (t.l.map enc)]) := k2.bd (by rw [dG, hK]; rfl) hn3
  have k02 := (ka _).trans k2
  have c3_g := fun l => aF (l := l) c3
  have c3_s := fun o l => aG (l := l) c3 o
  have c3_e := fun o l => aD (o := o) (l := l) c3
  have c3_h := fun o => aH (o := o) c3
  simp -implicitDefEqProofs only [go_sem, c3]
  refine aI hC (h165 hG (hT f (Nat.le_refl _)) hN.keep t.l hch g3 (by omega) f1.app.1 (hN.keep _ _ hnp k02) w2) fun x h3 ⟨x1, k3, w3⟩ => ?_
  subst x1
  have k03 := k02.trans k3
  simp -implicitDefEqProofs only [go_sem]
  refine aI hC (h115 hG [125] (by have := f2.b; omega) f2.2.1 (by decide) w3) fun x h4 ⟨x1, k4, w4⟩ => ?_
  subst x1
  simp -implicitDefEqProofs only [go_sem]
  exact aT (k03.trans k4).1 ⟨rfl, k03.trans k4, w4⟩
end
theorem WrAt.all {w : Ws} {nv : AV} {pl : Bool} {k : Nat} {h h' : List AObj} (hw : WrAt w nv pl k h) (a : Keep All h h') : WrAt w nv pl k h' := by
 obtain ⟨p, v, h1, h2, h3⟩ := hw
 exact ⟨p, v, a.got h1, h2, h3.imp id fun ⟨b, e, hb⟩ => ⟨b, e, a.got hb⟩⟩
theorem kO {s : Str} {o : Opr} : ∀ {m : List (Str × Opr)}, assoc s m = some o -> (s, o) ∈ m
 | (k, q) :: r, h => by
  rw [assoc] at h
  split at h
  ·rename_i e
   cases h
   simp at e
   simp [e]
  ·exact List.mem_cons_of_mem _ (kO h)
theorem tab_prio : (∀ p ∈ infixT, p.2.prio <= 1200) /\ ∀ p ∈ prefixT, p.2.prio <= 1200 := by
 constructor <;> decide
theorem oA {pl : Bool} {t : Tm} {o : Opr} {b : Bool} (h : formW pl t = some (o, b)) : o.prio <= 1200 /\ if b then ∃ x y, t.l = [x, y] else ∃ x, t.l = [x] := by
 unfold formW at h
 cases hi : infixW pl t with
 | some q =>
  rw [hi] at h
  cases h
  unfold infixW at hi
  split at hi
  ·rename_i hk
   simp only [Bool.and_eq_true, beq_iff_eq] at hk
   refine ⟨tab_prio.1 _ (kO hi), ?_⟩
   have h2 := hk.2
   rw [if_pos rfl]
   match t.l, h2 with
   | [x, y], _ => exact ⟨x, y, rfl⟩
  ·cases hi
 | none =>
  rw [hi] at h
  cases hs : signW pl t with
  | none => rw [hs] at h; cases h
  | some q =>
   rw [hs] at h
   cases h
   obtain ⟨a, c⟩ := qB hs
   simp only [Bool.and_eq_true, beq_iff_eq] at a
   refine ⟨tab_prio.2 _ (kO c), ?_⟩
   have h2 := a.2
   rw [if_neg (by simp)]
   match t.l, h2 with
   | [x], _ => exact ⟨x, rfl⟩
section
variable {nf : Int -> Str} {gd : Int -> Prop} {fN : FuncId} {cap : List AV} {NP : List AObj -> Prop} {k : Nat} {pl : Bool}
theorem h77a (hG : GLok GL) {f : Nat} (hT : ∀ g, g <= f -> WT GL nf gd (.fn (.func fN) [] cap) NP k pl g) (hN : Nms GL nf gd fN cap NP k) (lim : Int) (t : Tm) {w : Ws} {h : List AObj} (hsz : 2 * t.size <= f + 1) (hs3 : t.size < 2 ^ 30) (hg : t.gw gd) (hf : Fits nf w (itW (f + 1) pl lim t)) (hnp : NP h) (hw : WrAt w (.fn (.func fN) [] cap) pl k h) (hlim : ∀ o b, formW pl t = some (o, b) -> ¬ o.prio > lim) :
  Wrote GL nf (.fn (.func fN) [] cap) pl k 77 [enc t, .i lim] w (itW (f + 1) pl lim t) h := by
 have hlt := hw.lt
 have hn3 : h.length ≠ k := by omega
 have ps := cF t
 obtain ⟨g1, g2, g3⟩ := (nY t).1 hg
 refine k77.gives (by simp) ?_
 simp -implicitDefEqProofs only [go_sem, c77, r77]
 refine aJ hC (h114 t (hw.app _)) fun x h2 ⟨kp, hx⟩ => ?_
 have c4 : h2[h.length]? = some (.cells 31 [.v (.int .i64 t.kind), .v (.int .i64 t.n), .str t.s, .sl 4 (t.l.map enc)]) := kp.got (by rw [dG]; rfl)
 have w2 := (hw.app _).all kp
 have k02 : Keep (BdK k) h h2 := ((Keep.app All h [.cells 31 [.v (.int .i64 t.kind), .v (.int .i64 t.n), .str t.s, .sl 4 (t.l.map enc)]]).trans kp).of_all
 have hlt2 := w2.lt
 have l2 := k02.1
 have l4 := aL c4
 unfold FormIs at hx
 rw [itW] at hf ⊢
 have c4_g := fun l => aF (l := l) c4
 have c4_s := fun o l => aG (l := l) c4 o
 have c4_e := fun o l => aD (o := o) (l := l) c4
 have c4_h := fun o => aH (o := o) c4
 rcases hF : formW pl t with _ | ⟨o, b⟩
 ·rw [hF] at hx hf
  obtain ⟨o, b, rfl⟩ := hx
  obtain ⟨f', rfl⟩ : ∃ f', f = f' + 1 := ⟨f - 1, by omega⟩
  simp only [encOp]
  simp -implicitDefEqProofs only [go_sem, c4_g, bC]
  refine aI hC (h116 hG (fun g hg => hT g (by omega)) hN t (by omega) hs3 hg hf (hN.keep _ _ hnp (k02.more _)) (w2.app _)) fun x h3 ⟨x1, k3, w3⟩ => ?_
  subst x1
  simp -implicitDefEqProofs only [go_sem]
  exact aT ((k02.more _).trans k3).1 ⟨rfl, (k02.more _).trans k3, w3⟩
 ·rw [hF] at hx hf
  subst hx
  have hp := hlim o b hF
  have d1 : decide (o.prio > lim) = false := decide_eq_false hp
  obtain ⟨-, hl⟩ := oA hF
  simp only [encOp]
  have c4a : ∀ l, (h2 ++ l)[h.length]? = some (.cells 31 [.v (.int .i64 t.kind), .v (.int .i64 t.n), .str t.s, .sl 4 (t.l.map enc)]) := fun l => aM c4
  have n6 : h2.length ≠ k := by omega
  rcases b with _ | _
  ·rw [if_neg (by simp)] at hl
   obtain ⟨a, hl⟩ := hl
   have hsa : t.size = a.size + 1 := by rw [cO, hl]; simp [sizes]
   rw [hl] at g3
   simp only [inB, d1, hl, List.getD_cons_zero] at hf ⊢
   rw [if_neg (by simp)] at hf ⊢
   have f1 := hf.cons
   rw [aW]
   simp -implicitDefEqProofs only [go_sem, c4_g, d1]
   refine aI hC (h115 hG t.s (by have := hf.b; omega) hf.2.1 (hf.2.2 (.f t.s) (by simp)) (w2.app _)) fun x h3 ⟨x1, k3, w3⟩ => ?_
   subst x1
   have c4b := k3.bd (c4a _) hn3
   have c6 : h3[h2.length]? = some (.cells 51 [.i o.prio, .i o.left, .i o.right]) := k3.bd (by rw [dG]; rfl) n6
   obtain ⟨p3, v3, hk3, hp3, hv3⟩ := w3.get
   have w4 : WrAt (stepW nf (.f t.s) w) (.fn (.func fN) [] cap) pl k (h3.set k (.cells 105 [p3, v3, .str t.s, .fn (.func fN) [] cap, .b pl, .b true])) := ⟨p3, v3, aH hk3, hp3, dF hv3 hk3⟩
   have k04 := ((k02.more [.cells 51 [.i o.prio, .i o.left, .i o.right]]).trans k3).trans (dE (.cells 105 [p3, v3, .str t.s, .fn (.func fN) [] cap, .b pl, .b true]) hk3)
   have c4s : ∀ X, (h3.set k X)[h.length]? = some (.cells 31 [.v (.int .i64 t.kind), .v (.int .i64 t.n), .str t.s, .sl 4 (t.l.map enc)]) := fun X => by rw [aE hn3.symm]; exact c4b
   have c6s : ∀ X, (h3.set k X)[h2.length]? = some (.cells 51 [.i o.prio, .i o.left, .i o.right]) := fun X => by rw [aE n6.symm]; exact c6
   have d2 : IntKind.i64.wrap (((1 : Nat) : Int) - 1) = 0 := by rw [aK _ (by omega)]; omega
   have hk3_g := fun l => aF (l := l) hk3
   have hk3_s := fun o l => aG (l := l) hk3 o
   have hk3_e := fun o l => aD (o := o) (l := l) hk3
   have hk3_h := fun o => aH (o := o) hk3
   simp -implicitDefEqProofs only [go_sem, hk3, c4s, c6s, hl, List.map_cons, List.length_cons, List.length_nil, Nat.zero_add, d2, Int.reduceToNat, Nat.reduceAdd, List.getD_cons_zero]
   refine ⟨⟨by decide, by decide⟩, ?_⟩
   refine aI hC (hT f (Nat.le_refl _) o.right a _ _ (by omega) (by omega) g3.1 f1 (hN.keep _ _ hnp k04) w4) fun x h5 ⟨x1, k5, w5⟩ => ?_
   subst x1
   simp -implicitDefEqProofs only [go_sem]
   exact aT (k04.trans k5).1 ⟨rfl, k04.trans k5, w5⟩
  ·rw [if_pos rfl] at hl
   obtain ⟨a, b, hl⟩ := hl
   have hsa : t.size = a.size + b.size + 1 := by rw [cO, hl]; simp [sizes]
   have pa := cF a
   have pb := cF b
   rw [hl] at g3
   simp only [inB, d1, hl, List.getD_cons_zero, List.getD_cons_succ] at hf ⊢
   rw [if_neg (by simp)] at hf ⊢
   have fa := hf.app.1
   have f1 := hf.app.2
   rw [cB, aW]
   simp -implicitDefEqProofs only [go_sem, c4_g, d1, hl, List.map_cons, Int.reduceToNat, Nat.reduceAdd, List.getD_cons_zero]
   refine ⟨⟨by decide, by decide⟩, ?_⟩
   refine aI hC (hT f (Nat.le_refl _) o.left a _ _ (by omega) (by omega) g3.1 fa (hN.keep _ _ hnp (k02.more _)) (w2.app _)) fun x h3 ⟨x1, k3, w3⟩ => ?_
   subst x1
   have c4b := k3.bd (c4a _) hn3
   have c6 : h3[h2.length]? = some (.cells 51 [.i o.prio, .i o.left, .i o.right]) := k3.bd (by rw [dG]; rfl) n6
   have k03 := (k02.more [.cells 51 [.i o.prio, .i o.left, .i o.right]]).trans k3
   have c4b_g := fun l => aF (l := l) c4b
   have c4b_s := fun o l => aG (l := l) c4b o
   have c4b_e := fun o l => aD (o := o) (l := l) c4b
   have c4b_h := fun o => aH (o := o) c4b
   simp -implicitDefEqProofs only [go_sem, c4b]
   refine aI hC (h115 hG t.s (by have := f1.b; omega) f1.2.1 (f1.2.2 (.p t.s) (by simp)) w3) fun x h4 ⟨x1, k4, w4⟩ => ?_
   subst x1
   have c4c := k4.bd c4b hn3
   have c6b := k4.bd c6 n6
   obtain ⟨p4, v4, hk4, hp4, hv4⟩ := w4.get
   have w5 : WrAt (stepW nf (.p t.s) (stepsW nf (itW f pl o.left a) w)) (.fn (.func fN) [] cap) pl k (h4.set k (.cells 105 [p4, v4, .str t.s, .fn (.func fN) [] cap, .b pl, .b false])) := ⟨p4, v4, aH hk4, hp4, dF hv4 hk4⟩
   have k05 := (k03.trans k4).trans (dE (.cells 105 [p4, v4, .str t.s, .fn (.func fN) [] cap, .b pl, .b false]) hk4)
   have c4s : ∀ X, (h4.set k X)[h.length]? = some (.cells 31 [.v (.int .i64 t.kind), .v (.int .i64 t.n), .str t.s, .sl 4 (t.l.map enc)]) := fun X => by rw [aE hn3.symm]; exact c4c
   have c6s : ∀ X, (h4.set k X)[h2.length]? = some (.cells 51 [.i o.prio, .i o.left, .i o.right]) := fun X => by rw [aE n6.symm]; exact c6b
   have d2 : IntKind.i64.wrap (((1 + 1 : Nat) : Int) - 1) = ((1 : Nat) : Int) := by rw [aK _ (by omega)]; omega
   have hk4_g := fun l => aF (l := l) hk4
   have hk4_s := fun o l => aG (l := l) hk4 o
   have hk4_e := fun o l => aD (o := o) (l := l) hk4
   have hk4_h := fun o => aH (o := o) hk4
   simp -implicitDefEqProofs only [go_sem, hk4, c4s, c6s, hl, List.map_cons, List.length_cons, List.length_nil, Nat.zero_add, d2, Int.toNat_natCast, Nat.reduceAdd, List.getD_cons_zero, List.getD_cons_succ]
   refine aI hC (hT f (Nat.le_refl _) o.right b _ _ (by omega) (by omega) g3.2.1 f1.cons (hN.keep _ _ hnp k05) w5) fun x h6 ⟨x1, k6, w6⟩ => ?_
   subst x1
   simp -implicitDefEqProofs only [go_sem]
   exact aT (k05.trans k6).1 ⟨rfl, k05.trans k6, w6⟩
theorem h77 (hG : GLok GL) {f : Nat} (hT : ∀ g, g < f -> WT GL nf gd (.fn (.func fN) [] cap) NP k pl g) (hN : Nms GL nf gd fN cap NP k) : WT GL nf gd (.fn (.func fN) [] cap) NP k pl f := by
 intro lim t w h hsz hs3 hg hf hnp hw
 have ps := cF t
 obtain ⟨f, rfl⟩ : ∃ g, f = g + 1 := ⟨f - 1, by omega⟩
 have hT' : ∀ g, g <= f -> WT GL nf gd (.fn (.func fN) [] cap) NP k pl g := fun g hg => hT g (by omega)
 by_cases hlim : ∀ o b, formW pl t = some (o, b) -> ¬ o.prio > lim
 ·exact h77a hG hT' hN lim t hsz hs3 hg hf hnp hw hlim
 obtain ⟨o, b, hF, hp⟩ : ∃ o b, formW pl t = some (o, b) /\ o.prio > lim := by
  rcases hF : formW pl t with _ | ⟨o, b⟩
  ·exact absurd (fun o b e => by rw [hF] at e; cases e) hlim
  ·by_cases hp : o.prio > lim
   ·exact ⟨o, b, rfl, hp⟩
   ·exact absurd (fun o' b' e => by rw [hF] at e; cases e; exact hp) hlim
 obtain ⟨hpr, -⟩ := oA hF
 have e1 : ∃ l, itW (f + 1) pl 1200 t = l /\ itW (f + 1) pl lim t = .o :: (l ++ [.p [41]]) := by
  refine ⟨_, rfl, ?_⟩
  have d1 : decide (o.prio > lim) = true := decide_eq_true hp
  have d2 : decide (o.prio > 1200) = false := decide_eq_false (by omega)
  rw [itW, itW, hF]
  rcases b with _ | _ <;> simp only [inB, d1, d2, if_true, Bool.false_eq_true, if_false]
 obtain ⟨l, e1, e2⟩ := e1
 rw [e2] at hf ⊢
 have hlt := hw.lt
 have hn3 : h.length ≠ k := by omega
 refine k77.gives (by simp) ?_
 simp -implicitDefEqProofs only [go_sem, c77, r77]
 refine aJ hC (h114 t (hw.app _)) fun x h2 ⟨kp, hx⟩ => ?_
 have c4 : h2[h.length]? = some (.cells 31 [.v (.int .i64 t.kind), .v (.int .i64 t.n), .str t.s, .sl 4 (t.l.map enc)]) := kp.got (by rw [dG]; rfl)
 have w2 := (hw.app _).all kp
 have k02 : Keep (BdK k) h h2 := ((Keep.app All h [.cells 31 [.v (.int .i64 t.kind), .v (.int .i64 t.n), .str t.s, .sl 4 (t.l.map enc)]]).trans kp).of_all
 have d1 : decide (o.prio > lim) = true := decide_eq_true hp
 have c4a : ∀ l, (h2 ++ l)[h.length]? = some (.cells 31 [.v (.int .i64 t.kind), .v (.int .i64 t.n), .str t.s, .sl 4 (t.l.map enc)]) := fun l => aM c4
 unfold FormIs at hx
 rw [hF] at hx
 subst hx
 simp only [encOp]
 have f1 := hf.cons
 have f2 := f1.app
 rw [aW, cB, aW, bT]
 obtain ⟨p2, v2, hk2, hp2, hv2⟩ := (w2.app [.cells 51 [.i o.prio, .i o.left, .i o.right]]).get
 rcases hB : w.before with _ | _
 ·rw [hB] at hk2
  have hk2_g := fun l => aF (l := l) hk2
  have hk2_s := fun o l => aG (l := l) hk2 o
  have hk2_e := fun o l => aD (o := o) (l := l) hk2
  have hk2_h := fun o => aH (o := o) hk2
  simp -implicitDefEqProofs only [go_sem, d1, hk2]
  refine aI hC (h115 hG [40] (by have := hf.b; omega) hf.2.1 (by decide) (w2.app _)) fun x h3 ⟨x1, k3, w3⟩ => ?_
  subst x1
  have k2m := k02.more [.cells 51 [.i o.prio, .i o.left, .i o.right]]
  have w3' : WrAt (stepW nf .o w) (.fn (.func fN) [] cap) pl k h3 := by rw [stepW, hB]; exact w3
  have c4m := c4a [.cells 51 [.i o.prio, .i o.left, .i o.right]]
  have c4b := k3.bd c4m hn3
  have c4b_g := fun l => aF (l := l) c4b
  have c4b_s := fun o l => aG (l := l) c4b o
  have c4b_e := fun o l => aD (o := o) (l := l) c4b
  have c4b_h := fun o => aH (o := o) c4b
  simp -implicitDefEqProofs only [go_sem, c4b, bC]
  have hf3 : Fits nf (stepW nf .o w) (itW (f + 1) pl 1200 t) := by rw [e1]; exact f2.1
  refine aI hC (h77a hG hT' hN 1200 t hsz hs3 hg hf3 (hN.keep _ _ hnp (k2m.trans k3)) w3' fun o' b' e => by rw [hF] at e; cases e; omega) fun x h5 ⟨x1, k5, w5⟩ => ?_
  subst x1
  rw [e1] at w5
  have k05 := (k2m.trans k3).trans k5
  simp -implicitDefEqProofs only [go_sem]
  refine aI hC (h115 hG [41] (by have := f2.2.b; omega) f2.2.2.1 (by decide) w5) fun x h6 ⟨x1, k6, w6⟩ => ?_
  subst x1
  simp -implicitDefEqProofs only [go_sem]
  exact aT (k05.trans k6).1 ⟨rfl, k05.trans k6, w6⟩
 ·rw [hB] at hk2
  have hk2_g := fun l => aF (l := l) hk2
  have hk2_s := fun o l => aG (l := l) hk2 o
  have hk2_e := fun o l => aD (o := o) (l := l) hk2
  have hk2_h := fun o => aH (o := o) hk2
  simp -implicitDefEqProofs only [go_sem, d1, hk2]
  refine aI hC (h80 (T := 105) (rest := [.str w.last, .fn (.func fN) [] cap, .b pl, .b true]) 32 jP (by have := hf.b; omega) ⟨p2, v2, hk2, hp2, hv2⟩) fun x h3 ⟨k3, b3⟩ => ?_
  obtain ⟨p3, v3, hk3, hp3, hv3⟩ := b3
  have w3 : WrAt ⟨w.b ++ [32], [], true⟩ (.fn (.func fN) [] cap) pl k (h3.set k (.cells 105 [p3, v3, .str [], .fn (.func fN) [] cap, .b pl, .b true])) := ⟨p3, v3, aH hk3, hp3, dF hv3 hk3⟩
  have k2m := ((k02.more [.cells 51 [.i o.prio, .i o.left, .i o.right]]).trans k3).trans (dE (.cells 105 [p3, v3, .str [], .fn (.func fN) [] cap, .b pl, .b true]) hk3)
  have c4m : (h3.set k (.cells 105 [p3, v3, .str [], .fn (.func fN) [] cap, .b pl, .b true]))[h.length]? = some (.cells 31 [.v (.int .i64 t.kind), .v (.int .i64 t.n), .str t.s, .sl 4 (t.l.map enc)]) := by rw [aE hn3.symm]; exact k3.bd (c4a _) hn3
  have hk3_g := fun l => aF (l := l) hk3
  have hk3_s := fun o l => aG (l := l) hk3 o
  have hk3_e := fun o l => aD (o := o) (l := l) hk3
  have hk3_h := fun o => aH (o := o) hk3
  simp -implicitDefEqProofs only [go_sem, hk3]
  refine aI hC (h115 hG [40] (by have := hf.b; simp; omega) (by simp) (by decide) w3) fun x h4 ⟨x1, k4, w4⟩ => ?_
  subst x1
  have w4' : WrAt (stepW nf .o w) (.fn (.func fN) [] cap) pl k h4 := by rw [stepW, hB]; exact w4
  have c4b := k4.bd c4m hn3
  have c4b_g := fun l => aF (l := l) c4b
  have c4b_s := fun o l => aG (l := l) c4b o
  have c4b_e := fun o l => aD (o := o) (l := l) c4b
  have c4b_h := fun o => aH (o := o) c4b
  simp -implicitDefEqProofs only [go_sem, c4b, bC]
  have hf3 : Fits nf (stepW nf .o w) (itW (f + 1) pl 1200 t) := by rw [e1]; exact f2.1
  refine aI hC (h77a hG hT' hN 1200 t hsz hs3 hg hf3 (hN.keep _ _ hnp (k2m.trans k4)) w4' fun o' b' e => by rw [hF] at e; cases e; omega) fun x h5 ⟨x1, k5, w5⟩ => ?_
  subst x1
  rw [e1] at w5
  have k05 := (k2m.trans k4).trans k5
  simp -implicitDefEqProofs only [go_sem]
  refine aI hC (h115 hG [41] (by have := f2.2.b; omega) f2.2.2.1 (by decide) w5) fun x h6 ⟨x1, k6, w6⟩ => ?_
  subst x1
  simp -implicitDefEqProofs only [go_sem]
  exact aT (k05.trans k6).1 ⟨rfl, k05.trans k6, w6⟩
theorem t77 (hG : GLok GL) (hN : Nms GL nf gd fN cap NP k) (f : Nat) : WT GL nf gd (.fn (.func fN) [] cap) NP k pl f := by
 induction f using Nat.strongRecOn with
 | _ f ih => exact h77 hG ih hN
end
end Go.Rip
namespace Go.Rip
open Go
structure Sm (nf : Int -> Str) (gd : Int -> Prop) (f : Nat) : Prop where
 t : ∀ pl lim t, Tm.gw gd t -> (itW f pl lim t).length + 1 <= 5 * t.size /\ ∀ i ∈ itW f pl lim t, (i.str nf).length <= 2000
 s : ∀ pl t, Tm.gw gd t -> (itS f pl t).length + 1 <= 5 * t.size /\ ∀ i ∈ itS f pl t, (i.str nf).length <= 2000
 c : ∀ pl t, Tm.gw gd t -> (itC f pl t).length <= 5 * t.size + 1 /\ ∀ i ∈ itC f pl t, (i.str nf).length <= 2000
theorem inB_len (nf : Int -> Str) (b : Bool) (l : List It) (n : Nat) (h : l.length <= n /\ ∀ i ∈ l, (i.str nf).length <= 2000) : (inB b l).length <= n + 2 /\ ∀ i ∈ inB b l, (i.str nf).length <= 2000 := by
 unfold inB
 split
 ·refine ⟨by simp; omega, fun i hi => ?_⟩
  simp only [List.mem_cons, List.mem_append, List.not_mem_nil, or_false] at hi
  rcases hi with rfl | hi | rfl
  ·simp [It.str]
  ·exact h.2 i hi
  ·simp [It.str]
 ·exact ⟨by omega, h.2⟩
theorem oU {nf : Int -> Str} {F : Tm -> List It} : ∀ (l : List Tm), (∀ x ∈ l, (F x).length + 1 <= 5 * x.size /\ ∀ i ∈ F x, (i.str nf).length <= 2000) -> (commas (l.map F)).length <= 5 * sizes l /\ ∀ i ∈ commas (l.map F), (i.str nf).length <= 2000
 | [], _ => ⟨by simp [commas], by simp [commas]⟩
 | [x], h => by
  obtain ⟨a, b⟩ := h x (by simp)
  exact ⟨by simp only [List.map_cons, List.map_nil, commas, sizes]; omega, by simpa [commas] using b⟩
 | x :: y :: r, h => by
  obtain ⟨a, b⟩ := h x (by simp)
  obtain ⟨a', b'⟩ := oU (y :: r) fun z hz => h z (List.mem_cons_of_mem _ hz)
  simp only [List.map_cons] at a' b'
  refine ⟨?_, fun i hi => ?_⟩
  ·simp only [List.map_cons, commas, List.length_append, List.length_cons, sizes] at a' ⊢
   omega
  ·simp only [List.map_cons, commas, List.mem_append, List.mem_cons] at hi
   rcases hi with hi | rfl | hi
   ·exact b i hi
   ·simp [It.str]
   ·exact b' i hi
theorem esc_len {q : UInt8} {other : UInt8 -> Str} (ho : ∀ c, (other c).length <= 4) (s : Str) (hs : s.length <= 255) : (escL q other s).length <= 2000 := by
 have := lE (q := q) ho s
 unfold escL
 simp only [List.length_cons, List.length_append, List.length_nil]
 omega
theorem textW_len {s : Str} (hs : s.length <= 255) : (textW s).length <= 2000 := esc_len (fun c => by split <;> simp) s hs
theorem nM {s : Str} (hs : s.length <= 255) : (quoteW s).length <= 2000 := esc_len (fun c => by simp) s hs
theorem sm {nf : Int -> Str} {gd : Int -> Prop} (hnf : ∀ i, gd i -> (nf i).length <= 2000) : ∀ f, Sm nf gd f
 | 0 => ⟨fun pl lim t _ => (by have := cF t; rw [itW]; exact ⟨by simp; omega, by simp⟩), fun pl t _ => (by have := cF t; rw [itS]; exact ⟨by simp; omega, by simp⟩), fun pl t _ => (by rw [itC]; exact ⟨by simp, by simp⟩)⟩
 | f + 1 => by
  have ih := sm hnf f
  refine ⟨?_, ?_, ?_⟩
  ·intro pl lim t hg
   obtain ⟨g1, g2, g3⟩ := (nY t).1 hg
   obtain ⟨n1, n2, n3, n4, n5⟩ := jR g1
   rw [itW]
   rcases hF : formW pl t with _ | ⟨o, b⟩
   ·exact ih.s pl t hg
   ·obtain ⟨-, hl⟩ := oA hF
    rcases b with _ | _
    ·rw [if_neg (by simp)] at hl
     obtain ⟨a, hl⟩ := hl
     have hsa : t.size = a.size + 1 := by rw [cO, hl]; simp [sizes]
     rw [hl] at g3
     simp only [hl, List.getD_cons_zero]
     obtain ⟨a1, a2⟩ := ih.t pl o.right a g3.1
     have := inB_len nf (decide (o.prio > lim)) (.f t.s :: itW f pl o.right a) (5 * a.size) ⟨by simp; omega, fun i hi => by
      rcases List.mem_cons.1 hi with rfl | hi
      ·simp only [It.str]; omega
      ·exact a2 i hi⟩
     exact ⟨by omega, this.2⟩
    ·rw [if_pos rfl] at hl
     obtain ⟨a, b, hl⟩ := hl
     have hsa : t.size = a.size + b.size + 1 := by rw [cO, hl]; simp [sizes]
     rw [hl] at g3
     simp only [hl, List.getD_cons_zero, List.getD_cons_succ]
     obtain ⟨a1, a2⟩ := ih.t pl o.left a g3.1
     obtain ⟨b1, b2⟩ := ih.t pl o.right b g3.2.1
     have := inB_len nf (decide (o.prio > lim)) (itW f pl o.left a ++ (.p t.s :: itW f pl o.right b)) (5 * a.size + 5 * b.size) ⟨by simp; omega, fun i hi => by
      rcases List.mem_append.1 hi with hi | hi
      ·exact a2 i hi
      rcases List.mem_cons.1 hi with rfl | hi
      ·simp only [It.str]; omega
      ·exact b2 i hi⟩
     exact ⟨by omega, this.2⟩
  ·intro pl t hg
   obtain ⟨g1, g2, g3⟩ := (nY t).1 hg
   obtain ⟨n1, n2, n3, n4, n5⟩ := jR g1
   have ps := cF t
   have one : ∀ i : It, (i.str nf).length <= 2000 -> ([i] : List It).length + 1 <= 5 * t.size /\ ∀ j ∈ [i], (j.str nf).length <= 2000 := fun i hi => ⟨by simp; omega, by simpa using hi⟩
   rw [itS]
   split
   ·rename_i hk
    exact one _ (hnf _ (g2 (by simpa using hk)))
   split
   ·rename_i hk
    have hk2 : t.kind = 2 := by simpa using hk
    split
    ·refine one _ ?_
     have := kH 12 t.n.toNat (by have := (n4 hk2).2; omega)
     simp only [It.str]; omega
    ·refine one _ ?_
     have := kH 12 (-t.n).toNat (by have := (n4 hk2).1; omega)
     simp only [It.str]; omega
   split
   ·exact one _ (textW_len n1)
   split
   ·refine one _ ?_
    unfold atomW
    split
    ·simp [It.str]
    ·simp only [It.str]
     split
     ·exact nM n1
     ·omega
   have hch := oU (nf := nf) (F := itW f pl 999) t.l fun x hx => ih.t pl 999 x (qR g3 x hx)
   have hsz := cO t
   split
   ·refine ⟨by simp; omega, fun i hi => ?_⟩
    simp only [List.mem_cons, List.mem_append, List.not_mem_nil, or_false] at hi
    rcases hi with rfl | hi | rfl
    ·simp [It.str]
    ·exact hch.2 i hi
    ·simp [It.str]
   split
   ·rename_i hc
    obtain ⟨a, b, hl⟩ := kI hc
    have hsa : t.size = a.size + b.size + 1 := by rw [cO, hl]; simp [sizes]
    rw [hl] at g3
    simp only [hl, List.getD_cons_zero, List.getD_cons_succ]
    obtain ⟨a1, a2⟩ := ih.t pl 999 a g3.1
    obtain ⟨b1, b2⟩ := ih.c pl b g3.2.1
    refine ⟨by simp; omega, fun i hi => ?_⟩
    simp only [List.mem_cons, List.mem_append] at hi
    rcases hi with rfl | hi | hi
    ·simp [It.str]
    ·exact a2 i hi
    ·exact b2 i hi
   ·refine ⟨by simp; omega, fun i hi => ?_⟩
    simp only [List.mem_cons, List.mem_append, List.not_mem_nil, or_false] at hi
    rcases hi with rfl | rfl | hi | rfl
    ·simp only [It.str]
     unfold functorW
     split
     ·omega
     ·exact nM n1
    ·simp [It.str]
    ·exact hch.2 i hi
    ·simp [It.str]
  ·intro pl t hg
   rw [itC]
   split
   ·rename_i hc
    obtain ⟨g1, g2, g3⟩ := (nY t).1 hg
    obtain ⟨a, b, hl⟩ := kI hc
    have hsa : t.size = a.size + b.size + 1 := by rw [cO, hl]; simp [sizes]
    rw [hl] at g3
    simp only [hl, List.getD_cons_zero, List.getD_cons_succ]
    obtain ⟨a1, a2⟩ := ih.t pl 999 a g3.1
    obtain ⟨b1, b2⟩ := ih.c pl b g3.2.1
    refine ⟨by simp; omega, fun i hi => ?_⟩
    simp only [List.mem_cons, List.mem_append] at hi
    rcases hi with rfl | hi | hi
    ·simp [It.str]
    ·exact a2 i hi
    ·exact b2 i hi
   ·obtain ⟨a1, a2⟩ := ih.t pl 999 t hg
    split
    ·exact ⟨by simp, by simp [It.str]⟩
    ·refine ⟨by simp; omega, fun i hi => ?_⟩
     simp only [List.mem_cons, List.mem_append, List.not_mem_nil, or_false] at hi
     rcases hi with (rfl | hi) | rfl
     ·simp [It.str]
     ·exact a2 i hi
     ·simp [It.str]
mutual
theorem gw_ok {gd : Int -> Prop} (hg : ∀ i, 0 <= i -> i < 100000 -> gd i) : ∀ t : Tm, t.nodesOk = true -> t.gw gd
 | .mk k n s l, h => by
  rw [Tm.nodesOk, Bool.and_eq_true] at h
  refine ⟨h.1, fun hk => ?_, gws_ok hg l h.2⟩
  have := (jR h.1).2.2.2.2 hk
  exact hg n this.1 this.2
theorem gws_ok {gd : Int -> Prop} (hg : ∀ i, 0 <= i -> i < 100000 -> gd i) : ∀ l : List Tm, nodesOks l = true -> gws gd l
 | [], _ => trivial
 | t :: r, h => by
  rw [nodesOks, Bool.and_eq_true] at h
  exact ⟨gw_ok hg t h.1, gws_ok hg r h.2⟩
end
theorem fits_ok {nf : Int -> Str} {gd : Int -> Prop} (hnf : ∀ i, gd i -> (nf i).length <= 2000) (f : Nat) (pl : Bool) (lim : Int) (t : Tm) (hg : t.gw gd) (hs : t.size <= 4000) : Fits nf w0 (itW f pl lim t) := by
 obtain ⟨a, b⟩ := (sm hnf f).t pl lim t hg
 exact ⟨by simp only [w0, List.length_nil]; omega, by simp [w0], b⟩
end Go.Rip
namespace Go.Rip
open Go Go.Proofs
set_option maxRecDepth 100000
variable {GL : Glob}
attribute [local irreducible] Pure
def textO (nf : Int -> Str) (pl : Bool) (t : Tm) : Str × Int := if t.ok then (if (wrW nf pl t).b.length > 20000 then ([], 2) else ((wrW nf pl t).b, 0)) else ([], 3)
def textV (nf : Int -> Str) (pl : Bool) (t : Tm) : AV := .tup [.str (textO nf pl t).1, .i (textO nf pl t).2]
def WrK (_ : Nat) (o : AObj) : Prop := o = .spare 5 1
theorem ok_inv {t : Tm} (h : t.ok = true) : t.size <= 4000 /\ t.nodesOk = true := by
 unfold Tm.ok at h
 simp only [Bool.and_eq_true, decide_eq_true_eq] at h
 exact ⟨h.1, h.2.2⟩
theorem h67 (hG : GLok GL) {nf : Int -> Str} {gd : Int -> Prop} {fN : FuncId} {cap : List AV} {NP : List AObj -> Prop} {h : List AObj} (hN : Nms GL nf gd fN cap NP (h.length + 1)) (hnf : ∀ i, gd i -> (nf i).length <= 2000) (t : Tm) (pl : Bool) (ht : t.size < 2 ^ 30) (hs : t.strs) (hg : t.ok = true -> t.gw gd) (hnp : NP h) :
  Gives (PC GL) 67 [enc t, .b pl, .fn (.func fN) [] cap] h fun x h' => x = textV nf pl t /\ Keep WrK h h' := by
 refine k67.gives (by simp) ?_
 have kw : ∀ {h' : List AObj}, Keep (BdK (h.length + 1)) h h' -> Keep WrK h h' := fun a => a.mono fun i o hi e => by
  have := aL hi
  rcases e with e | e
  ·omega
  ·exact e
 unfold textV textO
 simp -implicitDefEqProofs only [go_sem, c67, r67]
 refine aC hC (h76 t ht hs) ?_
 rcases hok : t.ok with _ | _
 ·simp only [Bool.false_eq_true, if_false]
  have d1 : ((3 : Int) != 0) = true := rfl
  simp -implicitDefEqProofs only [go_sem, d1]
  exact aT (by simp) ⟨rfl, Keep.app _ _ _⟩
 ·simp only [if_true]
  have d1 : ((0 : Int) != 0) = false := rfl
  obtain ⟨o1, o2⟩ := ok_inv hok
  have hgw := hg hok
  have w0k : WrAt w0 (.fn (.func fN) [] cap) pl (h.length + 1) (h ++ [.cells 31 [.v (.int .i64 t.kind), .v (.int .i64 t.n), .str t.s, .sl 4 (t.l.map enc)], .cells 105 [.v (.pointer none), .v (.slice none 0 0), .str [], .fn (.func fN) [] cap, .b pl, .b false]]) := ⟨.v (.pointer none), .v (.slice none 0 0), by rw [aQ]; rfl, .inl rfl, .inl ⟨rfl, rfl⟩⟩
  have hsz : 2 * t.size <= wrF t := by unfold wrF; omega
  simp -implicitDefEqProofs only [go_sem, d1, List.append_assoc, bC]
  refine aI hC (t77 hG hN (wrF t) 1200 t w0 _ hsz ht hgw (fits_ok hnf _ _ _ _ hgw o1) (hN.keep _ _ hnp (Keep.app _ _ _)) w0k) fun x h2 ⟨x1, k2, w2⟩ => ?_
  subst x1
  have k02 := (Keep.app (BdK (h.length + 1)) h _).trans k2
  obtain ⟨p2, v2, hk2, hp2, hv2⟩ := id w2
  simp -implicitDefEqProofs only [go_sem]
  refine bB hC (h81 w2) ?_
  have ew : (stepsW nf (itW (wrF t) pl 1200 t) w0) = wrW nf pl t := rfl
  rw [ew] at hk2 hv2 ⊢
  by_cases hlen : (wrW nf pl t).b.length > 20000
  ·have d2 : decide (((wrW nf pl t).b.length : Int) > 20000) = true := decide_eq_true (by omega)
   simp -implicitDefEqProofs only [go_sem, d2]
   exact aT k02.1 ⟨by rw [if_pos hlen], kw k02⟩
  ·have d2 : decide (((wrW nf pl t).b.length : Int) > 20000) = false := decide_eq_false (by omega)
   simp -implicitDefEqProofs only [go_sem, d2]
   refine aJ hC (h79 hk2 hv2) fun x h3 ⟨e1, k3, _⟩ => ?_
   subst e1
   simp -implicitDefEqProofs only [go_sem]
   exact aT (Nat.le_trans k02.1 k3.1) ⟨by rw [if_neg hlen], (kw k02).trans k3⟩
theorem nmsU (hG : GLok GL) (k : Nat) : Nms GL varN (fun i => 0 <= i /\ i < 100000) 68 [] (fun _ => True) k :=
 ⟨fun i h hg _ => (h68 hG i hg.1 (by omega)).on h, fun _ _ _ _ => trivial⟩
theorem varN_len (i : Int) (h : 0 <= i /\ i < 100000) : (varN i).length <= 2000 := by
 unfold varN
 have := kH 12 (i.toNat / 26) (by omega)
 split
 ·simp only [List.length_cons]; omega
 ·simp
theorem h22 (hG : GLok GL) (t : Tm) (ht : t.size < 2 ^ 30) (hs : t.strs) : Pure (PC GL) 22 [enc t] (textV varN false t) := by
 refine aN (by simp [go_sem]) (by simp [textV, go_sem]) ?_
 refine k22.call (by simp) ?_
 simp -implicitDefEqProofs only [go_sem, c22, r22]
 refine aI hC (h67 hG (nmsU hG _) varN_len t false ht hs (fun hok => gw_ok (fun i a b => ⟨a, b⟩) t (ok_inv hok).2) trivial) fun x h2 ⟨e, k2⟩ => ?_
 subst e
 unfold textV
 simp -implicitDefEqProofs only [go_sem]
 exact aR (by simp [go_sem]) rfl
noncomputable def Tm.same (a b : Tm) : Bool := @decide (a = b) (Classical.propDecidable _)
theorem same_refl (a : Tm) : a.same a = true := by simp [Tm.same]
theorem same_iff {a b : Tm} : a.same b = true ↔ a = b := by simp [Tm.same]
theorem jD {a b : Tm} (h : a ≠ b) : a.same b = false := by simpa [Tm.same] using h
theorem Tm.ext' {a b : Tm} (h1 : a.kind = b.kind) (h2 : a.n = b.n) (h3 : a.s = b.s) (h4 : a.l = b.l) : a = b := by
 obtain ⟨_, _, _, _⟩ := a
 obtain ⟨_, _, _, _⟩ := b
 simp only [Tm.kind_mk, Tm.n_mk, Tm.s_mk, Tm.l_mk] at h1 h2 h3 h4
 subst h1 h2 h3 h4
 rfl
theorem h24 (a : Tm) (hs : a.size < 2 ^ 30) (b : Tm) : Pure (PC GL) 24 [enc a, enc b] (.b (a.same b)) := by
 induction a using wM generalizing b with
 | _ a ih =>
 rw [cO] at hs
 have h4 := eG a.l
 refine k24.pure (by simp) (by simp [go_sem]) (by simp [go_sem]) ?_
 by_cases he : a.kind = b.kind /\ a.n = b.n /\ a.s = b.s /\ a.l.length = b.l.length
 ·obtain ⟨q1, q2, q3, q4⟩ := he
  have hab : a.l = b.l -> a = b := Tm.ext' q1 q2 q3
  simp -implicitDefEqProofs only [go_sem, c24, r24, q1, q2, q3, q4, bne_self_eq_false, beq_self_eq_true, Bool.not_true]
  refine eE hC (fun j => a.l.take j = b.l.take j) (fun j => [(5, .i j)]) [2, 3, 4] b.l.length rfl ?_ ?_
  ·refine Wk.slots (by simp) ?_ ?_ <;> simp [go_sem]
  ·rintro j hj hI
   simp -implicitDefEqProofs only [go_sem]
   refine bA (fun hlt => ?_) (fun hlt => ?_)
   ·have hla := eJ hlt
    have hlt : j < b.l.length := by omega
    have w5 : IntKind.i64.wrap ((j : Int) + 1) = (j : Int) + 1 := aK _ (by omega)
    have g1 := kM hla
    simp -implicitDefEqProofs only [go_sem, hlt, q4, jS hlt, jS hla]
    refine aC hC (ih _ (List.getElem_mem hla) (by omega) _) ?_
    by_cases hx : a.l[j] = b.l[j]
    ·have := same_iff.2 hx
     simp -implicitDefEqProofs only [go_sem, this, w5, Bool.not_true]
     refine ⟨by rw [dJ hla, dJ hlt, hI, hx], Wk.slots (by simp) (by simp [go_sem]) (by simp [go_sem])⟩
    ·have hn : a.same b = false := jD (by rintro rfl; exact hx rfl)
     simp -implicitDefEqProofs only [go_sem, jD hx, Bool.not_false]
     refine aO ?_ ?_ <;> simp [go_sem, hn]
   ·have hge := eF hlt
    rw [eV hge, eV (by omega)] at hI
    have hs : a.same b = true := same_iff.2 (hab hI)
    simp -implicitDefEqProofs only [go_sem, q4]
    refine aO ?_ ?_ <;> simp [go_sem, hs]
 ·have hn : a.same b = false := jD (by rintro rfl; exact he ⟨rfl, rfl, rfl, rfl⟩)
  simp -implicitDefEqProofs only [go_sem, c24, r24]
  repeat' (first | simp -implicitDefEqProofs only [go_sem, *] | with_reducible refine bF (fun _ => ?_) (fun _ => ?_) | with_reducible refine bD (fun _ => ?_) (fun _ => ?_) | with_reducible refine bA (fun _ => ?_) (fun _ => ?_) | with_reducible refine aO ?_ ?_ | ((with_reducible refine And.intro ?bnd ?_); (case bnd => decide)) | fail)
  any_goals (simp_all [go_sem]; done)
  all_goals
   exfalso
   clear hn ih
   simp only [bne_eq_false_iff_eq, Bool.not_eq_false', beq_iff_eq] at *
   simp_all
   omega
end Go.Rip
