/- strings.Builder: WriteByte, WriteString, Len. -/
import Derived.Test.YtbndjohkaodecaaGreatDoorRipAT
import Derived.Test.YtbndjohkaodecaaGreatDoorRipAU
namespace Go.Rip
open Go Go.Proofs
set_option maxRecDepth 100000
variable {GL : Glob}
attribute [local irreducible] Pure
def BdAt (T : TypeId) (rest : List AV) (bs : List UInt8) (k : Nat) (h : List AObj) : Prop := ∃ p v, h[k]? = some (.cells T (p :: v :: rest)) /\ (p = .v (.pointer none) ∨ p = .ref k 0) /\ BdV bs v h
def BdK (k : Nat) (i : Nat) (o : AObj) : Prop := i = k ∨ o = .spare 5 1
theorem dF {bs : List UInt8} {v : AV} {h : List AObj} {k : Nat} {T : TypeId} {c c' : List AV} (hv : BdV bs v h) (hk : h[k]? = some (.cells T c)) : BdV bs v (h.set k (.cells T c')) :=
 hv.imp id fun ⟨a, e, ha⟩ => ⟨a, e, by rw [aE (aU hk ha (by simp))]; exact ha⟩
theorem h81 {T : TypeId} {rest : List AV} {bs : List UInt8} {k : Nat} {h : List AObj} (hs : BdAt T rest bs k h) : PureOn (PC GL) 81 [.ref k 0] (.i bs.length) h := by
 obtain ⟨p, v, hk, -, hv⟩ := hs
 refine k81.call (by simp) ?_
 rcases hv with ⟨rfl, rfl⟩ | ⟨a, rfl, ha⟩
 ·simp -implicitDefEqProofs only [go_sem, c81, r81, hk]
  exact aX (Nat.le_refl _) rfl
 ·simp -implicitDefEqProofs only [go_sem, c81, r81, hk]
  exact aX (Nat.le_refl _) rfl
theorem h80 {T : TypeId} {rest : List AV} {bs : List UInt8} {k : Nat} {h : List AObj} (c : UInt8) (hT : BdT T (rest.length + 2)) (hl : bs.length < 2 ^ 40) (hs : BdAt T rest bs k h) :
  Gives (PC GL) 80 [.ref k 0, .u c] h fun _ h' => Keep (BdK k) h h' /\ BdAt T rest (bs ++ [c]) k h' := by
 obtain ⟨p, v, hk, hp, hv⟩ := hs
 have hlt := aL hk
 refine k80.gives (by simp) ?_
 simp -implicitDefEqProofs only [go_sem, c80, r80]
 refine aJ hC (h117 (rest := v :: rest) hT hk hp) fun x h' ⟨e1, e2⟩ => ?_
 subst e1
 have hq : h'[k]? = some (.cells T (.ref k 0 :: v :: rest)) := by rw [e2]; exact aH hk
 have hvq : BdV bs v h' := by rw [e2]; exact dF hv hk
 have hkp : Keep (BdK k) h h' := by rw [e2]; exact Keep.set _ hk (.inl rfl)
 have hlq := aL hq
 clear e2
 have s1 : ∀ Y l', (h' ++ l').set k Y = h'.set k Y ++ l' := fun Y l' => cH hlq
 rcases hvq with ⟨rfl, rfl⟩ | ⟨a, rfl, ha⟩
 ·have hq2 := hq
  have hq_g := fun l => aF (l := l) hq
  have hq_s := fun o l => aG (l := l) hq o
  have hq_e := fun o l => aD (o := o) (l := l) hq
  have hq_h := fun o => aH (o := o) hq
  simp -implicitDefEqProofs only [go_sem, List.append_assoc, hq, hq_g, hq_s, dY, List.length_singleton]
  refine ⟨by simp, ?_⟩
  exact aT (by have := hkp.1; simp; omega) ⟨(hkp.trans (Keep.set _ hq (.inl rfl))).trans (Keep.app _ _ _), _, _, by rw [bY (by simpa using hlq), List.getElem?_set_self hlq]; rfl, .inr rfl, .inr ⟨h'.length + 1, rfl, by rw [aZ (by simp)]; simp⟩⟩
 ·have hak : a ≠ k := aU ha hq (by simp)
  have g2 : ∀ X l', (h'.set a X ++ l')[k]? = some (.cells T (.ref k 0 :: .own a 1 (bs.map byteA) :: rest)) := fun X l' => by rw [bY (by simpa using hlq), aE hak]; exact hq
  have s2 : ∀ X Y l', (h'.set a X ++ l').set k Y = (h'.set a X).set k Y ++ l' := fun X Y l' => cH (by simpa using hlq)
  have hq_g := fun l => aF (l := l) hq
  have hq_s := fun o l => aG (l := l) hq o
  have hq_e := fun o l => aD (o := o) (l := l) hq
  have hq_h := fun o => aH (o := o) hq
  have ha_g := fun l => aF (l := l) ha
  have ha_s := fun o l => aG (l := l) ha o
  have ha_e := fun o l => aD (o := o) (l := l) ha
  have ha_h := fun o => aH (o := o) ha
  simp -implicitDefEqProofs only [go_sem, List.append_assoc, hq, ha_g, ha_s, g2, s2, dY, List.length_singleton, List.length_map]
  refine ⟨by omega, ?_⟩
  exact aT (by have := hkp.1; simp; omega) ⟨((hkp.trans (Keep.set _ ha (.inr rfl))).trans (Keep.set _ (by rw [aE hak]; exact hq) (.inl rfl))).trans (Keep.app _ _ _), _, _, by rw [bY (by simpa using hlq), List.getElem?_set_self (by simpa using hlq)], .inr rfl,
   .inr ⟨h'.length + 1, by simp [byteA], by rw [aZ (by simp)]; simp⟩⟩
theorem h78 {T : TypeId} {rest : List AV} {bs : List UInt8} {k : Nat} {h : List AObj} (s : List UInt8) (hT : BdT T (rest.length + 2)) (hl : bs.length < 2 ^ 40) (hsl : s.length < 2 ^ 40) (hs : BdAt T rest bs k h) :
  Gives (PC GL) 78 [.ref k 0, .str s] h fun _ h' => Keep (BdK k) h h' /\ BdAt T rest (bs ++ s) k h' := by
 obtain ⟨p, v, hk, hp, hv⟩ := hs
 have hlt := aL hk
 refine k78.gives (by simp) ?_
 simp -implicitDefEqProofs only [go_sem, c78, r78]
 refine aJ hC (h117 (rest := v :: rest) hT hk hp) fun x h' ⟨e1, e2⟩ => ?_
 subst e1
 have hq : h'[k]? = some (.cells T (.ref k 0 :: v :: rest)) := by rw [e2]; exact aH hk
 have hvq : BdV bs v h' := by rw [e2]; exact dF hv hk
 have hkp : Keep (BdK k) h h' := by rw [e2]; exact Keep.set _ hk (.inl rfl)
 have hlq := aL hq
 clear e2
 have s1 : ∀ Y l', (h' ++ l').set k Y = h'.set k Y ++ l' := fun Y l' => cH hlq
 rcases hvq with ⟨rfl, rfl⟩ | ⟨a, rfl, ha⟩
 ·have hq2 := hq
  have hq_g := fun l => aF (l := l) hq
  have hq_s := fun o l => aG (l := l) hq o
  have hq_e := fun o l => aD (o := o) (l := l) hq
  have hq_h := fun o => aH (o := o) hq
  simp -implicitDefEqProofs only [go_sem, hq, hq_g, hq_s]
  refine ⟨by omega, ?_⟩
  exact aT (by have := hkp.1; simp; omega) ⟨(hkp.trans (Keep.set _ hq (.inl rfl))).trans (Keep.app _ _ _), _, _, by rw [bY (by simpa using hlq), List.getElem?_set_self hlq], .inr rfl, .inr ⟨h'.length, rfl, by rw [aZ (by simp)]; simp⟩⟩
 ·have hak : a ≠ k := aU ha hq (by simp)
  have g2 : ∀ X l', (h'.set a X ++ l')[k]? = some (.cells T (.ref k 0 :: .own a 1 (bs.map byteA) :: rest)) := fun X l' => by rw [bY (by simpa using hlq), aE hak]; exact hq
  have s2 : ∀ X Y l', (h'.set a X ++ l').set k Y = (h'.set a X).set k Y ++ l' := fun X Y l' => cH (by simpa using hlq)
  have hq_g := fun l => aF (l := l) hq
  have hq_s := fun o l => aG (l := l) hq o
  have hq_e := fun o l => aD (o := o) (l := l) hq
  have hq_h := fun o => aH (o := o) hq
  have ha_g := fun l => aF (l := l) ha
  have ha_s := fun o l => aG (l := l) ha o
  have ha_e := fun o l => aD (o := o) (l := l) ha
  have ha_h := fun o => aH (o := o) ha
  simp -implicitDefEqProofs only [go_sem, hq, ha, g2, s2, List.length_map]
  refine ⟨by omega, ?_⟩
  exact aT (by have := hkp.1; simp; omega) ⟨((hkp.trans (Keep.set _ ha (.inr rfl))).trans (Keep.set _ (by rw [aE hak]; exact hq) (.inl rfl))).trans (Keep.app _ _ _), _, _, by rw [bY (by simpa using hlq), List.getElem?_set_self (by simpa using hlq)], .inr rfl,
   .inr ⟨h'.length, by simp, by rw [aZ (by simp)]; simp⟩⟩
theorem bJ (c d : UInt8) : ((c.toNat : Int) == (d.toNat : Int)) = (c == d) := by
 rw [Bool.eq_iff_iff, beq_iff_eq, beq_iff_eq]
 constructor
 ·intro h; exact UInt8.toNat_inj.1 (by exact_mod_cast h)
 ·rintro rfl; rfl
theorem jE (c d : UInt8) : ((c.toNat : Int) != (d.toNat : Int)) = (c != d) := by
 unfold bne; rw [bJ]
abbrev hexL : List UInt8 := [48, 49, 50, 51, 52, 53, 54, 55, 56, 57, 97, 98, 99, 100, 101, 102]
theorem kP {p : UInt8 -> Bool} (h : (List.range 256).all (fun n => p (UInt8.ofNat n)) = true) (c : UInt8) : p c = true := by
 have := List.all_eq_true.1 h c.toNat (List.mem_range.2 c.toNat_lt)
 simpa using this
theorem idx_hex (c : UInt8) : Go.Lib.indexByte hexL c = hexV c := by
 have := kP (p := fun c => Go.Lib.indexByte hexL c == hexV c) (by kernel_rfl) c
 simpa using this
theorem mJ (c : UInt8) : -1 <= hexV c /\ hexV c <= 15 := by
 have := kP (p := fun c => decide (-1 <= hexV c) && decide (hexV c <= 15)) (by kernel_rfl) c
 simpa using this
def elt : List UInt8 -> Option (UInt8 × Nat)
 | [] => none
 | c :: r => if isPlain c then (if c == 92 then (match esc r with
  | some (b, m) => some (b, m + 1)
  | none => none) else some (c, 1)) else none
def eltR (l : List UInt8) (p a : Nat) : ARes := match elt (l.drop p) with
 | some (b, m) => .val (.tup [.u b, .i (p + m : Nat)])
 | none => .panic (wrongV 20 a)
theorem gD {l : List UInt8} {p a : Nat} (h : elt (l.drop p) = none) : ARes.panic (wrongV 20 a) = eltR l p a := by rw [eltR, h]
theorem iJ {l : List UInt8} {p a m q : Nat} {b : UInt8} (h : elt (l.drop p) = some (b, m)) (hq : q = p + m) : ARes.val (.tup [.u b, .i q]) = eltR l p a := by rw [eltR, h, hq]
theorem bE {l : List UInt8} {p : Nat} (hp : p < l.length) : l.drop p = l.getD p 0 :: l.drop (p + 1) := by
 rw [List.drop_eq_getElem_cons hp]; simp [List.getD, hp]
theorem h185 {l : List UInt8} {a p k : Nat} {o : AV} {h : List AObj} (hl : l.length < 2 ^ 40) (hp : p < l.length) (hk : h[k]? = some (.cells 126 [.str l, .i a, o])) :
  AC Tryz.prog GL (.fn 185) [.ref k 0, .i p] h fun x h' => h' = h /\ x = eltR l p a := by
 refine k185.call (by simp) ?_
 have hd := bE hp
 have b92 : ∀ c : UInt8, ((c.toNat : Int) != 92) = (c != 92) := fun c => jE c 92
 have b34 : ∀ c : UInt8, ((c.toNat : Int) == 34) = (c == 34) := fun c => bJ c 34
 have b92' : ∀ c : UInt8, ((c.toNat : Int) == 92) = (c == 92) := fun c => bJ c 92
 have b110 : ∀ c : UInt8, ((c.toNat : Int) == 110) = (c == 110) := fun c => bJ c 110
 have b120 : ∀ c : UInt8, ((c.toNat : Int) == 120) = (c == 120) := fun c => bJ c 120
 have w1 : IntKind.i64.wrap ((p : Int) + 1) = ((p + 1 : Nat) : Int) := by rw [aK _ (by omega)]; simp
 have w2 : IntKind.i64.wrap ((p : Int) + 2) = ((p + 2 : Nat) : Int) := by rw [aK _ (by omega)]; simp
 have w3 : IntKind.i64.wrap ((p : Int) + 3) = ((p + 3 : Nat) : Int) := by rw [aK _ (by omega)]; simp
 have w4 : IntKind.i64.wrap ((p : Int) + 4) = ((p + 4 : Nat) : Int) := by rw [aK _ (by omega)]; simp
 simp -implicitDefEqProofs only [go_sem, c185, r185, hk, Int.toNat_natCast, hp]
 have he := congrArg elt hd
 generalize l.getD p 0 = c at he ⊢
 rw [elt] at he
 refine aC hC (h170 _) ?_
 rcases hP : isPlain c with _ | _
 ·rw [hP, if_neg (by simp)] at he
  simp -implicitDefEqProofs only [go_sem, hk]
  refine aJ hC (h145 _ _) fun x h' ⟨e1, e2⟩ => ?_
  subst e1 e2
  simp -implicitDefEqProofs only [go_sem]
  exact aP (Nat.le_refl _) ⟨rfl, gD he⟩
 rw [hP, if_pos rfl] at he
 rcases h9 : (c == 92) with _ | _
 ·rw [h9, if_neg (by simp)] at he
  have h9' : (c != 92) = true := by unfold bne; rw [h9]; rfl
  simp -implicitDefEqProofs only [go_sem, b92, h9', w1]
  exact ⟨_, h, Wk.refl (Nat.le_refl _), rfl, iJ he rfl⟩
 rw [h9, if_pos rfl] at he
 have h9' : (c != 92) = false := by unfold bne; rw [h9]; rfl
 by_cases hq : p + 1 < l.length
 ·have d1 : decide (((p + 1 : Nat) : Int) < (l.length : Int)) = true := decide_eq_true (by omega)
  rw [bE hq, esc] at he
  simp -implicitDefEqProofs only [go_sem, b92, h9', w1, d1, hk, Int.toNat_natCast, hq]
  generalize l.getD (p + 1) 0 = d at he ⊢
  rcases h3 : (d == 34 || d == 92) with _ | _
  ·obtain ⟨h31, h32⟩ := Bool.or_eq_false_iff.1 h3
   rw [h3, if_neg (by simp)] at he
   rcases h4 : (d == 110) with _ | _
   ·rw [h4, if_neg (by simp)] at he
    rcases h5 : (d == 120) with _ | _
    ·rw [h5, if_neg (by simp)] at he
     simp -implicitDefEqProofs only [go_sem, b34, b92', b110, b120, h31, h32, h4, h5, hk]
     refine aJ hC (h145 _ _) fun x h' ⟨e1, e2⟩ => ?_
     subst e1 e2
     simp -implicitDefEqProofs only [go_sem]
     exact aP (Nat.le_refl _) ⟨rfl, gD he⟩
    ·rw [h5, if_pos rfl] at he
     by_cases hq3 : p + 3 < l.length
     ·have d3 : decide (((p + 3 : Nat) : Int) < (l.length : Int)) = true := decide_eq_true (by omega)
      have hq2 : p + 2 < l.length := by omega
      rw [bE hq2, bE hq3, escHex] at he
      simp -implicitDefEqProofs only [go_sem, b34, b92', b110, b120, h31, h32, h4, h5, hk, w2, w3, d3, Int.toNat_natCast, hq2, hq3]
      generalize l.getD (p + 2) 0 = x at he ⊢
      generalize l.getD (p + 3) 0 = y at he ⊢
      have hx := mJ x
      have hy := mJ y
      refine aC hC (h143 _ _) ?_
      simp -implicitDefEqProofs only [go_sem, hk]
      refine aC hC (h143 _ _) ?_
      have ix : Go.Lib.indexByte [48, 49, 50, 51, 52, 53, 54, 55, 56, 57, 97, 98, 99, 100, 101, 102] x = hexV x := idx_hex x
      have iy : Go.Lib.indexByte [48, 49, 50, 51, 52, 53, 54, 55, 56, 57, 97, 98, 99, 100, 101, 102] y = hexV y := idx_hex y
      rw [ix, iy]
      generalize hexV x = X at hx he ⊢
      generalize hexV y = Y at hy he ⊢
      by_cases h6 : 0 <= X
      ·by_cases h7 : 0 <= Y
       ·rw [if_pos ⟨h6, h7⟩] at he
        have e6 : decide (X >= 0) = true := decide_eq_true h6
        have e7 : decide (Y >= 0) = true := decide_eq_true h7
        have v1 : IntKind.i64.wrap (16 * X) = 16 * X := aK _ (by omega)
        have v2 : IntKind.i64.wrap (16 * X + Y) = 16 * X + Y := aK _ (by omega)
        have v3 : IntKind.u8.wrap (16 * X + Y) = ((UInt8.ofNat (16 * X + Y).toNat).toNat : Int) := by
         simp [IntKind.wrap, IntKind.bits, IntKind.signed]; omega
        simp -implicitDefEqProofs only [go_sem, e6, e7, v1, v2, v3, w4]
        exact ⟨_, h, Wk.refl (Nat.le_refl _), rfl, iJ he (by omega)⟩
       ·rw [if_neg (by omega)] at he
        have e6 : decide (X >= 0) = true := decide_eq_true h6
        have e7 : decide (Y >= 0) = false := decide_eq_false h7
        simp -implicitDefEqProofs only [go_sem, e6, e7, hk]
        refine aJ hC (h145 _ _) fun x h' ⟨e1, e2⟩ => ?_
        subst e1 e2
        simp -implicitDefEqProofs only [go_sem]
        exact aP (Nat.le_refl _) ⟨rfl, gD he⟩
      ·rw [if_neg (by omega)] at he
       have e6 : decide (X >= 0) = false := decide_eq_false h6
       simp -implicitDefEqProofs only [go_sem, e6, hk]
       refine aJ hC (h145 _ _) fun x h' ⟨e1, e2⟩ => ?_
       subst e1 e2
       simp -implicitDefEqProofs only [go_sem]
       exact aP (Nat.le_refl _) ⟨rfl, gD he⟩
     ·have d3 : decide (((p + 3 : Nat) : Int) < (l.length : Int)) = false := decide_eq_false (by omega)
      have hn : escHex (l.drop (p + 1 + 1)) = none := by
       have : (l.drop (p + 1 + 1)).length < 2 := by simp; omega
       match l.drop (p + 1 + 1), this with
       | [], _ => rfl
       | [_], _ => rfl
      rw [hn] at he
      simp -implicitDefEqProofs only [go_sem, b34, b92', b110, b120, h31, h32, h4, h5, hk, w3, d3]
      refine aJ hC (h145 _ _) fun x h' ⟨e1, e2⟩ => ?_
      subst e1 e2
      simp -implicitDefEqProofs only [go_sem]
      exact aP (Nat.le_refl _) ⟨rfl, gD he⟩
   ·rw [h4, if_pos rfl] at he
    simp -implicitDefEqProofs only [go_sem, b34, b92', b110, h31, h32, h4, w2]
    exact ⟨_, h, Wk.refl (Nat.le_refl _), rfl, iJ (b := 10) he (by omega)⟩
  ·rw [h3, if_pos rfl] at he
   rcases h31 : (d == 34) with _ | _
   ·rw [h31, Bool.false_or] at h3
    simp -implicitDefEqProofs only [go_sem, b34, b92', h31, h3, w2]
    exact ⟨_, h, Wk.refl (Nat.le_refl _), rfl, iJ he (by omega)⟩
   ·simp -implicitDefEqProofs only [go_sem, b34, h31, w2]
    exact ⟨_, h, Wk.refl (Nat.le_refl _), rfl, iJ he (by omega)⟩
 ·have d1 : decide (((p + 1 : Nat) : Int) < (l.length : Int)) = false := decide_eq_false (by omega)
  rw [List.drop_of_length_le (show l.length <= p + 1 by omega), esc] at he
  simp -implicitDefEqProofs only [go_sem, b92, h9', w1, d1, hk]
  refine aJ hC (h145 _ _) fun x h' ⟨e1, e2⟩ => ?_
  subst e1 e2
  simp -implicitDefEqProofs only [go_sem]
  exact aP (Nat.le_refl _) ⟨rfl, gD he⟩
theorem pR (c : UInt8) (r : List UInt8) : qStr (c :: r) = if c == 34 then some ([], 1) else match elt (c :: r) with
  | some (b, m) => (qStr ((c :: r).drop m)).map fun x => (b :: x.1, x.2 + m)
  | none => none := by
 rw [qStr, List.length_cons, qStrF, elt]
 split
 ·rfl
 split
 ·split
  ·cases esc r with
   | none => rfl
   | some x =>
    obtain ⟨b, k⟩ := x
    simp only [List.drop_succ_cons]
    rw [qStr, jK (f := r.length) (g := (r.drop k).length) (by simp) (by simp)]
  ·rfl
 ·rfl
theorem elt_le {l : List UInt8} {b : UInt8} {m : Nat} (h : elt l = some (b, m)) : 0 < m /\ m <= l.length := by
 rcases l with _ | ⟨c, r⟩
 ·cases h
 rw [elt] at h
 split at h
 ·split at h
  ·split at h
   ·rename_i b' m' he
    cases h
    have := uT he
    simp at this ⊢; omega
   ·cases h
  ·cases h; simp
 ·cases h
def QAt (f : List UInt8 -> Option (List UInt8 × Nat)) (l : List UInt8) (q p : Nat) (bs : List UInt8) : Prop := f (l.drop q) = (f (l.drop p)).map fun x => (bs ++ x.1, x.2 + (p - q))
theorem QAt.start {f : List UInt8 -> Option (List UInt8 × Nat)} (l : List UInt8) (q : Nat) : QAt f l q q [] := by
 unfold QAt
 cases f (l.drop q) with
 | none => rfl
 | some x => simp
theorem QAt.next {f : List UInt8 -> Option (List UInt8 × Nat)} {l : List UInt8} {q p m : Nat} {bs : List UInt8} {b : UInt8} (h : QAt f l q p bs) (hq : q <= p) (hs : f (l.drop p) = (f (l.drop (p + m))).map fun x => (b :: x.1, x.2 + m)) : QAt f l q (p + m) (bs ++ [b]) := by
 unfold QAt at h ⊢
 rw [h, hs, Option.map_map]
 cases f (l.drop (p + m)) with
 | none => rfl
 | some x => simp; omega
def bdN : AObj := .cells 102 [.v (.pointer none), .v (.slice none 0 0)]
def Beside (l : List UInt8) (a : Nat) (o : AV) (h0 : List AObj) (k : Nat) (bs : List UInt8) (h : List AObj) : Prop :=
 Keep (BdK h0.length) (h0 ++ [bdN]) h /\ h[k]? = some (.cells 126 [.str l, .i a, o]) /\ BdAt 102 [] bs h0.length h
theorem Beside.start {l : List UInt8} {a k : Nat} {o : AV} {h0 : List AObj} (hk : h0[k]? = some (.cells 126 [.str l, .i a, o])) : Beside l a o h0 k [] (h0 ++ [bdN]) :=
 ⟨Keep.refl _ _, aF hk, _, _, by rw [dG]; rfl, .inl rfl, .inl ⟨rfl, rfl⟩⟩
theorem Beside.next {l : List UInt8} {a k : Nat} {o : AV} {h0 h h' : List AObj} {bs bs' : List UInt8} (hb : Beside l a o h0 k bs h) (hlt : k < h0.length) (hk : Keep (BdK h0.length) h h') (ha : BdAt 102 [] bs' h0.length h') : Beside l a o h0 k bs' h' :=
 ⟨hb.1.trans hk, hk.get hb.2.1 (fun e => e.elim (by omega) fun e => by cases e), ha⟩
theorem Beside.keep {l : List UInt8} {a k : Nat} {o : AV} {h0 h : List AObj} {bs : List UInt8} (hb : Beside l a o h0 k bs h) : Keep ScK h0 h :=
 ((Keep.app ScK h0 [bdN]).trans' hb.1 fun i o' hi e => by
  rcases e with e | e
  ·have := aL hi; omega
  ·exact .inr (.inr e))
theorem iF {ls : List Lx} {o : AV} {h h' : List AObj} {K : Nat -> AObj -> Prop} (ho : OutV ls o h) (hk : Keep K h h') (hn : ∀ a, h[a]? = some (.spare 44 5) -> ¬ K a (.spare 44 5)) : OutV ls o h' :=
 ho.imp id fun ⟨a, e, ha⟩ => ⟨a, e, hk.get ha (hn a ha)⟩
theorem Beside.sc {l : List UInt8} {a k : Nat} {o : AV} {h0 h h' : List AObj} {bs : List UInt8} {ls : List Lx} (hb : Beside l a o h0 k bs h) (ho : OutV ls o h0) (hk : Keep SpK h h') : ScAt l a ls k h' :=
 ⟨o, hk.get hb.2.1 (by rintro e; cases e), iF (iF ((iF ho (Keep.app All h0 [bdN]) fun _ _ => id)) hb.1 fun b hb' => by
  rintro (e | e)
  ·subst e; rw [dG] at hb'; cases hb'
  ·cases e) hk fun b _ => by rintro e; cases e⟩
theorem h142 {l : List UInt8} {a : Nat} {ls : List Lx} {k : Nat} {h : List AObj} (hl : l.length < 2 ^ 30) (ha : a < l.length) (hls : ls.length < 2 ^ 30) (hs : ScAt l a ls k h) :
  Stt GL 142 (stpStr (l.drop (a + 1))) l a ls k h := by
 obtain ⟨o, hk, ho⟩ := hs
 have hlt := aL hk
 refine k142.call (by simp) ?_
 have w1 : IntKind.i64.wrap ((a : Int) + 1) = ((a + 1 : Nat) : Int) := by rw [aK _ (by omega)]; simp
 have b34 : ∀ c : UInt8, ((c.toNat : Int) != 34) = (c != 34) := fun c => jE c 34
 have hk' : (h ++ [bdN])[k]? = some (.cells 126 [.str l, .i a, o]) := aF hk
 unfold bdN at hk'
 simp -implicitDefEqProofs only [go_sem, c142, r142, hk', w1]
 refine cK hC (fun _ (p : Nat × List UInt8) => [(0, .ref k 0), (3, .ref h.length 0), (4, .i (p.1 : Nat))]) (fun j p h' => a + 1 + j <= p.1 /\ p.1 <= l.length /\ p.2.length <= p.1 /\ QAt qStr l (a + 1) p.1 p.2 /\ Beside l a o h k p.2 h') l.length ⟨(a + 1, []), _, Wk.pick (by simp) (by simp [go_sem]), by simp, by simp; omega, by simp, QAt.start _ _, Beside.start hk⟩ fun j p h1 hj ⟨p1, p2, p3, p4, p5⟩ => ?_
 obtain ⟨p, bs⟩ := p
 simp only at p1 p2 p3 p4 p5
 obtain ⟨kp, hk1, bd1⟩ := id p5
 by_cases hp : p < l.length
 ·have d1 : decide ((p : Int) < (l.length : Int)) = true := decide_eq_true (by omega)
  have d2 : decide ((p : Int) >= (l.length : Int)) = false := decide_eq_false (by omega)
  have hd := bE hp
  have hstep := pR (l.getD p 0) (l.drop (p + 1))
  rw [<- hd] at hstep
  simp -implicitDefEqProofs only [go_sem, hk1, d1, Int.toNat_natCast, hp, b34]
  rcases hc : (l.getD p 0 == 34) with _ | _
  ·have hc' : (l.getD p 0 != 34) = true := by unfold bne; rw [hc]; rfl
   rw [hc, if_neg (by simp)] at hstep
   simp -implicitDefEqProofs only [go_sem, hc']
   refine aJ hC (h185 (by omega) hp hk1) fun x h' ⟨e1, e2⟩ => ?_
   subst e1
   rcases he : elt (l.drop p) with _ | ⟨b, m⟩
   ·rw [he] at hstep
    rw [<- gD he] at e2
    subst e2
    have hst : stpStr (l.drop (a + 1)) = .bad := by rw [stpStr, p4, hstep]; rfl
    simp -implicitDefEqProofs only [go_sem]
    exact cD (by have := kp.1; simp at this; omega) hst p5.keep
   ·have hm := elt_le he
    simp only [List.length_drop] at hm
    rw [he] at hstep
    simp only [List.drop_drop] at hstep
    rw [<- iJ he rfl] at e2
    subst e2
    simp -implicitDefEqProofs only [go_sem]
    refine aI hC (h80 b eD (by omega) bd1) fun x h2 ⟨e2, e3⟩ => ?_
    simp -implicitDefEqProofs only [go_sem]
    exact ⟨by omega, (p + m, bs ++ [b]), _, Wk.pick (by have := kp.1; have := e2.1; simp at *; omega) (by simp [go_sem]), by simp; omega, by simp; omega, by simp; omega, p4.next (by omega) hstep, p5.next hlt e2 e3⟩
  ·have hc' : (l.getD p 0 != 34) = false := by unfold bne; rw [hc]; rfl
   rw [hc, if_pos rfl] at hstep
   simp -implicitDefEqProofs only [go_sem, hc', hk1, d2]
   refine bB hC (h81 bd1) ?_
   by_cases hb : bs.length > 255
   ·have hst : stpStr (l.drop (a + 1)) = .bad := by rw [stpStr, p4, hstep]; simp [hb]
    have d3 : decide ((bs.length : Int) > 255) = true := decide_eq_true (by omega)
    simp -implicitDefEqProofs only [go_sem, d3, hk1]
    refine aJ hC (h145 _ _) fun x h' ⟨e1, e2⟩ => ?_
    subst e1 e2
    simp -implicitDefEqProofs only [go_sem]
    exact cD (by have := kp.1; simp at this; omega) hst p5.keep
   ·have hst : stpStr (l.drop (a + 1)) = .lex 5 0 bs (p - a + 1) := by rw [stpStr, p4, hstep]; simp [hb]; omega
    have d3 : decide ((bs.length : Int) > 255) = false := decide_eq_false (by omega)
    have w2 : IntKind.i64.wrap ((p : Int) + 1) = ((p + 1 : Nat) : Int) := by rw [aK _ (by omega)]; simp
    simp -implicitDefEqProofs only [go_sem, d3]
    refine aJ hC (h79 (bd1.choose_spec.choose_spec.1) (bd1.choose_spec.choose_spec.2.2)) fun x h2 ⟨e1, e2, e3⟩ => ?_
    subst e1
    have sc2 := p5.sc ho e2
    simp -implicitDefEqProofs only [go_sem, w2]
    refine aI hC (h144 _ _ _ _ hls sc2) fun x h3 ⟨e, hkp, hsc⟩ => ?_
    subst e
    simp -implicitDefEqProofs only [go_sem]
    exact dV (by have := hkp.1; have := kp.1; simp at this; omega) hst (by omega) (p5.keep.trans ((e2.mono fun _ _ _ e => .inr (.inr e)).trans hkp)) hsc
 ·have d1 : decide ((p : Int) < (l.length : Int)) = false := decide_eq_false (by omega)
  have d2 : decide ((p : Int) >= (l.length : Int)) = true := decide_eq_true (by omega)
  have hst : stpStr (l.drop (a + 1)) = .bad := by rw [stpStr, p4, List.drop_of_length_le (show l.length <= p by omega)]; rfl
  simp -implicitDefEqProofs only [go_sem, hk1, d1, d2]
  refine aJ hC (h145 _ _) fun x h' ⟨e1, e2⟩ => ?_
  subst e1 e2
  simp -implicitDefEqProofs only [go_sem]
  exact cD (by have := kp.1; simp at this; omega) hst p5.keep
def nesc : List UInt8 -> Option (UInt8 × Nat)
 | [] => none
 | d :: _ => if d == 39 || d == 92 then some (d, 2) else none
def nelt : List UInt8 -> Option (UInt8 × Nat)
 | [] => none
 | c :: r => if c == 92 then nesc r else if isPlain c then some (c, 1) else none
theorem oE (c : UInt8) (r : List UInt8) : qName (c :: r) = if c == 39 then some ([], 1) else match nelt (c :: r) with
  | some (b, m) => (qName ((c :: r).drop m)).map fun x => (b :: x.1, x.2 + m)
  | none => none := by
 rcases r with _ | ⟨d, r⟩
 ·rw [qName, nelt, nesc]
  split
  ·rfl
  cases c == 92
  ·cases isPlain c
   ·rfl
   ·rfl
  ·rfl
 ·rw [qName, nelt, nesc]
  split
  ·rfl
  cases c == 92
  ·cases isPlain c
   ·rfl
   ·rfl
  ·cases (d == 39 || d == 92)
   ·rfl
   ·rfl
theorem h141 {l : List UInt8} {a : Nat} {ls : List Lx} {k : Nat} {h : List AObj} (hl : l.length < 2 ^ 30) (ha : a < l.length) (hls : ls.length < 2 ^ 30) (hs : ScAt l a ls k h) :
  Stt GL 141 (stpQuoted (l.drop (a + 1))) l a ls k h := by
 obtain ⟨o, hk, ho⟩ := hs
 have hlt := aL hk
 refine k141.call (by simp) ?_
 have w1 : IntKind.i64.wrap ((a : Int) + 1) = ((a + 1 : Nat) : Int) := by rw [aK _ (by omega)]; simp
 have b39 : ∀ c : UInt8, ((c.toNat : Int) != 39) = (c != 39) := fun c => jE c 39
 have b92 : ∀ c : UInt8, ((c.toNat : Int) == 92) = (c == 92) := fun c => bJ c 92
 have b92' : ∀ c : UInt8, ((c.toNat : Int) != 92) = (c != 92) := fun c => jE c 92
 have hk' : (h ++ [bdN])[k]? = some (.cells 126 [.str l, .i a, o]) := aF hk
 unfold bdN at hk'
 simp -implicitDefEqProofs only [go_sem, c141, r141, hk', w1]
 refine cK hC (fun _ (p : Nat × List UInt8) => [(0, .ref k 0), (3, .ref h.length 0), (4, .i (p.1 : Nat))]) (fun j p h' => a + 1 + j <= p.1 /\ p.1 <= l.length /\ p.2.length <= p.1 /\ QAt qName l (a + 1) p.1 p.2 /\ Beside l a o h k p.2 h') l.length ⟨(a + 1, []), _, Wk.pick (by simp) (by simp [go_sem]), by simp, by simp; omega, by simp, QAt.start _ _, Beside.start hk⟩ fun j p h1 hj ⟨p1, p2, p3, p4, p5⟩ => ?_
 obtain ⟨p, bs⟩ := p
 simp only at p1 p2 p3 p4 p5
 obtain ⟨kp, hk1, bd1⟩ := id p5
 have w2 : IntKind.i64.wrap ((p : Int) + 1) = ((p + 1 : Nat) : Int) := by rw [aK _ (by omega)]; simp
 by_cases hp : p < l.length
 ·have d1 : decide ((p : Int) < (l.length : Int)) = true := decide_eq_true (by omega)
  have d2 : decide ((p : Int) >= (l.length : Int)) = false := decide_eq_false (by omega)
  have hd := bE hp
  have hstep := oE (l.getD p 0) (l.drop (p + 1))
  have hne : ∀ c r, nelt (c :: r) = _ := fun c r => nelt.eq_2 c r
  rw [<- hd] at hstep
  have hbad : (l.getD p 0 == 39) = false -> nelt (l.drop p) = none -> stpQuoted (l.drop (a + 1)) = .bad := fun e1 e2 => by
   rw [e1, e2] at hstep
   rw [stpQuoted, p4, hstep]; rfl
  simp -implicitDefEqProofs only [go_sem, hk1, d1, Int.toNat_natCast, hp, b39]
  rcases hc : (l.getD p 0 == 39) with _ | _
  ·have hc' : (l.getD p 0 != 39) = true := by unfold bne; rw [hc]; rfl
   rw [hc, if_neg (by simp)] at hstep
   replace hbad := hbad hc
   rcases hc2 : (l.getD p 0 == 92) with _ | _
   ·simp -implicitDefEqProofs only [go_sem, hc', hk1, Int.toNat_natCast, hp, b92, hc2]
    refine aC hC (h170 _) ?_
    rcases hP : isPlain (l.getD p 0) with _ | _
    ·have hst := hbad (by rw [hd, hne, hc2, hP]; rfl)
     simp -implicitDefEqProofs only [go_sem, hk1]
     refine aJ hC (h145 _ _) fun x h' ⟨e1, e2⟩ => ?_
     subst e1 e2
     simp -implicitDefEqProofs only [go_sem]
     exact cD (by have := kp.1; simp at this; omega) hst p5.keep
    ·have he : nelt (l.drop p) = some (l.getD p 0, 1) := by rw [hd, hne, hc2, hP]; rfl
     rw [he] at hstep
     simp only [List.drop_drop] at hstep
     simp -implicitDefEqProofs only [go_sem]
     refine aI hC (h80 _ eD (by omega) bd1) fun x h2 ⟨e2, e3⟩ => ?_
     simp -implicitDefEqProofs only [go_sem, w2]
     exact ⟨by omega, (p + 1, bs ++ [l.getD p 0]), _, Wk.pick (by have := kp.1; have := e2.1; simp at *; omega) (by simp [go_sem]), by simp; omega, by simp; omega, by simp; omega, p4.next (by omega) hstep, p5.next hlt e2 e3⟩
   ·by_cases hq : p + 1 < l.length
    ·have d3 : (((p + 1 : Nat) : Int) == (l.length : Int)) = false := by simp; omega
     simp -implicitDefEqProofs only [go_sem, hc', hk1, Int.toNat_natCast, hp, b92, hc2, w2, d3, hq, b39]
     have hd2 := bE hq
     have w3 : IntKind.i64.wrap (((p + 1 : Nat) : Int) + 1) = ((p + 2 : Nat) : Int) := by rw [aK _ (by omega)]; simp; omega
     rcases h3 : (l.getD (p + 1) 0 == 39 || l.getD (p + 1) 0 == 92) with _ | _
     ·obtain ⟨h31, h32⟩ := Bool.or_eq_false_iff.1 h3
      have h31' : (l.getD (p + 1) 0 != 39) = true := by unfold bne; rw [h31]; rfl
      have h32' : (l.getD (p + 1) 0 != 92) = true := by unfold bne; rw [h32]; rfl
      have hst := hbad (by rw [hd, hne, hc2, hd2, if_pos rfl, nesc, h3]; rfl)
      simp -implicitDefEqProofs only [go_sem, h31', h32', hk1, Int.toNat_natCast, hq, b92']
      refine aJ hC (h145 _ _) fun x h' ⟨e1, e2⟩ => ?_
      subst e1 e2
      simp -implicitDefEqProofs only [go_sem]
      exact cD (by have := kp.1; simp at this; omega) hst p5.keep
     ·have he : nelt (l.drop p) = some (l.getD (p + 1) 0, 2) := by rw [hd, hne, hc2, hd2, if_pos rfl, nesc, h3]; rfl
      have hpl : isPlain (l.getD (p + 1) 0) = true := by
       rcases Bool.or_eq_true_iff.1 h3 with e | e
       ·rw [eq_of_beq e]; rfl
       ·rw [eq_of_beq e]; rfl
      rcases h3a : (l.getD (p + 1) 0 == 39) with _ | _
      ·have h31 : (l.getD (p + 1) 0 != 39) = true := by unfold bne; rw [h3a]; rfl
       have h32 : (l.getD (p + 1) 0 != 92) = false := by rw [h3a, Bool.false_or] at h3; unfold bne; rw [h3]; rfl
       simp -implicitDefEqProofs only [go_sem, hk1, Int.toNat_natCast, hq, b92', h31, h32]
       refine aC hC (h170 _) ?_
       rw [hpl]
       rw [he] at hstep
       simp only [List.drop_drop] at hstep
       simp -implicitDefEqProofs only [go_sem]
       refine aI hC (h80 _ eD (by omega) bd1) fun x h2 ⟨e2, e3⟩ => ?_
       simp -implicitDefEqProofs only [go_sem, w3]
       exact ⟨by omega, (p + 2, bs ++ [l.getD (p + 1) 0]), _, Wk.pick (by have := kp.1; have := e2.1; simp at *; omega) (by simp [go_sem]), by simp; omega, by simp; omega, by simp; omega, p4.next (by omega) hstep, p5.next hlt e2 e3⟩
      ·have h31 : (l.getD (p + 1) 0 != 39) = false := by unfold bne; rw [h3a]; rfl
       have h32 := h31
       simp -implicitDefEqProofs only [go_sem, hk1, Int.toNat_natCast, hq, h31]
       refine aC hC (h170 _) ?_
       rw [hpl]
       rw [he] at hstep
       simp only [List.drop_drop] at hstep
       simp -implicitDefEqProofs only [go_sem]
       refine aI hC (h80 _ eD (by omega) bd1) fun x h2 ⟨e2, e3⟩ => ?_
       simp -implicitDefEqProofs only [go_sem, w3]
       exact ⟨by omega, (p + 2, bs ++ [l.getD (p + 1) 0]), _, Wk.pick (by have := kp.1; have := e2.1; simp at *; omega) (by simp [go_sem]), by simp; omega, by simp; omega, by simp; omega, p4.next (by omega) hstep, p5.next hlt e2 e3⟩
    ·have d3 : (((p + 1 : Nat) : Int) == (l.length : Int)) = true := by simp; omega
     have hst := hbad (by rw [hd, hne, hc2, List.drop_of_length_le (show l.length <= p + 1 by omega)]; rfl)
     simp -implicitDefEqProofs only [go_sem, hc', hk1, Int.toNat_natCast, hp, b92, hc2, w2, d3]
     refine aJ hC (h145 _ _) fun x h' ⟨e1, e2⟩ => ?_
     subst e1 e2
     simp -implicitDefEqProofs only [go_sem]
     exact cD (by have := kp.1; simp at this; omega) hst p5.keep
  ·have hc' : (l.getD p 0 != 39) = false := by unfold bne; rw [hc]; rfl
   rw [hc, if_pos rfl] at hstep
   simp -implicitDefEqProofs only [go_sem, hc', hk1, d2]
   refine bB hC (h81 bd1) ?_
   by_cases hb1 : bs.length < 1
   ·have hst : stpQuoted (l.drop (a + 1)) = .bad := by rw [stpQuoted, p4, hstep]; simp only [Option.map_some, List.append_nil]; rw [if_pos (by omega)]
    have d3 : decide ((bs.length : Int) < 1) = true := decide_eq_true (by omega)
    simp -implicitDefEqProofs only [go_sem, d3, hk1]
    refine aJ hC (h145 _ _) fun x h' ⟨e1, e2⟩ => ?_
    subst e1 e2
    simp -implicitDefEqProofs only [go_sem]
    exact cD (by have := kp.1; simp at this; omega) hst p5.keep
   have d3 : decide ((bs.length : Int) < 1) = false := decide_eq_false (by omega)
   simp -implicitDefEqProofs only [go_sem, d3]
   refine bB hC (h81 bd1) ?_
   by_cases hb : bs.length > 32
   ·have hst : stpQuoted (l.drop (a + 1)) = .bad := by rw [stpQuoted, p4, hstep]; simp only [Option.map_some, List.append_nil]; rw [if_pos (by omega)]
    have d3 : decide ((bs.length : Int) > 32) = true := decide_eq_true (by omega)
    simp -implicitDefEqProofs only [go_sem, d3, hk1]
    refine aJ hC (h145 _ _) fun x h' ⟨e1, e2⟩ => ?_
    subst e1 e2
    simp -implicitDefEqProofs only [go_sem]
    exact cD (by have := kp.1; simp at this; omega) hst p5.keep
   ·have hst : stpQuoted (l.drop (a + 1)) = .lex 2 0 bs (p - a + 1) := by rw [stpQuoted, p4, hstep]; simp only [Option.map_some, List.append_nil]; rw [if_neg (by omega)]; simp; omega
    have d3 : decide ((bs.length : Int) > 32) = false := decide_eq_false (by omega)
    simp -implicitDefEqProofs only [go_sem, d3]
    refine aJ hC (h79 (bd1.choose_spec.choose_spec.1) (bd1.choose_spec.choose_spec.2.2)) fun x h2 ⟨e1, e2, e3⟩ => ?_
    subst e1
    have sc2 := p5.sc ho e2
    simp -implicitDefEqProofs only [go_sem, w2]
    refine aI hC (h144 _ _ _ _ hls sc2) fun x h3 ⟨e, hkp, hsc⟩ => ?_
    subst e
    simp -implicitDefEqProofs only [go_sem]
    exact dV (by have := hkp.1; have := kp.1; simp at this; omega) hst (by omega) (p5.keep.trans ((e2.mono fun _ _ _ e => .inr (.inr e)).trans hkp)) hsc
 ·have d1 : decide ((p : Int) < (l.length : Int)) = false := decide_eq_false (by omega)
  have d2 : decide ((p : Int) >= (l.length : Int)) = true := decide_eq_true (by omega)
  have hst : stpQuoted (l.drop (a + 1)) = .bad := by rw [stpQuoted, p4, List.drop_of_length_le (show l.length <= p by omega)]; rfl
  simp -implicitDefEqProofs only [go_sem, hk1, d1, d2]
  refine aJ hC (h145 _ _) fun x h' ⟨e1, e2⟩ => ?_
  subst e1 e2
  simp -implicitDefEqProofs only [go_sem]
  exact cD (by have := kp.1; simp at this; omega) hst p5.keep
def BgAt (GL : Glob) (l : List UInt8) (a : Nat) (ls : List Lx) (k : Nat) (x : ARes) (h' : List AObj) : Prop :=
 (l.drop a = [] /\ x = .val (.v .nilFunc) /\ ScAt l a ls k h') ∨ (l.drop a ≠ [] /\ (StAt (stp (l.drop a)) l a ls k x h' ∨ ∃ f, x = .val (.fn (.func f) [] []) /\ ScAt l a ls k h' /\ Stt GL f (stp (l.drop a)) l a ls k h'))
theorem fS {m : Nat} {l : List UInt8} {a : Nat} {ls : List Lx} {k : Nat} {h : List AObj} {f : FuncId} (hm : m <= h.length) (hl : l.drop a ≠ []) (hs : ScAt l a ls k h) (hst : Stt GL f (stp (l.drop a)) l a ls k h) :
  ∃ y h', Wk GL m [(0, .fn (.func f) [] [])] h [(0, y)] h' /\ Keep ScK h h' /\ BgAt GL l a ls k (.val y) h' := ⟨_, h, Wk.refl hm, Keep.refl _ _, .inr ⟨hl, .inr ⟨f, rfl, hs, hst⟩⟩⟩
theorem bg_lex {m : Nat} {l : List UInt8} {a : Nat} {ls : List Lx} {k : Nat} {h0 h : List AObj} {d n : Int} {t : List UInt8} {q e : Nat} (hm : m <= h.length) (hl : l.drop a ≠ []) (hr : stp (l.drop a) = .lex d n t q) (he : e = a + q) (hk : Keep ScK h0 h) (hs : ScAt l e (ls ++ [⟨d, n, t, a, e⟩]) k h) :
  ∃ y h', Wk GL m [(0, .fn (.func 95) [] [])] h [(0, y)] h' /\ Keep ScK h0 h' /\ BgAt GL l a ls k (.val y) h' := ⟨_, h, Wk.refl hm, hk, .inr ⟨hl, .inl (by rw [hr]; subst he; exact ⟨rfl, hs⟩)⟩⟩
theorem bg_skip {m : Nat} {l : List UInt8} {a : Nat} {ls : List Lx} {k : Nat} {h0 h : List AObj} {q e : Nat} (hm : m <= h.length) (hl : l.drop a ≠ []) (hr : stp (l.drop a) = .skip q) (he : e = a + q) (hk : Keep ScK h0 h) (hs : ScAt l e ls k h) :
  ∃ y h', Wk GL m [(0, .fn (.func 95) [] [])] h [(0, y)] h' /\ Keep ScK h0 h' /\ BgAt GL l a ls k (.val y) h' := ⟨_, h, Wk.refl hm, hk, .inr ⟨hl, .inl (by rw [hr]; subst he; exact ⟨rfl, hs⟩)⟩⟩
theorem h95 (hG : GLok GL) {l : List UInt8} {a : Nat} {ls : List Lx} {k : Nat} {h : List AObj} (hl : l.length < 2 ^ 30) (ha : a <= l.length) (hls : ls.length < 2 ^ 30) (hs : ScAt l a ls k h) :
  AC Tryz.prog GL (.fn 95) [.ref k 0] h fun x h' => Keep ScK h h' /\ BgAt GL l a ls k x h' := by
 obtain ⟨o, hk, ho⟩ := id hs
 have hlt := aL hk
 refine k95.call (by simp) ?_
 by_cases he : a = l.length
 ·have d1 : ((a : Int) == (l.length : Int)) = true := by simp; omega
  simp -implicitDefEqProofs only [go_sem, c95, r95, hk, d1]
  exact ⟨_, h, Wk.refl (Nat.le_refl _), Keep.refl _ _, .inl ⟨List.drop_of_length_le (by omega), rfl, hs⟩⟩
 have hp : a < l.length := by omega
 have d1 : ((a : Int) == (l.length : Int)) = false := by simp; omega
 have hd := bE hp
 have hne : l.drop a ≠ [] := by rw [hd]; simp
 have w1 : IntKind.i64.wrap ((a : Int) + 1) = ((a + 1 : Nat) : Int) := by rw [aK _ (by omega)]; simp
 have b37 : ∀ c : UInt8, ((c.toNat : Int) == 37) = (c == 37) := fun c => bJ c 37
 have b47 : ∀ c : UInt8, ((c.toNat : Int) == 47) = (c == 47) := fun c => bJ c 47
 have b42 : ∀ c : UInt8, ((c.toNat : Int) == 42) = (c == 42) := fun c => bJ c 42
 have b39 : ∀ c : UInt8, ((c.toNat : Int) == 39) = (c == 39) := fun c => bJ c 39
 have b34 : ∀ c : UInt8, ((c.toNat : Int) == 34) = (c == 34) := fun c => bJ c 34
 have hstp := congrArg stp hd
 rw [stp.eq_2] at hstp
 have hk_g := fun l => aF (l := l) hk
 have hk_s := fun o l => aG (l := l) hk o
 have hk_e := fun o l => aD (o := o) (l := l) hk
 have hk_h := fun o => aH (o := o) hk
 have h129a := h129 (GL := GL) (o := o) 0 (by omega) ha (by omega) hk
 have h129b := h129 (GL := GL) (o := o) 1 (by omega) ha (by omega) hk
 rw [Nat.add_zero] at h129a
 simp -implicitDefEqProofs only [go_sem, c95, r95, hk, d1]
 refine bB hC h129a ?_
 have hcom : isCom (l.getD a 0) (l.drop (a + 1)) = (l.getD a 0 == 47 && l.getD (a + 1) 0 == 42) := by
  unfold isCom
  by_cases hq : a + 1 < l.length
  ·rw [bE hq]
  ·rw [List.drop_of_length_le (by omega)]
   have : l.getD (a + 1) 0 = 0 := by simp [List.getD, Nat.le_of_not_lt hq]
   rw [this]; cases l.getD a 0 == 47 <;> rfl
 have hdig : isDigit (l.getD a 0) = true -> 0 < run isDigit (l.drop a) := fun e => by rw [hd]; exact kF e
 simp -implicitDefEqProofs only [go_sem]
 refine aC hC (h130 _) ?_
 rcases hB : isBlank (l.getD a 0) with _ | _
 rotate_left
 ·rw [hB, if_pos rfl] at hstp
  simp -implicitDefEqProofs only [go_sem, w1, hk]
  exact bg_skip (by simp) hne hstp rfl (Keep.set _ hk (.inl ⟨_, rfl⟩)) (ScAt.set ho hk)
 rw [hB, if_neg (by simp)] at hstp
 rcases h37 : (l.getD a 0 == 37) with _ | _
 rotate_left
 ·rw [h37, if_pos rfl, <- hd] at hstp
  have h1 := h131 (GL := GL) (f := 132) (p := fun c => c != 10) (o1 := .i a) (o := o) (fun c => h132 c) a (by omega) ha hk
  simp -implicitDefEqProofs only [go_sem, hk, b37, h37]
  refine bB hC h1 ?_
  simp -implicitDefEqProofs only [go_sem, hk]
  exact bg_skip (by simp) hne hstp rfl (Keep.set _ hk (.inl ⟨_, rfl⟩)) (ScAt.set ho hk)
 rw [h37, if_neg (by simp), hcom] at hstp
 rcases h47 : (l.getD a 0 == 47) with _ | _
 ·rw [h47, Bool.false_and, if_neg (by simp)] at hstp
  simp -implicitDefEqProofs only [go_sem, b37, h37, b47, h47]
  refine aC hC (h134 _) ?_
  rcases hD : isDigit (l.getD a 0) with _ | _
  rotate_left
  ·rw [hD, if_pos rfl, <- hd] at hstp
   simp -implicitDefEqProofs only [go_sem]
   exact fS (Nat.le_refl _) hne hs (by rw [hstp]; exact h135 hG (by omega) ha hls hs (hdig hD))
  rw [hD, if_neg (by simp)] at hstp
  simp -implicitDefEqProofs only [go_sem]
  refine aC hC (h136 _) ?_
  rcases hS : isSmall (l.getD a 0) with _ | _
  rotate_left
  ·rw [hS, if_pos rfl, <- hd] at hstp
   have hL : isLarge (l.getD a 0) = false := by
    have := kP (p := fun c => !(isSmall c && isLarge c)) (by kernel_rfl) (l.getD a 0)
    rw [hS] at this; simpa using this
   simp -implicitDefEqProofs only [go_sem]
   exact fS (Nat.le_refl _) hne hs (by have := h138 (GL := GL) (by omega) ha hls hs; rw [hL] at this; rw [hstp]; exact this)
  rw [hS, if_neg (by simp)] at hstp
  simp -implicitDefEqProofs only [go_sem]
  refine aC hC (h137 _) ?_
  rcases hL : isLarge (l.getD a 0) with _ | _
  rotate_left
  ·rw [hL, if_pos rfl, <- hd] at hstp
   simp -implicitDefEqProofs only [go_sem]
   exact fS (Nat.le_refl _) hne hs (by have := h138 (GL := GL) (by omega) ha hls hs; rw [hL] at this; rw [hstp]; exact this)
  rw [hL, if_neg (by simp)] at hstp
  simp -implicitDefEqProofs only [go_sem]
  refine aC hC (h139 _) ?_
  rcases hY : isSym (l.getD a 0) with _ | _
  rotate_left
  ·rw [hY, if_pos rfl, <- hd] at hstp
   simp -implicitDefEqProofs only [go_sem]
   exact fS (Nat.le_refl _) hne hs (by rw [hstp]; exact h140 (by omega) ha hls hs)
  rw [hY, if_neg (by simp)] at hstp
  rcases h39 : (l.getD a 0 == 39) with _ | _
  rotate_left
  ·rw [h39, if_pos rfl] at hstp
   simp -implicitDefEqProofs only [go_sem, b39, h39]
   exact fS (Nat.le_refl _) hne hs (by rw [hstp]; exact h141 hl hp hls hs)
  rw [h39, if_neg (by simp)] at hstp
  rcases h34 : (l.getD a 0 == 34) with _ | _
  rotate_left
  ·rw [h34, if_pos rfl] at hstp
   simp -implicitDefEqProofs only [go_sem, b39, h39, b34, h34]
   exact fS (Nat.le_refl _) hne hs (by rw [hstp]; exact h142 hl hp hls hs)
  rw [h34, if_neg (by simp)] at hstp
  have hsg : decide (Go.Lib.indexByte [40, 41, 91, 93, 123, 125, 44, 124] (l.getD a 0) >= 0) = isSign (l.getD a 0) := rC _ _
  simp -implicitDefEqProofs only [go_sem, b39, h39, b34, h34]
  refine aC hC (h143 _ _) ?_
  rcases hN : isSign (l.getD a 0) with _ | _
  ·rw [hN] at hsg
   rw [hN, if_neg (by simp)] at hstp
   simp -implicitDefEqProofs only [go_sem, hsg, hk]
   refine aJ hC (h145 _ _) fun x h' ⟨e1, e2⟩ => ?_
   subst e1 e2
   simp -implicitDefEqProofs only [go_sem]
   exact ⟨_, _, Wk.refl (Nat.le_refl _), Keep.refl _ _, .inr ⟨hne, .inl (by rw [hstp]; rfl)⟩⟩
  ·rw [hN] at hsg
   rw [hN, if_pos rfl] at hstp
   have e1 : (l.drop a).take (a + 1 - a) = [l.getD a 0] := by rw [hd, Nat.add_sub_cancel_left]; rfl
   simp -implicitDefEqProofs only [go_sem, hsg, hk, w1, Int.toNat_natCast, e1]
   refine ⟨⟨by omega, by omega, by omega⟩, ?_⟩
   refine aI hC (h144 _ _ _ _ hls ⟨o, hk, ho⟩) fun x h3 ⟨e, hkp, hsc⟩ => ?_
   subst e
   simp -implicitDefEqProofs only [go_sem]
   exact bg_lex hkp.1 hne hstp rfl hkp hsc
 ·rcases h42 : (l.getD (a + 1) 0 == 42) with _ | _
  ·rw [h47, h42, if_neg (by simp)] at hstp
   simp -implicitDefEqProofs only [go_sem, b37, h37, b47, h47]
   refine bB hC h129b ?_
   simp -implicitDefEqProofs only [go_sem, b42, h42]
   refine aC hC (h134 _) ?_
   rcases hD : isDigit (l.getD a 0) with _ | _
   rotate_left
   ·rw [hD, if_pos rfl, <- hd] at hstp
    simp -implicitDefEqProofs only [go_sem]
    exact fS (Nat.le_refl _) hne hs (by rw [hstp]; exact h135 hG (by omega) ha hls hs (hdig hD))
   rw [hD, if_neg (by simp)] at hstp
   simp -implicitDefEqProofs only [go_sem]
   refine aC hC (h136 _) ?_
   rcases hS : isSmall (l.getD a 0) with _ | _
   rotate_left
   ·rw [hS, if_pos rfl, <- hd] at hstp
    have hL : isLarge (l.getD a 0) = false := by
     have := kP (p := fun c => !(isSmall c && isLarge c)) (by kernel_rfl) (l.getD a 0)
     rw [hS] at this; simpa using this
    simp -implicitDefEqProofs only [go_sem]
    exact fS (Nat.le_refl _) hne hs (by have := h138 (GL := GL) (by omega) ha hls hs; rw [hL] at this; rw [hstp]; exact this)
   rw [hS, if_neg (by simp)] at hstp
   simp -implicitDefEqProofs only [go_sem]
   refine aC hC (h137 _) ?_
   rcases hL : isLarge (l.getD a 0) with _ | _
   rotate_left
   ·rw [hL, if_pos rfl, <- hd] at hstp
    simp -implicitDefEqProofs only [go_sem]
    exact fS (Nat.le_refl _) hne hs (by have := h138 (GL := GL) (by omega) ha hls hs; rw [hL] at this; rw [hstp]; exact this)
   rw [hL, if_neg (by simp)] at hstp
   simp -implicitDefEqProofs only [go_sem]
   refine aC hC (h139 _) ?_
   rcases hY : isSym (l.getD a 0) with _ | _
   rotate_left
   ·rw [hY, if_pos rfl, <- hd] at hstp
    simp -implicitDefEqProofs only [go_sem]
    exact fS (Nat.le_refl _) hne hs (by rw [hstp]; exact h140 (by omega) ha hls hs)
   rw [hY, if_neg (by simp)] at hstp
   rcases h39 : (l.getD a 0 == 39) with _ | _
   rotate_left
   ·rw [h39, if_pos rfl] at hstp
    simp -implicitDefEqProofs only [go_sem, b39, h39]
    exact fS (Nat.le_refl _) hne hs (by rw [hstp]; exact h141 hl hp hls hs)
   rw [h39, if_neg (by simp)] at hstp
   rcases h34 : (l.getD a 0 == 34) with _ | _
   rotate_left
   ·rw [h34, if_pos rfl] at hstp
    simp -implicitDefEqProofs only [go_sem, b39, h39, b34, h34]
    exact fS (Nat.le_refl _) hne hs (by rw [hstp]; exact h142 hl hp hls hs)
   rw [h34, if_neg (by simp)] at hstp
   have hsg : decide (Go.Lib.indexByte [40, 41, 91, 93, 123, 125, 44, 124] (l.getD a 0) >= 0) = isSign (l.getD a 0) := rC _ _
   simp -implicitDefEqProofs only [go_sem, b39, h39, b34, h34]
   refine aC hC (h143 _ _) ?_
   rcases hN : isSign (l.getD a 0) with _ | _
   ·rw [hN] at hsg
    rw [hN, if_neg (by simp)] at hstp
    simp -implicitDefEqProofs only [go_sem, hsg, hk]
    refine aJ hC (h145 _ _) fun x h' ⟨e1, e2⟩ => ?_
    subst e1 e2
    simp -implicitDefEqProofs only [go_sem]
    exact ⟨_, _, Wk.refl (Nat.le_refl _), Keep.refl _ _, .inr ⟨hne, .inl (by rw [hstp]; rfl)⟩⟩
   ·rw [hN] at hsg
    rw [hN, if_pos rfl] at hstp
    have e1 : (l.drop a).take (a + 1 - a) = [l.getD a 0] := by rw [hd, Nat.add_sub_cancel_left]; rfl
    simp -implicitDefEqProofs only [go_sem, hsg, hk, w1, Int.toNat_natCast, e1]
    refine ⟨⟨by omega, by omega, by omega⟩, ?_⟩
    refine aI hC (h144 _ _ _ _ hls ⟨o, hk, ho⟩) fun x h3 ⟨e, hkp, hsc⟩ => ?_
    subst e
    simp -implicitDefEqProofs only [go_sem]
    exact bg_lex hkp.1 hne hstp rfl hkp hsc
  ·rw [h47, h42, if_pos (by rfl)] at hstp
   simp -implicitDefEqProofs only [go_sem, b37, h37, b47, h47]
   refine bB hC h129b ?_
   simp -implicitDefEqProofs only [go_sem, b42, h42]
   exact fS (Nat.le_refl _) hne hs (by
    rw [hstp]
    have hq : a + 2 <= l.length := by
     rcases Nat.lt_or_ge (a + 1) l.length with h | h
     ·omega
     ·exfalso; have : l.getD (a + 1) 0 = 0 := by simp [List.getD, h]
      rw [this] at h42; cases h42
    have := h133 hG hl hq hs
    rw [List.drop_drop]
    exact this)
def lexOut (l : List UInt8) : Except (Int × Int) (List Lx) := if l.length > 20000 then .error (2, 0) else match lexL l 0 with
 | .error a => .error (20, a)
 | .ok ls => if ls.length > 8000 then .error (2, 0) else .ok ls
def LexR (l : List UInt8) (x : ARes) (h' : List AObj) : Prop := match lexOut l with
 | .error e => x = .panic (wrongV e.1 e.2)
 | .ok ls => ∃ o, x = .val o /\ OutV ls o h'
def pre (ls : List Lx) : Except Nat (List Lx) -> Except Nat (List Lx)
 | .ok r => .ok (ls ++ r)
 | .error e => .error e
theorem pre_skip {l : List UInt8} {a m : Nat} {ls : List Lx} (h : lexL l 0 = pre ls (lexL (l.drop a) a)) (hne : l.drop a ≠ []) (hs : stp (l.drop a) = .skip m) : lexL l 0 = pre ls (lexL (l.drop (a + m)) (a + m)) := by
 rw [h, eM hne, hs, <- List.drop_drop]
theorem pre_lex {l : List UInt8} {a m : Nat} {ls : List Lx} {d n : Int} {t : List UInt8} (h : lexL l 0 = pre ls (lexL (l.drop a) a)) (hne : l.drop a ≠ []) (hs : stp (l.drop a) = .lex d n t m) : lexL l 0 = pre (ls ++ [⟨d, n, t, a, a + m⟩]) (lexL (l.drop (a + m)) (a + m)) := by
 rw [h, eM hne, hs, <- List.drop_drop]
 simp only
 cases lexL ((l.drop a).drop m) (a + m) with
 | ok r => simp [pre]
 | error e => rfl
theorem pre_bad {l : List UInt8} {a : Nat} {ls : List Lx} (h : lexL l 0 = pre ls (lexL (l.drop a) a)) (hne : l.drop a ≠ []) (hs : stp (l.drop a) = .bad) : lexL l 0 = .error a := by
 rw [h, eM hne, hs]; rfl
def Pend (GL : Glob) (l : List UInt8) (a : Nat) (ls : List Lx) (j : Nat) (v : AV) (h : List AObj) : Prop :=
 (v = .v .nilFunc /\ l.drop a = [] /\ j <= 2 * a + 1) ∨ (v = .fn (.func 95) [] [] /\ j <= 2 * a) ∨ ∃ f, v = .fn (.func f) [] [] /\ l.drop a ≠ [] /\ Stt GL f (stp (l.drop a)) l a ls 0 h /\ j <= 2 * a + 1
def LexI (GL : Glob) (l : List UInt8) (j : Nat) (p : Nat × List Lx × AV) (h : List AObj) : Prop :=
 p.1 <= l.length /\ p.2.1.length <= p.1 /\ ScAt l p.1 p.2.1 0 h /\ lexL l 0 = pre p.2.1 (lexL (l.drop p.1) p.1) /\ Pend GL l p.1 p.2.1 j p.2.2 h
theorem lexI_st {l : List UInt8} {a j : Nat} {ls : List Lx} {v : AV} {h' : List AObj} (ha : a <= l.length) (hls : ls.length <= a) (hp : lexL l 0 = pre ls (lexL (l.drop a) a)) (hj : j <= 2 * a + 1) (hne : l.drop a ≠ []) (hst : StAt (stp (l.drop a)) l a ls 0 (.val v) h') : ∃ p, v = p.2.2 /\ LexI GL l (j + 1) p h' := by
 have hb := dS hne
 simp only [List.length_drop] at hb
 cases hs : stp (l.drop a) with
 | bad => rw [hs] at hst; cases hst
 | skip m =>
  rw [hs] at hst hb
  simp only [Stp.len] at hb
  obtain ⟨e, hsc⟩ := hst
  cases e
  exact ⟨(a + m, ls, bgV), rfl, by simp; omega, by simp; omega, hsc, pre_skip hp hne hs, .inr (.inl ⟨rfl, by simp; omega⟩)⟩
 | lex d n t m =>
  rw [hs] at hst hb
  simp only [Stp.len] at hb
  obtain ⟨e, hsc⟩ := hst
  cases e
  exact ⟨(a + m, ls ++ [⟨d, n, t, a, a + m⟩], bgV), rfl, by simp; omega, by simp; omega, hsc, pre_lex hp hne hs, .inr (.inl ⟨rfl, by simp; omega⟩)⟩
theorem mY {l : List UInt8} {a : Nat} {ls : List Lx} {x : AV} {h' : List AObj} (hl : l.length <= 20000) (hp : lexL l 0 = pre ls (lexL (l.drop a) a)) (hne : l.drop a ≠ []) (hst : StAt (stp (l.drop a)) l a ls 0 (.panic x) h') : LexR l (.panic x) h' := by
 cases hs : stp (l.drop a) with
 | bad =>
  rw [hs] at hst
  rw [LexR, lexOut, if_neg (by omega), pre_bad hp hne hs]
  exact hst
 | skip m => rw [hs] at hst; cases hst.1
 | lex d n t m => rw [hs] at hst; cases hst.1
theorem lex0 (hG : GLok GL) (l : List UInt8) : AC Tryz.prog GL (.fn 58) [.str l] [] fun x h' => LexR l x h' := by
 refine k58.call (by simp) ?_
 by_cases hl : l.length > 20000
 ·have d1 : decide ((l.length : Int) > 20000) = true := decide_eq_true (by omega)
  simp -implicitDefEqProofs only [go_sem, c58, r58, d1]
  exact aP (Nat.le_refl _) (by rw [LexR, lexOut, if_pos hl]; rfl)
 have d1 : decide ((l.length : Int) > 20000) = false := decide_eq_false (by omega)
 simp -implicitDefEqProofs only [go_sem, c58, r58, d1]
 refine cK hC (fun _ (p : Nat × List Lx × AV) => [(3, .ref 0 0), (4, p.2.2)]) (LexI GL l) (2 * l.length + 2) ⟨(0, [], bgV), _, Wk.pick (by simp) (by simp [go_sem, bgV]), by simp, by simp, ⟨_, rfl, .inl ⟨rfl, rfl⟩⟩, by simp [pre]; cases lexL l 0 <;> rfl, .inr (.inl ⟨rfl, by simp⟩)⟩ fun j p h1 hj ⟨p1, p2, p3, p4, p5⟩ => ?_
 obtain ⟨a, ls, v⟩ := p
 simp only at p1 p2 p3 p4 p5
 rcases p5 with ⟨rfl, hnil, hj2⟩ | ⟨rfl, hj2⟩ | ⟨f, rfl, hne, hst, hj2⟩
 ·obtain ⟨o, hk, ho⟩ := id p3
  have hok : lexL l 0 = .ok ls := by rw [p4, hnil, kD]; simp [pre]
  rcases ho with ⟨rfl, rfl⟩ | ⟨b, rfl, hb⟩
  ·have d0 : decide (((0 : Nat) : Int) > 8000) = false := rfl
   simp -implicitDefEqProofs only [go_sem, hk, d0]
   exact ⟨_, _, Wk.refl (by simp), by rw [LexR, lexOut, if_neg hl, hok]; exact ⟨_, rfl, .inl ⟨rfl, rfl⟩⟩⟩
  ·by_cases h8 : ls.length > 8000
   ·have d2 : decide ((ls.length : Int) > 8000) = true := decide_eq_true (by omega)
    simp -implicitDefEqProofs only [go_sem, hk, List.length_map, d2]
    exact aP (by simp) (by rw [LexR, lexOut, if_neg hl, hok]; simp only; rw [if_pos h8]; rfl)
   ·have d2 : decide ((ls.length : Int) > 8000) = false := decide_eq_false (by omega)
    simp -implicitDefEqProofs only [go_sem, hk, List.length_map, d2]
    exact ⟨_, _, Wk.refl (by simp), by rw [LexR, lexOut, if_neg hl, hok]; simp only; rw [if_neg h8]; exact ⟨_, rfl, .inr ⟨b, rfl, hb⟩⟩⟩
 ·simp -implicitDefEqProofs only [go_sem]
  refine aJ hC (h95 hG (by omega) p1 (by omega) p3) fun x h' ⟨_, hb⟩ => ?_
  rcases hb with ⟨hnil, rfl, hsc⟩ | ⟨hne, hst | ⟨f, rfl, hsc, hst⟩⟩
  ·simp -implicitDefEqProofs only [go_sem]
   exact ⟨by omega, (a, ls, .v .nilFunc), _, Wk.pick (by simp) (by simp [go_sem]), p1, p2, hsc, p4, .inl ⟨rfl, hnil, by omega⟩⟩
  ·have hj2 : j <= 2 * a + 1 := by omega
   rcases x with v | x
   ·obtain ⟨p, e, hI⟩ := lexI_st (GL := GL) p1 p2 p4 hj2 hne hst
    subst e
    simp -implicitDefEqProofs only [go_sem]
    have hal : a < l.length := by
     rcases Nat.lt_or_ge a l.length with h | h
     ·exact h
     ·exact absurd (List.drop_of_length_le h) hne
    exact ⟨by omega, p, _, Wk.pick (by simp) (by simp [go_sem]), hI⟩
   ·simp -implicitDefEqProofs only [go_sem]
    exact aP (by simp) (mY (by omega) p4 hne hst)
  ·simp -implicitDefEqProofs only [go_sem]
   exact ⟨by omega, (a, ls, .fn (.func f) [] []), _, Wk.pick (by simp) (by simp [go_sem]), p1, p2, hsc, p4, .inr (.inr ⟨f, rfl, hne, hst, by omega⟩)⟩
 ·simp -implicitDefEqProofs only [go_sem]
  refine aJ hC hst fun x h' ⟨_, hst⟩ => ?_
  rcases x with v | x
  ·obtain ⟨p, e, hI⟩ := lexI_st (GL := GL) p1 p2 p4 hj2 hne hst
   subst e
   simp -implicitDefEqProofs only [go_sem]
   have hal : a < l.length := by
    rcases Nat.lt_or_ge a l.length with h | h
    ·exact h
    ·exact absurd (List.drop_of_length_le h) hne
   exact ⟨by omega, p, _, Wk.pick (by simp) (by simp [go_sem]), hI⟩
  ·simp -implicitDefEqProofs only [go_sem]
   exact aP (by simp) (mY (by omega) p4 hne hst)
theorem h58 (hG : GLok GL) (l : List UInt8) (h : List AObj) : AC Tryz.prog GL (.fn 58) [.str l] h fun x h' => LexR l x h' /\ Keep All h h' := by
 refine aJ hC (kJ (by simp [go_sem]) (lex0 hG l) h) ?_
 rintro x h' ⟨r0, h0, hR, rfl, rfl⟩
 refine ⟨?_, Keep.app _ _ _⟩
 unfold LexR at hR ⊢
 generalize lexOut l = z at hR ⊢
 rcases z with e | ls
 ·subst hR; simp [go_sem, renR, wrongV]
 ·obtain ⟨o, rfl, ho⟩ := hR
  refine ⟨_, rfl, ?_⟩
  rcases ho with ⟨rfl, rfl⟩ | ⟨b, rfl, hb⟩
  ·exact .inl ⟨rfl, by simp [go_sem]⟩
  ·refine .inr ⟨b + h.length, by simp [go_sem], ?_⟩
   rw [aZ (by omega), Nat.add_sub_cancel, List.getElem?_map, hb]; rfl
end Go.Rip
