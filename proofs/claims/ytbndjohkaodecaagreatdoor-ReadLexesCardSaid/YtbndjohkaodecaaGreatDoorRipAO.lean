/- What a text is cut into: plain. -/
import Derived.Lib.Bytealg
import Derived.BigCall
import Derived.Test.YtbndjohkaodecaaGreatDoorRipAK
import Derived.Test.YtbndjohkaodecaaGreatDoorRipAN
import Derived.Test.YtbndjohkaodecaaGreatDoorRipAL
import Derived.Test.YtbndjohkaodecaaGreatDoorRipAM
namespace Go.Rip
open Go
structure Lx where
 kind : Int
 n : Int
 s : List UInt8
 a : Nat
 e : Nat
 deriving Inhabited
def isDigit (c : UInt8) : Bool := decide ((c.toNat : Int) >= 48) && decide ((c.toNat : Int) <= 57)
def isSmall (c : UInt8) : Bool := decide ((c.toNat : Int) >= 97) && decide ((c.toNat : Int) <= 122)
def isLarge (c : UInt8) : Bool := (decide ((c.toNat : Int) >= 65) && decide ((c.toNat : Int) <= 90)) || ((c.toNat : Int) == 95)
def isName (c : UInt8) : Bool := isDigit c || (isSmall c || isLarge c)
def isBlank (c : UInt8) : Bool := ((c.toNat : Int) == 32) || (((c.toNat : Int) == 9) || (((c.toNat : Int) == 10) || ((c.toNat : Int) == 13)))
def isPlain (c : UInt8) : Bool := decide ((c.toNat : Int) >= 32) && decide ((c.toNat : Int) <= 126)
def symL : List UInt8 := [43, 45, 42, 47, 92, 94, 60, 62, 61, 126, 58, 63, 64, 35, 38, 36, 46]
def isSym (c : UInt8) : Bool := symL.any fun x => x == c
def signL : List UInt8 := [40, 41, 91, 93, 123, 125, 44, 124]
def isSign (c : UInt8) : Bool := signL.any fun x => x == c
def run (p : UInt8 -> Bool) : List UInt8 -> Nat
 | [] => 0
 | c :: r => if p c then run p r + 1 else 0
theorem dD (p : UInt8 -> Bool) : ∀ l, run p l <= l.length
 | [] => Nat.le_refl _
 | c :: r => by rw [run]; split <;> simp; exact dD p r
theorem kF {p : UInt8 -> Bool} {c : UInt8} {r : List UInt8} (h : p c = true) : 0 < run p (c :: r) := by rw [run, if_pos h]; omega
def decVal (l : List UInt8) : Nat := l.foldl (fun n c => 10 * n + (c.toNat - 48)) 0
def findEnd : List UInt8 -> Option Nat
 | [] => none
 | [_] => none
 | c :: d :: r => if c == 42 && d == 47 then some 0 else (findEnd (d :: r)).map (· + 1)
theorem jO : ∀ {l : List UInt8} {k : Nat}, findEnd l = some k -> k + 2 <= l.length
 | [], _, h => by cases h
 | [_], _, h => by cases h
 | c :: d :: r, k, h => by
  rw [findEnd] at h
  split at h
  ·cases h; simp
  ·obtain ⟨j, hj, rfl⟩ := Option.map_eq_some_iff.1 h
   have := jO hj
   simp at this ⊢; omega
def qName : List UInt8 -> Option (List UInt8 × Nat)
 | [] => none
 | [c] => if c == 39 then some ([], 1) else none
 | c :: d :: r => if c == 39 then some ([], 1) else if c == 92 then (if d == 39 || d == 92 then (qName r).map fun x => (d :: x.1, x.2 + 2) else none)
   else if isPlain c then (qName (d :: r)).map fun x => (c :: x.1, x.2 + 1) else none
theorem nC : ∀ {l : List UInt8} {x : List UInt8 × Nat}, qName l = some x -> 0 < x.2 /\ x.2 <= l.length
 | [], _, h => by cases h
 | [c], x, h => by
  rw [qName] at h
  split at h
  ·cases h; simp
  ·cases h
 | c :: d :: r, x, h => by
  rw [qName] at h
  split at h
  ·cases h; simp
  split at h
  ·split at h
   ·obtain ⟨j, hj, rfl⟩ := Option.map_eq_some_iff.1 h
    have := nC hj
    simp at this ⊢; omega
   ·cases h
  split at h
  ·obtain ⟨j, hj, rfl⟩ := Option.map_eq_some_iff.1 h
   have := nC hj
   simp at this ⊢; omega
  ·cases h
def hexV (c : UInt8) : Int := if isDigit c then (c.toNat : Int) - 48 else if decide ((c.toNat : Int) >= 97) && decide ((c.toNat : Int) <= 102) then (c.toNat : Int) - 97 + 10 else -1
def escHex : List UInt8 -> Option (UInt8 × Nat)
 | a :: b :: _ => if 0 <= hexV a /\ 0 <= hexV b then some (UInt8.ofNat (16 * hexV a + hexV b).toNat, 3) else none
 | _ => none
def esc : List UInt8 -> Option (UInt8 × Nat)
 | [] => none
 | d :: r => if d == 34 || d == 92 then some (d, 1) else if d == 110 then some (10, 1) else if d == 120 then escHex r else none
theorem uT {l : List UInt8} {x : UInt8 × Nat} (h : esc l = some x) : 0 < x.2 /\ x.2 <= l.length := by
 rcases l with _ | ⟨d, r⟩
 ·cases h
 ·rw [esc] at h
  split at h
  ·cases h; simp
  split at h
  ·cases h; simp
  split at h
  ·rcases r with _ | ⟨a, _ | ⟨b, r⟩⟩
   ·cases h
   ·cases h
   ·rw [escHex] at h
    split at h
    ·cases h; simp
    ·cases h
  ·cases h
def qStrF : Nat -> List UInt8 -> Option (List UInt8 × Nat)
 | 0, _ => none
 | _ + 1, [] => none
 | f + 1, c :: r => if c == 34 then some ([], 1) else if isPlain c then (if c == 92 then (match esc r with
  | some (b, k) => (qStrF f (r.drop k)).map fun x => (b :: x.1, x.2 + (k + 1))
  | none => none) else (qStrF f r).map fun x => (c :: x.1, x.2 + 1)) else none
theorem oT : ∀ {f : Nat} {l : List UInt8} {x : List UInt8 × Nat}, qStrF f l = some x -> 0 < x.2 /\ x.2 <= l.length
 | 0, _, _, h => by cases h
 | _ + 1, [], _, h => by cases h
 | f + 1, c :: r, x, h => by
  rw [qStrF] at h
  split at h
  ·cases h; simp
  split at h
  ·split at h
   ·split at h
    ·rename_i b k he
     obtain ⟨j, hj, rfl⟩ := Option.map_eq_some_iff.1 h
     have h1 := oT hj
     have h2 := uT he
     simp at h1 h2 ⊢; omega
    ·cases h
   ·obtain ⟨j, hj, rfl⟩ := Option.map_eq_some_iff.1 h
    have := oT hj
    simp at this ⊢; omega
  ·cases h
theorem jK : ∀ {f g : Nat} {l : List UInt8}, l.length <= f -> l.length <= g -> qStrF f l = qStrF g l
 | 0, 0, _, _, _ => rfl
 | 0, g + 1, [], _, _ => rfl
 | f + 1, 0, [], _, _ => rfl
 | f + 1, g + 1, [], _, _ => rfl
 | 0, _ + 1, _ :: _, h, _ => by simp at h
 | _ + 1, 0, _ :: _, _, h => by simp at h
 | f + 1, g + 1, c :: r, h, h' => by
  simp at h h'
  rw [qStrF, qStrF, jK h h']
  congr 1
  congr 1
  congr 1
  cases esc r with
  | none => rfl
  | some x => simp only; rw [jK (f := f) (g := g) (by simp; omega) (by simp; omega)]
def qStr (l : List UInt8) : Option (List UInt8 × Nat) := qStrF l.length l
inductive Stp where
 | bad
 | skip (k : Nat)
 | lex (kind n : Int) (t : List UInt8) (k : Nat)
def nmAfter : List UInt8 -> Bool
 | [] => false
 | c :: _ => isName c
def endAfter : List UInt8 -> Bool
 | [] => true
 | c :: _ => isBlank c || (c.toNat : Int) == 37
def stpNum (l : List UInt8) : Stp := if decide (decVal (l.take (run isDigit l)) > 2147483647) || nmAfter (l.drop (run isDigit l)) then .bad else .lex 4 (decVal (l.take (run isDigit l))) [] (run isDigit l)
def stpWord (l : List UInt8) (k : Int) : Stp := if run isName l > 32 then .bad else .lex k 0 (l.take (run isName l)) (run isName l)
def stpSym (l : List UInt8) : Stp := if run isSym l > 32 then .bad else .lex (if l.take (run isSym l) == [46] && endAfter (l.drop (run isSym l)) then 7 else 1) 0 (l.take (run isSym l)) (run isSym l)
def stpQuoted (r : List UInt8) : Stp := match qName r with
 | some (t, k) => if t.length < 1 ∨ t.length > 32 then .bad else .lex 2 0 t (k + 1)
 | none => .bad
def stpStr (r : List UInt8) : Stp := match qStr r with
 | some (t, k) => if t.length > 255 then .bad else .lex 5 0 t (k + 1)
 | none => .bad
def isCom (c : UInt8) (r : List UInt8) : Bool := c == 47 && (match r with
 | [] => false
 | d :: _ => d == 42)
def stp : List UInt8 -> Stp
 | [] => .bad
 | c :: r =>
  if isBlank c then .skip 1
  else if c == 37 then .skip (run (fun c => c != 10) (c :: r))
  else if isCom c r then (match findEnd (r.drop 1) with
   | some k => .skip (k + 4)
   | none => .bad)
  else if isDigit c then stpNum (c :: r)
  else if isSmall c then stpWord (c :: r) 1
  else if isLarge c then stpWord (c :: r) 3
  else if isSym c then stpSym (c :: r)
  else if c == 39 then stpQuoted r
  else if c == 34 then stpStr r
  else if isSign c then .lex 6 0 [c] 1
  else .bad
def Stp.len : Stp -> Nat
 | .bad => 1
 | .skip k => k
 | .lex _ _ _ k => k
def LenOk (s : Stp) (n : Nat) : Prop := 0 < s.len /\ s.len <= n
theorem lo_bad {n : Nat} (h : 0 < n) : LenOk .bad n := ⟨Nat.zero_lt_one, h⟩
theorem rE {k n : Nat} (h : 0 < k) (h' : k <= n) : LenOk (.skip k) n := ⟨h, h'⟩
theorem kN {d m : Int} {t : List UInt8} {k n : Nat} (h : 0 < k) (h' : k <= n) : LenOk (.lex d m t k) n := ⟨h, h'⟩
theorem stp_ok (c : UInt8) (r : List UInt8) : LenOk (stp (c :: r)) (r.length + 1) := by
 have lb : ∀ {n}, LenOk .bad (n + 1) := fun {n} => lo_bad (Nat.succ_pos n)
 have rl : ∀ p, run p (c :: r) <= r.length + 1 := fun p => dD p (c :: r)
 rw [stp]
 split
 ·exact rE (by omega) (by omega)
 split
 ·rename_i h
  exact rE (kF (by simp at h; subst h; decide)) (rl _)
 split
 ·split
  ·rename_i k hk
   have := jO hk
   exact rE (by omega) (by simp at this; omega)
  ·exact lb
 split
 ·rename_i h
  unfold stpNum
  split
  ·exact lb
  ·exact kN (kF h) (rl _)
 have wd : ∀ k, isName c = true -> LenOk (stpWord (c :: r) k) (r.length + 1) := fun k h => by
  unfold stpWord
  split
  ·exact lb
  ·exact kN (kF h) (rl _)
 split
 ·rename_i h; exact wd _ (by simp [isName, h])
 split
 ·rename_i h; exact wd _ (by simp [isName, h])
 split
 ·rename_i h
  unfold stpSym
  split
  ·exact lb
  ·exact kN (kF h) (rl _)
 split
 ·unfold stpQuoted
  split
  ·rename_i t k hk
   split
   ·exact lb
   ·have := nC hk
    exact kN (by omega) (by omega)
  ·exact lb
 split
 ·unfold stpStr
  split
  ·rename_i t k hk
   split
   ·exact lb
   ·have := oT hk
    exact kN (by omega) (by omega)
  ·exact lb
 split
 ·exact kN (by omega) (by omega)
 ·exact lb
theorem dS {l : List UInt8} (hl : l ≠ []) : 0 < (stp l).len /\ (stp l).len <= l.length := by
 cases l with
 | nil => exact absurd rfl hl
 | cons c r => exact stp_ok c r
def lexF : Nat -> List UInt8 -> Nat -> Except Nat (List Lx)
 | 0, _, _ => .ok []
 | _ + 1, [], _ => .ok []
 | f + 1, c :: r, a => match stp (c :: r) with
  | .bad => .error a
  | .skip k => lexF f ((c :: r).drop k) (a + k)
  | .lex d n t k => match lexF f ((c :: r).drop k) (a + k) with
   | .ok l => .ok (⟨d, n, t, a, a + k⟩ :: l)
   | .error e => .error e
theorem iM : ∀ {f g : Nat} {l : List UInt8} {a : Nat}, l.length <= f -> l.length <= g -> lexF f l a = lexF g l a
 | 0, 0, _, _, _, _ => rfl
 | 0, g + 1, [], _, _, _ => rfl
 | f + 1, 0, [], _, _, _ => rfl
 | f + 1, g + 1, [], _, _, _ => rfl
 | 0, _ + 1, _ :: _, _, h, _ => by simp at h
 | _ + 1, 0, _ :: _, _, _, h => by simp at h
 | f + 1, g + 1, c :: r, a, h, h' => by
  have hs := dS (l := c :: r) (by simp)
  simp only [List.length_cons] at h h' hs
  rw [lexF, lexF]
  cases hc : stp (c :: r) with
  | bad => rfl
  | skip k =>
   rw [hc, Stp.len] at hs
   simp only
   exact iM (by simp; omega) (by simp; omega)
  | lex d n t k =>
   rw [hc, Stp.len] at hs
   simp only
   rw [iM (f := f) (g := g) (by simp; omega) (by simp; omega)]
def lexL (l : List UInt8) (a : Nat) : Except Nat (List Lx) := lexF l.length l a
theorem kD (a : Nat) : lexL [] a = .ok [] := rfl
theorem eM {l : List UInt8} (hl : l ≠ []) (a : Nat) : lexL l a = match stp l with
  | .bad => .error a
  | .skip k => lexL (l.drop k) (a + k)
  | .lex d n t k => match lexL (l.drop k) (a + k) with
   | .ok r => .ok (⟨d, n, t, a, a + k⟩ :: r)
   | .error e => .error e := by
 have hs := dS hl
 cases l with
 | nil => exact absurd rfl hl
 | cons c r =>
  rw [lexL, List.length_cons, lexF]
  cases hc : stp (c :: r) with
  | bad => rfl
  | skip k =>
   rw [hc, Stp.len] at hs
   simp only [List.length_cons] at hs ⊢
   exact iM (by simp; omega) (by simp)
  | lex d n t k =>
   rw [hc, Stp.len] at hs
   simp only [List.length_cons] at hs ⊢
   rw [iM (f := r.length) (g := ((c :: r).drop k).length) (by simp; omega) (by simp)]
   rfl
abbrev Str := List UInt8
structure Opr where
 prio : Int
 left : Int
 right : Int
 deriving Inhabited
def infixT0 : List (Str × Opr) := [([58, 45], ⟨1200, 1199, 1199⟩), ([124], ⟨1100, 1099, 1100⟩), ([44], ⟨1000, 999, 1000⟩), ([64], ⟨900, 899, 899⟩)]
def rel7 : List Str := [[61], [61, 61], [92, 61, 61], [61, 58, 61], [61, 92, 61], [60], [61, 60], [62], [62, 61], [58, 61]]
def add5 : List Str := [[43], [45]]
def mul4 : List Str := [[42], [47], [109, 111, 100]]
def infixT : List (Str × Opr) := infixT0 ++ (rel7.map fun s => (s, ⟨700, 699, 699⟩)) ++ (add5.map fun s => (s, ⟨500, 500, 499⟩)) ++ (mul4.map fun s => (s, ⟨400, 400, 399⟩))
def prefixT : List (Str × Opr) := [([58, 45], ⟨1200, 0, 1199⟩), ([45], ⟨200, 0, 200⟩)]
def assoc (s : Str) : List (Str × Opr) -> Option Opr
 | [] => none
 | (k, o) :: r => if s == k then some o else assoc s r
def infixO (s : Str) : Option Opr := assoc s infixT
def prefixO (s : Str) : Option Opr := assoc s prefixT
inductive PR (α : Type) where
 | ok (x : α) (r : List Lx) (ns : List Str)
 | bad (r : List Lx)
def isSg (c : UInt8) : List Lx -> Bool
 | [] => false
 | x :: _ => x.kind == 6 && x.s == [c]
def nextSg (x : Lx) : List Lx -> Bool
 | [] => false
 | y :: _ => y.kind == 6 && (y.a == x.e && y.s == [40])
def nextInt (x : Lx) : List Lx -> Bool
 | [] => false
 | y :: _ => y.kind == 4 && y.a == x.e
def numAt : List Lx -> Int
 | [] => 0
 | y :: _ => y.n
def infAt : List Lx -> Option (Str × Opr)
 | [] => none
 | x :: _ => if x.kind == 1 || x.kind == 6 then (infixO x.s).map fun o => (x.s, o) else none
def idxN (s : Str) : List Str -> Option Nat
 | [] => none
 | n :: r => if n == s then some 0 else (idxN s r).map (· + 1)
def varP (s : Str) (r : List Lx) (ns : List Str) : PR (Tm × Int) :=
 match if s == [95] then none else idxN s ns with
 | some i => .ok (.mk 1 i [] [], 0) r ns
 | none => .ok (.mk 1 ns.length [] [], 0) r (ns ++ [s])
def want (c : UInt8) (t : Tm × Int) (r : List Lx) (ns : List Str) : PR (Tm × Int) := if isSg c r then .ok t r.tail ns else .bad r
def cellT (x y : Tm) : Tm := .mk 5 0 [46] [x, y]
def nilT : Tm := .mk 3 0 [91, 93] []
def listT (l : List Tm) (t : Tm) : Tm := l.foldr cellT t
mutual
def termF : Nat -> Int -> List Lx -> List Str -> Option (PR (Tm × Int))
 | 0, _, _, _ => none
 | f + 1, lim, l, ns => match firstF f lim l ns with
  | some (.ok x r ns') => loopF f lim x.1 x.2 r ns'
  | some (.bad r) => some (.bad r)
  | none => none
def loopF : Nat -> Int -> Tm -> Int -> List Lx -> List Str -> Option (PR (Tm × Int))
 | 0, _, _, _, _, _ => none
 | f + 1, lim, t, p, l, ns => match infAt l with
  | none => some (.ok (t, p) l ns)
  | some (s, op) => if op.prio > lim ∨ p > op.left then some (.ok (t, p) l ns) else match termF f op.right l.tail ns with
   | some (.ok u r ns') => loopF f lim (.mk 5 0 s [t, u.1]) op.prio r ns'
   | some (.bad r) => some (.bad r)
   | none => none
def severalF : Nat -> List Lx -> List Str -> Option (PR (List Tm))
 | 0, _, _ => none
 | f + 1, l, ns => match termF f 999 l ns with
  | some (.ok t r ns') => if isSg 44 r then match severalF f r.tail ns' with
    | some (.ok ts r' ns'') => some (.ok (t.1 :: ts) r' ns'')
    | some (.bad r') => some (.bad r')
    | none => none
   else some (.ok [t.1] r ns')
  | some (.bad r) => some (.bad r)
  | none => none
def firstF : Nat -> Int -> List Lx -> List Str -> Option (PR (Tm × Int))
 | 0, _, _, _ => none
 | _ + 1, _, [], _ => some (.bad [])
 | f + 1, lim, x :: r, ns =>
  if x.kind == 4 then some (.ok (.mk 2 x.n [] [], 0) r ns)
  else if x.kind == 5 then some (.ok (.mk 4 0 x.s [], 0) r ns)
  else if x.kind == 3 then some (varP x.s r ns)
  else if x.kind == 6 then bracketF f x r ns
  else if x.kind == 1 || x.kind == 2 then namedF f lim x r ns
  else some (.bad (x :: r))
def bracketF : Nat -> Lx -> List Lx -> List Str -> Option (PR (Tm × Int))
 | 0, _, _, _ => none
 | f + 1, x, r, ns =>
  if x.s == [40] then match termF f 1200 r ns with
   | some (.ok t r' ns') => some (want 41 (t.1, 0) r' ns')
   | some (.bad r') => some (.bad r')
   | none => none
  else if x.s == [123] then
   if isSg 125 r then some (.ok (.mk 6 0 [] [], 0) r.tail ns) else match severalF f r ns with
    | some (.ok ts r' ns') => some (want 125 (.mk 6 0 [] ts, 0) r' ns')
    | some (.bad r') => some (.bad r')
    | none => none
  else if x.s == [91] then
   if isSg 93 r then some (.ok (nilT, 0) r.tail ns) else match severalF f r ns with
    | some (.ok ts r' ns') => if isSg 124 r' then match termF f 999 r'.tail ns' with
      | some (.ok t r'' ns'') => some (want 93 (listT ts t.1, 0) r'' ns'')
      | some (.bad r'') => some (.bad r'')
      | none => none
     else some (want 93 (listT ts nilT, 0) r' ns')
    | some (.bad r') => some (.bad r')
    | none => none
  else some (.bad (x :: r))
def namedF : Nat -> Int -> Lx -> List Lx -> List Str -> Option (PR (Tm × Int))
 | 0, _, _, _, _ => none
 | f + 1, lim, x, r, ns =>
  if nextSg x r then match severalF f r.tail ns with
   | some (.ok ts r' ns') => some (want 41 (.mk 5 0 x.s ts, 0) r' ns')
   | some (.bad r') => some (.bad r')
   | none => none
  else if x.kind == 2 then some (.ok (.mk 3 0 x.s [], 0) r ns)
  else if x.s == [45] && nextInt x r then some (.ok (.mk 2 (-(numAt r)) [] [], 0) r.tail ns)
  else match prefixO x.s with
   | some op => if op.prio > lim then some (.bad (x :: r)) else match termF f op.right r ns with
    | some (.ok t r' ns') => some (.ok (.mk 5 0 x.s [t.1], op.prio) r' ns')
    | some (.bad r') => some (.bad r')
    | none => none
   | none => match infixO x.s with
    | some _ => some (.bad (x :: r))
    | none => some (.ok (.mk 3 0 x.s [], 0) r ns)
end
def PR.len {α : Type} : PR α -> Nat
 | .ok _ r _ => r.length
 | .bad r => r.length
end Go.Rip
namespace Go.Rip
open Go Go.Proofs
set_option maxRecDepth 100000
variable {GL : Glob}
abbrev PC (GL : Glob) : Calling := AC Tryz.prog GL
theorem hC : (PC GL).Mono := AC.mono
abbrev AV.u (c : UInt8) : AV := .v (.int .u8 c.toNat)
theorem rQ {P : Program} {f : FuncId} {args : List AV} {vs : List Value} {v : Value} {x : AV} (hv : ∀ E A G w us, Reps E A G w args us -> us = vs) (hr : ∀ w, (callFunc f vs.toArray).run P w = .ok (.value v) w) (hx : ∀ E A G w, Rep E A G w x v) : Pure (AC P GL) f args x := by
 intro h E A G w us hW ha
 obtain rfl := hv _ _ _ _ _ ha
 exact .inr ⟨v, w, hr w, E, A, G, .val x, h, hW, Ext.refl _ _ _, E.le_refl, hx _ _ _ _, rfl, rfl⟩
theorem h214 (l : List UInt8) (c : UInt8) : Pure (PC GL) 214 [.str l, .u c] (.i (Go.Lib.indexByte l c)) := by
 refine rQ (vs := [.string ⟨l.toArray⟩, .int .u8 c.toNat]) (v := .int .i64 (Go.Lib.indexByte l c)) (fun E A G w us h => ?_) (fun w => ?_) (fun E A G w => by simp [Rep])
 ·simp only [Reps, Rep] at h
  obtain ⟨_, _, rfl, rfl, _, _, rfl, rfl, rfl⟩ := h
  rfl
 ·rw [run_callFunc_extern (Tryz.func214) (by kernel_rfl) (by kernel_rfl) (by kernel_rfl) (e := Extern.BytealgIndexByte.indexByte) (by kernel_rfl), Go.Lib.run_indexByteString]
  simp
theorem h186 (l : List UInt8) (c : UInt8) : Pure (PC GL) 186 [.str l, .u c] (.i (Go.Lib.indexByte l c)) := by
 refine k186.pure (by simp) (by simp [go_sem]) (by simp [go_sem]) ?_
 simp -implicitDefEqProofs only [c186, r186, go_sem]
 repeat' (first | simp -implicitDefEqProofs only [go_sem, *] | with_reducible refine bF (fun _ => ?_) (fun _ => ?_) | with_reducible refine bD (fun _ => ?_) (fun _ => ?_) | with_reducible refine bA (fun _ => ?_) (fun _ => ?_) | with_reducible refine aO ?_ ?_ | (refine aC hC (h214 _ _) ?_) | ((with_reducible refine And.intro ?bnd ?_); (case bnd => decide)) | fail)
 all_goals simp [go_sem]
theorem h143 (l : List UInt8) (c : UInt8) : Pure (PC GL) 143 [.str l, .u c] (.i (Go.Lib.indexByte l c)) := by
 refine k143.pure (by simp) (by simp [go_sem]) (by simp [go_sem]) ?_
 simp -implicitDefEqProofs only [c143, r143, go_sem]
 repeat' (first | simp -implicitDefEqProofs only [go_sem, *] | with_reducible refine bF (fun _ => ?_) (fun _ => ?_) | with_reducible refine bD (fun _ => ?_) (fun _ => ?_) | with_reducible refine bA (fun _ => ?_) (fun _ => ?_) | with_reducible refine aO ?_ ?_ | (refine aC hC (h186 _ _) ?_) | ((with_reducible refine And.intro ?bnd ?_); (case bnd => decide)) | fail)
 all_goals simp [go_sem]
theorem rC (l : List UInt8) (c : UInt8) : decide (Go.Lib.indexByte l c >= 0) = l.any fun x => x == c := by
 induction l with
 | nil => rfl
 | cons b r ih =>
  rw [Go.Lib.indexByte, List.any_cons, <- ih]
  have := Go.Lib.indexByte_ge r c
  by_cases h : b == c
  ·simp [h]
  ·simp only [h]
   by_cases h2 : Go.Lib.indexByte r c = -1
   ·simp [h2]
   ·have h3 : (Go.Lib.indexByte r c == -1) = false := by simpa using h2
    simp only [h3, Bool.false_eq_true, if_false, Bool.false_or]
    rw [decide_eq_true (by omega), decide_eq_true (by omega)]
theorem h130 (c : UInt8) : Pure (PC GL) 130 [.u c] (.b (isBlank c)) := by
 refine k130.pure (by simp) (by simp [go_sem]) (by simp [go_sem]) ?_
 simp -implicitDefEqProofs only [c130, r130, go_sem]
 repeat' (first | simp -implicitDefEqProofs only [go_sem, *] | with_reducible refine bF (fun _ => ?_) (fun _ => ?_) | with_reducible refine bD (fun _ => ?_) (fun _ => ?_) | with_reducible refine bA (fun _ => ?_) (fun _ => ?_) | with_reducible refine aO ?_ ?_ | ((with_reducible refine And.intro ?bnd ?_); (case bnd => decide)) | fail)
 all_goals first | (simp_all [isBlank]; done) | (simp_all [isBlank]; intros; omega) | (simp_all only [isBlank, go_sem]; simp_all)
theorem h132 (c : UInt8) : Pure (PC GL) 132 [.u c] (.b (c != 10)) := by
 have e : ((c.toNat : Int) != 10) = (c != 10) := by
  rw [Bool.eq_iff_iff, bne_iff_ne, bne_iff_ne]
  constructor
  ·rintro h rfl; exact h rfl
  ·intro h h2; exact h (UInt8.toNat_inj.1 (by simpa using (by exact_mod_cast h2 : c.toNat = 10)))
 refine k132.pure (by simp) (by simp [go_sem]) (by simp [go_sem]) ?_
 simp -implicitDefEqProofs only [c132, r132, go_sem]
 repeat' (first | simp -implicitDefEqProofs only [go_sem, *] | with_reducible refine bF (fun _ => ?_) (fun _ => ?_) | with_reducible refine bD (fun _ => ?_) (fun _ => ?_) | with_reducible refine bA (fun _ => ?_) (fun _ => ?_) | with_reducible refine aO ?_ ?_ | ((with_reducible refine And.intro ?bnd ?_); (case bnd => decide)) | fail)
 all_goals simp_all [go_sem]
theorem h134 (c : UInt8) : Pure (PC GL) 134 [.u c] (.b (isDigit c)) := by
 refine k134.pure (by simp) (by simp [go_sem]) (by simp [go_sem]) ?_
 simp -implicitDefEqProofs only [c134, r134, go_sem]
 repeat' (first | simp -implicitDefEqProofs only [go_sem, *] | with_reducible refine bF (fun _ => ?_) (fun _ => ?_) | with_reducible refine bD (fun _ => ?_) (fun _ => ?_) | with_reducible refine bA (fun _ => ?_) (fun _ => ?_) | with_reducible refine aO ?_ ?_ | ((with_reducible refine And.intro ?bnd ?_); (case bnd => decide)) | fail)
 all_goals first | (simp_all [isDigit]; done) | (simp_all [isDigit]; intros; omega)
theorem h136 (c : UInt8) : Pure (PC GL) 136 [.u c] (.b (isSmall c)) := by
 refine k136.pure (by simp) (by simp [go_sem]) (by simp [go_sem]) ?_
 simp -implicitDefEqProofs only [c136, r136, go_sem]
 repeat' (first | simp -implicitDefEqProofs only [go_sem, *] | with_reducible refine bF (fun _ => ?_) (fun _ => ?_) | with_reducible refine bD (fun _ => ?_) (fun _ => ?_) | with_reducible refine bA (fun _ => ?_) (fun _ => ?_) | with_reducible refine aO ?_ ?_ | ((with_reducible refine And.intro ?bnd ?_); (case bnd => decide)) | fail)
 all_goals first | (simp_all [isSmall]; done) | (simp_all [isSmall]; intros; omega)
theorem h137 (c : UInt8) : Pure (PC GL) 137 [.u c] (.b (isLarge c)) := by
 refine k137.pure (by simp) (by simp [go_sem]) (by simp [go_sem]) ?_
 simp -implicitDefEqProofs only [c137, r137, go_sem]
 repeat' (first | simp -implicitDefEqProofs only [go_sem, *] | with_reducible refine bF (fun _ => ?_) (fun _ => ?_) | with_reducible refine bD (fun _ => ?_) (fun _ => ?_) | with_reducible refine bA (fun _ => ?_) (fun _ => ?_) | with_reducible refine aO ?_ ?_ | ((with_reducible refine And.intro ?bnd ?_); (case bnd => decide)) | fail)
 all_goals first | (simp_all [isLarge]; done) | (simp_all [isLarge]; intros; omega)
theorem h170 (c : UInt8) : Pure (PC GL) 170 [.u c] (.b (isPlain c)) := by
 refine k170.pure (by simp) (by simp [go_sem]) (by simp [go_sem]) ?_
 simp -implicitDefEqProofs only [c170, r170, go_sem]
 repeat' (first | simp -implicitDefEqProofs only [go_sem, *] | with_reducible refine bF (fun _ => ?_) (fun _ => ?_) | with_reducible refine bD (fun _ => ?_) (fun _ => ?_) | with_reducible refine bA (fun _ => ?_) (fun _ => ?_) | with_reducible refine aO ?_ ?_ | ((with_reducible refine And.intro ?bnd ?_); (case bnd => decide)) | fail)
 all_goals first | (simp_all [isPlain]; done) | (simp_all [isPlain]; intros; omega)
theorem h184 (c : UInt8) : Pure (PC GL) 184 [.u c] (.b (isName c)) := by
 refine k184.pure (by simp) (by simp [go_sem]) (by simp [go_sem]) ?_
 simp -implicitDefEqProofs only [c184, r184, go_sem]
 repeat' (first | simp -implicitDefEqProofs only [go_sem, *] | with_reducible refine bF (fun _ => ?_) (fun _ => ?_) | with_reducible refine bD (fun _ => ?_) (fun _ => ?_) | with_reducible refine bA (fun _ => ?_) (fun _ => ?_) | with_reducible refine aO ?_ ?_ | (refine aC hC (h134 _) ?_) | (refine aC hC (h136 _) ?_) | (refine aC hC (h137 _) ?_) | ((with_reducible refine And.intro ?bnd ?_); (case bnd => decide)) | fail)
 all_goals simp_all [isName]
theorem h139 (c : UInt8) : Pure (PC GL) 139 [.u c] (.b (isSym c)) := by
 refine k139.pure (by simp) (by simp [go_sem]) (by simp [go_sem]) ?_
 simp -implicitDefEqProofs only [c139, r139, go_sem]
 repeat' (first | simp -implicitDefEqProofs only [go_sem, *] | with_reducible refine bF (fun _ => ?_) (fun _ => ?_) | with_reducible refine bD (fun _ => ?_) (fun _ => ?_) | with_reducible refine bA (fun _ => ?_) (fun _ => ?_) | with_reducible refine aO ?_ ?_ | (refine aC hC (h143 _ _) ?_) | ((with_reducible refine And.intro ?bnd ?_); (case bnd => decide)) | fail)
 all_goals simp [go_sem, rC, isSym, symL]
theorem h96 (c : UInt8) : Pure (PC GL) 96 [.u c] (.b (isBlank c)) := by
 refine k96.pure (by simp) (by simp [go_sem]) (by simp [go_sem]) ?_
 simp -implicitDefEqProofs only [c96, r96, go_sem]
 repeat' (first | simp -implicitDefEqProofs only [go_sem, *] | with_reducible refine bF (fun _ => ?_) (fun _ => ?_) | with_reducible refine bD (fun _ => ?_) (fun _ => ?_) | with_reducible refine bA (fun _ => ?_) (fun _ => ?_) | with_reducible refine aO ?_ ?_ | ((with_reducible refine And.intro ?bnd ?_); (case bnd => decide)) | fail)
 all_goals first | (simp_all [isBlank]; done) | (simp_all [isBlank]; intros; omega) | (simp_all only [isBlank, go_sem]; simp_all)
theorem h99 (c : UInt8) : Pure (PC GL) 99 [.u c] (.b (isDigit c)) := by
 refine k99.pure (by simp) (by simp [go_sem]) (by simp [go_sem]) ?_
 simp -implicitDefEqProofs only [c99, r99, go_sem]
 repeat' (first | simp -implicitDefEqProofs only [go_sem, *] | with_reducible refine bF (fun _ => ?_) (fun _ => ?_) | with_reducible refine bD (fun _ => ?_) (fun _ => ?_) | with_reducible refine bA (fun _ => ?_) (fun _ => ?_) | with_reducible refine aO ?_ ?_ | ((with_reducible refine And.intro ?bnd ?_); (case bnd => decide)) | fail)
 all_goals first | (simp_all [isDigit]; done) | (simp_all [isDigit]; intros; omega)
theorem h103 (c : UInt8) : Pure (PC GL) 103 [.u c] (.b (isSmall c)) := by
 refine k103.pure (by simp) (by simp [go_sem]) (by simp [go_sem]) ?_
 simp -implicitDefEqProofs only [c103, r103, go_sem]
 repeat' (first | simp -implicitDefEqProofs only [go_sem, *] | with_reducible refine bF (fun _ => ?_) (fun _ => ?_) | with_reducible refine bD (fun _ => ?_) (fun _ => ?_) | with_reducible refine bA (fun _ => ?_) (fun _ => ?_) | with_reducible refine aO ?_ ?_ | ((with_reducible refine And.intro ?bnd ?_); (case bnd => decide)) | fail)
 all_goals first | (simp_all [isSmall]; done) | (simp_all [isSmall]; intros; omega)
theorem h104 (c : UInt8) : Pure (PC GL) 104 [.u c] (.b (isLarge c)) := by
 refine k104.pure (by simp) (by simp [go_sem]) (by simp [go_sem]) ?_
 simp -implicitDefEqProofs only [c104, r104, go_sem]
 repeat' (first | simp -implicitDefEqProofs only [go_sem, *] | with_reducible refine bF (fun _ => ?_) (fun _ => ?_) | with_reducible refine bD (fun _ => ?_) (fun _ => ?_) | with_reducible refine bA (fun _ => ?_) (fun _ => ?_) | with_reducible refine aO ?_ ?_ | ((with_reducible refine And.intro ?bnd ?_); (case bnd => decide)) | fail)
 all_goals first | (simp_all [isLarge]; done) | (simp_all [isLarge]; intros; omega)
theorem h102 (c : UInt8) : Pure (PC GL) 102 [.u c] (.b (isName c)) := by
 refine k102.pure (by simp) (by simp [go_sem]) (by simp [go_sem]) ?_
 simp -implicitDefEqProofs only [c102, r102, go_sem]
 repeat' (first | simp -implicitDefEqProofs only [go_sem, *] | with_reducible refine bF (fun _ => ?_) (fun _ => ?_) | with_reducible refine bD (fun _ => ?_) (fun _ => ?_) | with_reducible refine bA (fun _ => ?_) (fun _ => ?_) | with_reducible refine aO ?_ ?_ | (refine aC hC (h103 _) ?_) | (refine aC hC (h104 _) ?_) | (refine aC hC (h99 _) ?_) | ((with_reducible refine And.intro ?bnd ?_); (case bnd => decide)) | fail)
 all_goals (cases h1 : isSmall c <;> cases h2 : isLarge c <;> cases h3 : isDigit c <;> simp_all [isName])
theorem h98 (l : List UInt8) (c : UInt8) (hl : l.length < 2 ^ 40) : Pure (PC GL) 98 [.str l, .u c] (.b (l.any fun x => x == c)) := by
 refine k98.pure (by simp) (by simp [go_sem]) (by simp [go_sem]) ?_
 simp -implicitDefEqProofs only [c98, r98, go_sem]
 refine eE hC (fun j => ((l.take j).any fun x => x == c) = false) (fun j => [(5, .i j)]) [0, 1] l.length (by simp) ?_ ?_
 ·refine Wk.slots (by simp) ?_ ?_ <;> simp [go_sem]
 ·intro j hj hi
  simp -implicitDefEqProofs only [go_sem]
  refine bA (fun hlt => ?_) (fun hlt => ?_)
  ·have hlt := eJ hlt
   have eg : l.getD j 0 = l[j] := by simp [List.getD, hlt]
   have eq : (((l[j]).toNat : Int) == (c.toNat : Int)) = (l[j] == c) := by
    rw [Bool.eq_iff_iff, beq_iff_eq, beq_iff_eq]
    constructor
    ·intro h; exact UInt8.toNat_inj.1 (by exact_mod_cast h)
    ·rintro h; rw [h]
   have w1 : IntKind.i64.wrap ((j : Int) + 1) = (j : Int) + 1 := aK _ (by omega)
   simp -implicitDefEqProofs only [go_sem, hlt, eg, eq]
   refine bA (fun hc => ?_) (fun hc => ?_)
   ·simp -implicitDefEqProofs only [go_sem, hc]
    refine aO ?_ ?_
    ·have : (l.any fun x => x == c) = true := List.any_eq_true.2 ⟨l[j], List.getElem_mem hlt, hc⟩
     simp [go_sem, this]
    ·simp [go_sem]
   ·simp -implicitDefEqProofs only [go_sem, hc, w1]
    refine ⟨?_, Wk.slots (by simp) ?_ ?_⟩
    ·rw [dJ hlt, List.any_append, hi]
     simp [hc]
    ·simp [go_sem]
    ·simp [go_sem]
  ·have hge := eF hlt
   rw [eV hge] at hi
   simp -implicitDefEqProofs only [go_sem, hlt]
   refine aO ?_ ?_ <;> simp [go_sem, hi]
theorem h105 (c : UInt8) : Pure (PC GL) 105 [.u c] (.b (isSym c)) := by
 refine k105.pure (by simp) (by simp [go_sem]) (by simp [go_sem]) ?_
 simp -implicitDefEqProofs only [c105, r105, go_sem]
 repeat' (first | simp -implicitDefEqProofs only [go_sem, *] | with_reducible refine bF (fun _ => ?_) (fun _ => ?_) | with_reducible refine bD (fun _ => ?_) (fun _ => ?_) | with_reducible refine bA (fun _ => ?_) (fun _ => ?_) | with_reducible refine aO ?_ ?_ | (refine aC hC (h98 _ _ (by simp)) ?_) | ((with_reducible refine And.intro ?bnd ?_); (case bnd => decide)) | fail)
 all_goals simp [go_sem, isSym, symL]
end Go.Rip
namespace Go.Rip
open Go Go.Proofs
set_option maxRecDepth 100000
variable {GL : Glob}
attribute [local irreducible] Pure
def encLx (x : Lx) : AV := .agg [.i x.kind, .i x.n, .str x.s, .i x.a, .i x.e]
theorem free_encLx : Free encLx := ⟨fun κ a => by simp only [encLx, ren, rens], fun n a => by simp only [encLx, bd, bds, and_self]⟩
theorem ren_encLx (κ : Nat -> Nat) (c : Lx) : ren κ (encLx c) = encLx c := free_encLx.1 κ c
theorem bd_encLx (n : Nat) (c : Lx) : bd n (encLx c) = True := free_encLx.2 n c
theorem uB (κ : Nat -> Nat) (l : List Lx) : rens κ (l.map encLx) = l.map encLx := free_encLx.rens κ l
theorem vV (n : Nat) (l : List Lx) : bds n (l.map encLx) = True := free_encLx.bds n l
attribute [go_sem] ren_encLx bd_encLx uB vV
def OutV (ls : List Lx) (o : AV) (h : List AObj) : Prop := (ls = [] /\ o = .v (.slice none 0 0)) ∨ ∃ a, o = .own a 5 (ls.map encLx) /\ h[a]? = some (.spare 44 5)
def ScAt (l : List UInt8) (a : Nat) (ls : List Lx) (k : Nat) (h : List AObj) : Prop := ∃ o, h[k]? = some (.cells 126 [.str l, .i a, o]) /\ OutV ls o h
def ScK (_ : Nat) (o : AObj) : Prop := (∃ c, o = .cells 126 c) ∨ o = .spare 44 5 ∨ o = .spare 5 1
def wrongV (e n : Int) : AV := .iface 123 (.agg [.i e, .i n])
theorem aP {m : Nat} {x : AV} {h : List AObj} {R : ARes -> List AObj -> Prop} (hm : m <= h.length) (hR : R (.panic x) h) : kpanic GL m R x h := ⟨x, h, Wk.refl hm, hR⟩
theorem aX {m : Nat} {x v : AV} {h : List AObj} (hm : m <= h.length) (e : x = v) : ∃ y h', Wk GL m [(0, x)] h [(0, y)] h' /\ h' = h /\ ARes.val y = ARes.val v := ⟨x, h, Wk.refl hm, rfl, by rw [e]⟩
theorem dY : Nat.blt 0 1 = true := rfl
theorem h145 (n : Int) (h : List AObj) : AC Tryz.prog GL (.fn 145) [.i n] h fun r h' => h' = h /\ r = .panic (wrongV 20 n) := by
 refine k145.call (by simp) ?_
 simp -implicitDefEqProofs only [go_sem, c145, r145]
 exact aP (Nat.le_refl _) ⟨rfl, rfl⟩
theorem h129 {l : List UInt8} {a k : Nat} {o : AV} {h : List AObj} (n : Nat) (hl : l.length < 2 ^ 40) (ha : a <= l.length) (hn : n <= 4) (hk : h[k]? = some (.cells 126 [.str l, .i a, o])) : PureOn (PC GL) 129 [.ref k 0, .i n] (.v (.int .u8 (l.getD (a + n) 0).toNat)) h := by
 refine k129.call (by simp) ?_
 have w1 : IntKind.i64.wrap ((a : Int) + n) = ((a + n : Nat) : Int) := by rw [aK _ (by omega)]; simp
 by_cases hlt : a + n < l.length
 ·have d1 : decide (((a + n : Nat) : Int) < (l.length : Int)) = true := decide_eq_true (by omega)
  simp -implicitDefEqProofs only [go_sem, c129, r129, hk, w1, d1, Int.toNat_natCast, hlt]
  exact aX (Nat.le_refl _) rfl
 ·have d1 : decide (((a + n : Nat) : Int) < (l.length : Int)) = false := decide_eq_false (by omega)
  have e0 : l.getD (a + n) 0 = 0 := by simp [List.getD, Nat.le_of_not_lt hlt]
  simp -implicitDefEqProofs only [go_sem, c129, r129, hk, w1, d1]
  exact aX (Nat.le_refl _) (by rw [e0]; rfl)
theorem fQ {p : UInt8 -> Bool} : ∀ {l : List UInt8} {j : Nat}, j <= run p l -> (∀ h : j < l.length, p l[j] = true -> j + 1 <= run p l) /\ (∀ h : j < l.length, p l[j] = false -> run p l = j) /\ (l.length <= j -> run p l = j)
 | [], j, h => ⟨fun h => by simp at h, fun h => by simp at h, fun _ => by rw [run] at h ⊢; omega⟩
 | c :: r, 0, _ => ⟨fun _ hp => by simp at hp; rw [run, if_pos hp]; omega, fun _ hp => by simp at hp; rw [run, if_neg (by simp [hp])], fun h => by simp at h⟩
 | c :: r, j + 1, h => by
  rw [run] at h ⊢
  split at h
  ·rename_i hc
   obtain ⟨h1, h2, h3⟩ := fQ (p := p) (l := r) (j := j) (by omega)
   refine ⟨fun hj hp => ?_, fun hj hp => ?_, fun hj => ?_⟩
   ·have := h1 (by simpa using hj) (by simpa using hp); rw [if_pos hc]; omega
   ·have := h2 (by simpa using hj) (by simpa using hp); rw [if_pos hc]; omega
   ·have := h3 (by simpa using hj); rw [if_pos hc]; omega
  ·omega
theorem gZ {l : List UInt8} {a j : Nat} (h : a + j < l.length) : ∃ hj : j < (l.drop a).length, (l.drop a)[j] = l[a + j] := ⟨by simp; omega, by simp⟩
theorem h131 {l : List UInt8} {k : Nat} {o1 o : AV} {h : List AObj} {f : FuncId} {p : UInt8 -> Bool} (hp : ∀ c, Pure (PC GL) f [.u c] (.b (p c))) (a : Nat) (hl : l.length < 2 ^ 40) (ha : a <= l.length) (hk : h[k]? = some (.cells 126 [.str l, o1, o])) :
  PureOn (PC GL) 131 [.ref k 0, .i a, .fn (.func f) [] []] (.i (a + run p (l.drop a) : Nat)) h := by
 refine k131.call (by simp) ?_
 simp -implicitDefEqProofs only [go_sem, c131, r131]
 refine eE hC (fun j => j <= run p (l.drop a)) (fun j => [(1, .i (a + j : Nat))]) [0, 2] l.length (by omega) ?_ ?_
 ·exact Wk.pick (Nat.le_refl _) (by simp [go_sem, Picks])
 ·intro j hj hi
  have hrl := dD p (l.drop a)
  simp only [List.length_drop] at hrl
  obtain ⟨r1, r2, r3⟩ := fQ hi
  have w1 : IntKind.i64.wrap (((a + j : Nat) : Int) + 1) = ((a + (j + 1) : Nat) : Int) := by rw [aK _ (by omega)]; omega
  by_cases hlt : a + j < l.length
  ·have d1 : decide (((a + j : Nat) : Int) < (l.length : Int)) = true := decide_eq_true (by omega)
   obtain ⟨hj', eg⟩ := gZ hlt
   have eg' : l.getD (a + j) 0 = l[a + j] := by simp [List.getD, hlt]
   simp -implicitDefEqProofs only [go_sem, hk, d1, Int.toNat_natCast, hlt, eg', List.nil_append, List.append_nil]
   refine aC hC (hp _) ?_
   rcases hpc : p l[a + j] with _ | _
   ·have := r2 hj' (by rw [eg]; exact hpc)
    simp -implicitDefEqProofs only [go_sem]
    exact aX (Nat.le_refl _) (by rw [this])
   ·have := r1 hj' (by rw [eg]; exact hpc)
    simp -implicitDefEqProofs only [go_sem, w1]
    exact ⟨by omega, by omega, Wk.pick (Nat.le_refl _) (by simp [go_sem, Picks])⟩
  ·have d1 : decide (((a + j : Nat) : Int) < (l.length : Int)) = false := decide_eq_false (by omega)
   have := r3 (by simp; omega)
   simp -implicitDefEqProofs only [go_sem, hk, d1]
   exact aX (Nat.le_refl _) (by rw [this])
theorem h144 {l : List UInt8} {a k : Nat} {ls : List Lx} {h : List AObj} (kind n : Int) (t : List UInt8) (e : Nat) (hls : ls.length < 2 ^ 30) (hs : ScAt l a ls k h) :
  Gives (PC GL) 144 [.ref k 0, .i kind, .i n, .str t, .i e] h fun x h' => x = .tup [] /\ Keep ScK h h' /\ ScAt l e (ls ++ [⟨kind, n, t, a, e⟩]) k h' := by
 obtain ⟨o, hk, ho⟩ := hs
 refine k144.gives (by simp) ?_
 have hlt := aL hk
 have hk_g := fun l => aF (l := l) hk
 have hk_s := fun o l => aG (l := l) hk o
 have hk_e := fun o l => aD (o := o) (l := l) hk
 have hk_h := fun o => aH (o := o) hk
 have s1 : ∀ X Y l', (h.set k X ++ l').set k Y = h.set k Y ++ l' := fun X Y l' => by rw [cH (by simpa using hlt), List.set_set]
 rcases ho with ⟨rfl, rfl⟩ | ⟨b, rfl, hb⟩
 ·simp -implicitDefEqProofs only [go_sem, c144, r144, List.append_assoc, hk, hk_g, hk_s, hk_e, List.length_singleton, s1]
  refine ⟨by simp, ?_⟩
  exact aT (by simp) ⟨rfl, (Keep.set _ hk (.inl ⟨_, rfl⟩)).trans (Keep.app _ _ _), _, by rw [bY (by simpa using hlt), List.getElem?_set_self hlt]; rfl, .inr ⟨h.length + 1, rfl, by rw [aZ (by simp)]; simp⟩⟩
 ·have hkb : b ≠ k := aU hb hk (by simp)
  have g2 : ∀ X l', (h.set b X ++ l')[k]? = some (.cells 126 [.str l, .i a, .own b 5 (ls.map encLx)]) := fun X l' => by rw [bY (by simpa using hlt), aE hkb]; exact hk
  have s2 : ∀ X Y l', (h.set b X ++ l').set k Y = (h.set b X).set k Y ++ l' := fun X Y l' => cH (by simpa using hlt)
  have s3 : ∀ X Y Z l', ((h.set b X).set k Y ++ l').set k Z = (h.set b X).set k Z ++ l' := fun X Y Z l' => by rw [cH (by simpa using hlt), List.set_set]
  have g3 : ∀ X Y l', ((h.set b X).set k Y ++ l')[k]? = some Y := fun X Y l' => by rw [bY (by simpa using hlt), List.getElem?_set_self (by simpa using hlt)]
  have hb_g := fun l => aF (l := l) hb
  have hb_s := fun o l => aG (l := l) hb o
  have hb_e := fun o l => aD (o := o) (l := l) hb
  have hb_h := fun o => aH (o := o) hb
  simp -implicitDefEqProofs only [go_sem, c144, r144, List.append_assoc, hk, hk_g, hb_g, hb_s, List.length_singleton, g2, s2, s3, g3, dY]
  refine ⟨by omega, ?_⟩
  exact aT (by simp) ⟨rfl, ((Keep.set _ hb (.inr (.inl rfl))).trans (Keep.set _ (by rw [aE hkb]; exact hk) (.inl ⟨_, rfl⟩))).trans (Keep.app _ _ _), _, g3 _ _ _, .inr ⟨h.length + 1, by simp [encLx], by rw [aZ (by simp)]; simp⟩⟩
end Go.Rip
namespace Go.Rip
open Go Go.Proofs
set_option maxRecDepth 100000
theorem Wf.below {GL : Glob} {E : Env} {A : Nat -> Nat -> Prop} {G : Gd} {h : List AObj} {w w' : World} (hW : Wf GL E A G h w) (hb : RowKit.Below w.heap.size w w') : Wf GL E A G h w' /\ Ext A G w A G w' := by
 have hX : Ext A G w A G w' := ⟨fun _ _ h => h, fun _ h => h, fun b o ha => World.cell?_of_block (a := ⟨b, o, none⟩) (hb.block b (hW.a_lt ha)), fun b hg => hb.block b (hW.g b hg), hb.size, hb.os, hb.output, hb.tape, fun _ => Iff.rfl,
  fun b hh => ⟨hb.block b (hW.hf b hh), fun _ h => h, id⟩⟩
 refine ⟨hW.step E.le_refl hX hW.n (fun b o ha => ?_) (fun b hg => Nat.lt_of_lt_of_le (hW.g b hg) hb.size) (fun _ => False) (fun k x hx _ => ⟨hx, fun b hbk => ⟨hb.block b (cJ (hW.o k x hx) hbk), fun _ h => h, id⟩⟩) (fun _ _ _ h => h.elim) (fun _ _ _ _ _ _ _ h => h.elim) (fun _ _ _ _ h => h.elim), hX⟩
 obtain ⟨v, hv⟩ := hW.a b o ha
 exact ⟨v, (hX.cell b o ha).trans hv⟩
theorem gW {P : Program} {GL : Glob} {f : FuncId} {args : List AV} {vs : List Value} {h : List AObj} {R : ARes -> List AObj -> Prop} (hen : ∀ args w, (callFunc f args).run P w = .ok (.enter f args) w) (hv : ∀ E A G w us, Reps E A G w args us -> us = vs)
  (hc : ∀ E A G w, Wf GL E A G h w -> Calls P f vs.toArray w fun e w' => RowKit.Below w.heap.size w w' /\ ∃ u r, e = .returned u /\ (∀ E' A' G', Rep E' A' G' w' r u) /\ R (.val r) h) : ACall P GL f args h R := by
 intro E A G w us hW ha
 obtain rfl := hv _ _ _ _ _ ha
 refine .inl ⟨hen _ w, (hc E A G w hW).mono ?_⟩
 rintro e w' ⟨hb, u, r, rfl, hr, hR⟩
 obtain ⟨hW', hX⟩ := hW.below hb
 exact ⟨E, A, G, .val r, h, hW', hX, E.le_refl, hr _ _ _, hR⟩
structure GLok (GL : Glob) : Prop where
 m : ∃ m, (0, [.v (.int .i64 m)]) ∈ GL
 p : (1, Go.Lib.pow10Tab.map fun z => .v (.int .u64 z)) ∈ GL
 s : ∃ t, (2, [.iface t .any]) ∈ GL
 r : ∃ t, (3, [.iface t .any]) ∈ GL
variable {GL : Glob}
theorem h182 (hG : GLok GL) (l s : List UInt8) (hl : l.length < 4294967281) : Pure (PC GL) 182 [.str l, .str s] (.i (Go.Lib.index l s)) := by
 intro h
 obtain ⟨m, hm⟩ := hG.m
 refine gW (vs := [.string ⟨l.toArray⟩, .string ⟨s.toArray⟩]) (enters_of Tryz.func182 (by kernel_rfl) rfl) (fun E A G w us h => ?_) fun E A G w hW => ?_
 ·simp only [Reps, Rep] at h
  obtain ⟨_, _, rfl, rfl, _, _, rfl, rfl, rfl⟩ := h
  rfl
 ·have h0 := (hW.gl 0 _ hm).1 E
  simp only [RepC, Rep] at h0
  obtain ⟨⟨u, hu, _, _, rfl⟩, _⟩ := h0
  refine (Any.strings_Index layIndex ⟨l.toArray⟩ ⟨s.toArray⟩ m w (by show l.toArray.size < _; simpa using hl) hu).mono ?_
  rintro e w' ⟨rfl, rfl⟩
  exact ⟨RowKit.Below.refl _ _, _, _, rfl, fun _ _ _ => by simp [Rep], rfl, rfl⟩
def dec10 (acc : Nat) (l : List UInt8) : Nat := l.foldl (fun n c => 10 * n + (c.toNat - 48)) acc
theorem sI : ∀ (l : List UInt8) (acc : Nat), acc <= dec10 acc l
 | [], _ => Nat.le_refl _
 | c :: r, acc => Nat.le_trans (by omega) (sI r (10 * acc + (c.toNat - 48)))
theorem pX : ∀ (l : List UInt8) (acc : Nat), l.all isDigit = true -> acc < 18446744073709551616 -> Go.Lib.parseUint10 acc l = if dec10 acc l < 18446744073709551616 then .ok (dec10 acc l) else .range
 | [], acc, _, ha => by simp [Go.Lib.parseUint10, dec10, ha]
 | c :: r, acc, hd, ha => by
  simp only [List.all_cons, Bool.and_eq_true, isDigit, decide_eq_true_eq] at hd
  have h1 : 48 <= c.toNat /\ c.toNat <= 57 := by omega
  have hs : dec10 acc (c :: r) = dec10 (10 * acc + (c.toNat - 48)) r := rfl
  have hge := sI r (10 * acc + (c.toNat - 48))
  have e : acc * 10 + (c.toNat - 48) = 10 * acc + (c.toNat - 48) := by omega
  rw [Go.Lib.parseUint10, if_pos h1, hs, e]
  by_cases h2 : 1844674407370955162 <= acc
  ·rw [if_pos h2, if_neg (by omega)]
  ·rw [if_neg h2]
   by_cases h3 : 18446744073709551616 <= 10 * acc + (c.toNat - 48)
   ·rw [if_pos h3, if_neg (by omega)]
   ·rw [if_neg h3]
    exact pX r _ hd.2 (by omega)
theorem atoi_dec {l : List UInt8} (h0 : l ≠ []) (hd : l.all isDigit = true) : Go.Lib.atoiAll l = if decVal l <= 9223372036854775807 then .ok (decVal l : Int) else .range := by
 have hp : Go.Lib.parseMag l = if decVal l < 18446744073709551616 then .ok (decVal l) else .range := by rw [Go.Lib.parseMag, if_neg h0, pX l 0 hd (by omega)]; rfl
 cases l with
 | nil => exact absurd rfl h0
 | cons c r =>
  have hc := List.all_eq_true.1 hd c (by simp)
  simp only [isDigit, Bool.and_eq_true, decide_eq_true_eq] at hc
  have n1 : ¬ (c.toNat = 43 ∨ c.toNat = 45) := by omega
  have n2 : ¬ c.toNat = 45 := by omega
  simp only [Go.Lib.atoiAll, if_neg n1, hp]
  by_cases h1 : decVal (c :: r) < 18446744073709551616
  ·simp only [if_pos h1, n2, not_false_eq_true, true_and, false_and, if_false]
   by_cases h2 : decVal (c :: r) <= 9223372036854775807
   ·rw [if_neg (by omega), if_pos h2]
   ·rw [if_pos (by omega), if_neg h2]
  ·simp only [if_neg h1]
   rw [if_neg (by omega)]
theorem h183 (hG : GLok GL) (l : List UInt8) (h0 : l ≠ []) (hd : l.all isDigit = true) (hl : l.length < 2 ^ 40) (h : List AObj) :
  AC Tryz.prog GL (.fn 183) [.str l] h fun r h' => h' = h /\ ((decVal l <= 9223372036854775807 /\ r = .val (.tup [.i (decVal l), .v .nilIface])) ∨ (9223372036854775807 < decVal l /\ ∃ n t, r = .val (.tup [.i n, .iface t .any]))) := by
 have ha := atoi_dec h0 hd
 have hsz : (ByteArray.mk l.toArray).size = l.length := by show l.toArray.size = _; simp
 obtain ⟨t, ht⟩ := hG.r
 refine gW (vs := [.string ⟨l.toArray⟩]) (enters_of Tryz.func183 (by kernel_rfl) rfl) (fun E A G w us h => ?_) fun E A G w hW => ?_
 ·simp only [Reps, Rep] at h
  obtain ⟨_, _, rfl, rfl, rfl⟩ := h
  rfl
 by_cases hb : decVal l <= 9223372036854775807
 ·rw [if_pos hb] at ha
  refine (Any.strconv_Atoi_ok layAtoi ⟨l.toArray⟩ (by rw [hsz]; omega) (decVal l) ha w).mono ?_
  rintro e w' ⟨rfl, hw⟩
  have hB : RowKit.Below w.heap.size w w' := by
   rcases hw with rfl | ⟨t, rfl⟩
   ·exact RowKit.Below.refl _ _
   ·exact Go.Lib.bytesWorld_below w _ _
  refine ⟨hB, _, .tup [.i (decVal l), .v .nilIface], rfl, fun _ _ _ => ?_, rfl, .inl ⟨hb, rfl⟩⟩
  simp only [Rep]
  exact ⟨_, rfl, by simp [Reps, Rep]⟩
 ·rw [if_neg hb] at ha
  have h3 := (hW.gl 3 _ ht).1 E
  simp only [RepC, Rep] at h3
  obtain ⟨⟨u, hu, _, _, u', rfl, _⟩, _⟩ := h3
  refine (Any.strconv_Atoi_range layAtoi ⟨l.toArray⟩ (by rw [hsz]; omega) ha _ w hu (.inr ⟨_, _, rfl⟩)).mono ?_
  rintro e w' ⟨N, rfl, _, _, hB⟩
  refine ⟨hB, _, .tup [.i (Go.Lib.atoiSat l), .iface (layAtoi_ren.t 168) .any], rfl, fun _ _ _ => ?_, rfl, .inr ⟨by omega, _, _, rfl⟩⟩
  simp only [Rep]
  refine ⟨_, rfl, ?_⟩
  simp only [Reps, Rep]
  exact ⟨_, _, rfl, rfl, _, _, rfl, ⟨_, rfl, trivial⟩, rfl⟩
theorem h107 (hG : GLok GL) (n : Int) (h1 : -9223372036854775808 <= n) (h2 : n <= 9223372036854775807) : Pure (PC GL) 107 [.i n] (.str (Go.Lib.itoa n)) := by
 intro h
 refine gW (vs := [.int .i64 n]) (enters_of Tryz.func107 (by kernel_rfl) rfl) (fun E A G w us h => ?_) fun E A G w hW => ?_
 ·simp only [Reps, Rep] at h
  obtain ⟨_, _, rfl, rfl, rfl⟩ := h
  rfl
 ·obtain ⟨g1, g2, cs, T, fz, g3, g4⟩ := hW.gl 1 _ hG.p
  have hcs : cs = (Go.Lib.pow10Tab.map fun z => Value.int .u64 z).toArray := by
   apply Array.ext
   ·simpa using g4
   ·intro i hi hj
    have hi' : i < (Go.Lib.pow10Tab.map fun z => AV.v (.int .u64 z)).length := by rw [<- g4]; exact hi
    obtain ⟨u, hu, _, _, hr⟩ := (g1 E).get (List.getElem?_eq_getElem hi')
    simp only [List.getElem_map, Rep] at hr
    rw [World.cell?] at hu
    simp only [g3, Nat.zero_add] at hu
    rw [Array.getElem?_eq_getElem hi] at hu
    have hu := Option.some.inj (by simpa using hu)
    rw [hu, hr]
    simp
  have htab : Go.Lib.TabIs Tryz.prog w "internal/strconv.uint64pow10" .u64 Go.Lib.pow10Tab := by
   have hgn : Tryz.prog.globalNamed "internal/strconv.uint64pow10" = some 1 := by kernel_rfl
   rw [Go.Lib.TabIs, <- hcs, World.var?, hgn]
   simp [g3]
  refine (Any.strconv_Itoa layItoa n h1 h2 w htab).mono ?_
  rintro e w' ⟨rfl, k, os, rfl⟩
  refine ⟨⟨rfl, rfl, rfl, ?_, ?_⟩, _, _, rfl, fun _ _ _ => by simp [Rep], rfl, rfl⟩
  ·simp [Go.Sort.grow, World.drewN]
  ·intro k' hk'
   simp [Go.Sort.grow, World.drewN, Array.getElem?_append_left hk']
end Go.Rip
