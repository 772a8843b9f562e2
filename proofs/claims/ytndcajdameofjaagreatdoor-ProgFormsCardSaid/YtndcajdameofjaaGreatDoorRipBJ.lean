/- Procedures by name and arity: plain. -/
import Derived.Test.YtndcajdameofjaaGreatDoorRipBI
import Derived.Test.YtndcajdameofjaaGreatDoorRipBG
import Derived.Test.YtndcajdameofjaaGreatDoorRipBE
namespace Go.Rip
open Go
set_option maxRecDepth 100000
theorem qN : ∀ a : List UInt8, Op.bytesLess a a = false
 | [] => rfl
 | c :: r => by simp [Op.bytesLess, qN r, UInt8.lt_irrefl]
theorem qY (a b : UInt8) (x y : List UInt8) : Op.bytesLess (a :: x) (b :: y) = true ↔ a < b ∨ (a = b /\ Op.bytesLess x y = true) := by
 simp [Op.bytesLess]
theorem sW : ∀ {a b c : List UInt8}, Op.bytesLess a b = true -> Op.bytesLess b c = true -> Op.bytesLess a c = true
 | _, [], _, h, _ => by simp [Op.bytesLess] at h
 | _, _ :: _, [], _, h => by simp [Op.bytesLess] at h
 | [], _ :: _, _ :: _, _, _ => rfl
 | a :: x, b :: y, c :: z, h, k => by
  rw [qY] at *
  rcases h with h | ⟨rfl, h⟩ <;> rcases k with k | ⟨rfl, k⟩
  ·exact .inl (UInt8.lt_trans h k)
  ·exact .inl h
  ·exact .inl k
  ·exact .inr ⟨rfl, sW h k⟩
theorem bl_tri : ∀ {a b : List UInt8}, Op.bytesLess a b = false -> Op.bytesLess b a = false -> a = b
 | [], [], _, _ => rfl
 | [], _ :: _, h, _ => by simp [Op.bytesLess] at h
 | _ :: _, [], _, h => by simp [Op.bytesLess] at h
 | a :: x, b :: y, h, k => by
  have h1 : ¬ Op.bytesLess (a :: x) (b :: y) = true := by rw [h]; simp
  have k1 : ¬ Op.bytesLess (b :: y) (a :: x) = true := by rw [k]; simp
  rw [qY, not_or] at h1 k1
  have e : a = b := by
   have := h1.1; have := k1.1
   rw [UInt8.lt_iff_toNat_lt] at *
   exact UInt8.toNat_inj.1 (by omega)
  subst e
  have h2 : Op.bytesLess x y = false := by rw [Bool.eq_false_iff]; exact fun h => h1.2 ⟨rfl, h⟩
  have k2 : Op.bytesLess y x = false := by rw [Bool.eq_false_iff]; exact fun h => k1.2 ⟨rfl, h⟩
  rw [bl_tri h2 k2]
def ltPr (a b : Pr) : Bool := Op.bytesLess a.name b.name || (a.name == b.name && decide (a.arity < b.arity))
theorem lE (a b : Pr) : ltPr a b = true ↔ Op.bytesLess a.name b.name = true ∨ (a.name = b.name /\ a.arity < b.arity) := by simp [ltPr]
theorem lt_irrefl (a : Pr) : ltPr a a = false := by simp [ltPr, qN]
theorem lt_trans {a b c : Pr} (h : ltPr a b = true) (k : ltPr b c = true) : ltPr a c = true := by
 rw [lE] at *
 rcases h with h | ⟨h, h'⟩ <;> rcases k with k | ⟨k, k'⟩
 ·exact .inl (sW h k)
 ·exact .inl (k ▸ h)
 ·exact .inl (h ▸ k)
 ·exact .inr ⟨h.trans k, by omega⟩
theorem lt_asymm {a b : Pr} (h : ltPr a b = true) : ltPr b a = false := by
 rw [Bool.eq_false_iff]
 intro k
 have := lt_trans h k
 rw [lt_irrefl] at this
 cases this
theorem lt_tri {a b : Pr} (h : ltPr a b = false) (k : ltPr b a = false) : a.sym = b.sym := by
 have h1 : ¬ ltPr a b = true := by rw [h]; simp
 have k1 : ¬ ltPr b a = true := by rw [k]; simp
 rw [lE, not_or] at h1 k1
 have e : a.name = b.name := bl_tri (by rw [Bool.eq_false_iff]; exact h1.1) (by rw [Bool.eq_false_iff]; exact k1.1)
 have h2 : ¬ a.arity < b.arity := fun h => h1.2 ⟨e, h⟩
 have k2 : ¬ b.arity < a.arity := fun h => k1.2 ⟨e.symm, h⟩
 have e2 : a.arity = b.arity := by omega
 simp only [Pr.sym, e, e2]
def insPr (q : Pr) : List Pr -> List Pr
 | [] => [q]
 | x :: r => if ltPr q x then q :: x :: r else x :: insPr q r
def sortPr (l : List Pr) : List Pr := l.foldl (fun acc q => insPr q acc) []
theorem gV (q : Pr) : ∀ l, (insPr q l).Perm (q :: l)
 | [] => List.Perm.refl _
 | x :: r => by
  rw [insPr]
  split
  ·exact List.Perm.refl _
  ·exact ((gV q r).cons x).trans (List.Perm.swap q x r)
theorem cL (l : List Pr) : (sortPr l).Perm l := by
 have : ∀ (l acc : List Pr), (l.foldl (fun acc q => insPr q acc) acc).Perm (acc ++ l) := by
  intro l
  induction l with
  | nil => intro acc; simp
  | cons x r ih =>
   intro acc
   refine (ih (insPr x acc)).trans ?_
   have h1 := (gV x acc).append_right r
   have h2 : (x :: acc ++ r).Perm (acc ++ x :: r) := by
    rw [List.cons_append]
    exact (List.perm_middle).symm
   exact h1.trans h2
 have h := this l []
 rw [List.nil_append] at h
 exact h
abbrev SortedP (l : List Pr) : Prop := l.Pairwise fun a b => ltPr a b = true
theorem kR {q : Pr} : ∀ {l : List Pr}, SortedP l -> (∀ x ∈ l, x.sym ≠ q.sym) -> SortedP (insPr q l)
 | [], _, _ => by simp [insPr]
 | x :: r, h, hn => by
  obtain ⟨h1, h2⟩ := List.pairwise_cons.1 h
  rw [insPr]
  split
  ·rename_i hq
   refine List.pairwise_cons.2 ⟨fun y hy => ?_, h⟩
   rcases List.mem_cons.1 hy with e | hy
   ·rw [e]; exact hq
   ·exact lt_trans hq (h1 y hy)
  ·rename_i hq
   have hxq : ltPr x q = true := by
    rcases h3 : ltPr x q with _ | _
    ·exact absurd (lt_tri h3 (by simpa using hq)) (hn x (by simp))
    ·rfl
   refine List.pairwise_cons.2 ⟨fun y hy => ?_, kR h2 fun y hy => hn y (by simp [hy])⟩
   rcases List.mem_cons.1 ((gV q r).mem_iff.1 hy) with e | hy
   ·rw [e]; exact hxq
   ·exact h1 y hy
theorem jO {l : List Pr} (hn : (l.map Pr.sym).Nodup) : SortedP (sortPr l) := by
 have : ∀ (l acc : List Pr), ((acc ++ l).map Pr.sym).Nodup -> SortedP acc -> SortedP (l.foldl (fun acc q => insPr q acc) acc) := by
  intro l
  induction l with
  | nil => intro acc _ h; exact h
  | cons x r ih =>
   intro acc hn hs
   have hp : (insPr x acc ++ r).Perm (acc ++ x :: r) := by
    refine ((gV x acc).append_right r).trans ?_
    rw [List.cons_append]
    exact (List.perm_middle).symm
   refine ih (insPr x acc) ((hp.map Pr.sym).nodup_iff.2 hn) (kR hs fun y hy e => ?_)
   rw [List.map_append, List.map_cons, List.nodup_append] at hn
   exact hn.2.2 y.sym (List.mem_map.2 ⟨y, hy, rfl⟩) x.sym (by simp) e
 exact this l [] (by simpa using hn) List.Pairwise.nil
def rkQ (S : List Pr) (x : Int) : Pr := if x < 0 then ⟨[], x, []⟩ else if x < S.length then S.getD x.toNat default else ⟨[255], x, []⟩
theorem rkQ_up {S : List Pr} (hs : SortedP S) (hn : ∀ q ∈ S, nameOk q.name = true) {x y : Int} (h : x < y) : ltPr (rkQ S x) (rkQ S y) = true := by
 have mem : ∀ {z : Int}, 0 <= z -> z < S.length -> ∃ h : z.toNat < S.length, rkQ S z = S[z.toNat] := fun {z} h1 h2 => by
  have h3 : z.toNat < S.length := by omega
  exact ⟨h3, by rw [rkQ, if_neg (by omega), if_pos h2]; simp [List.getD, h3]⟩
 have neg : ∀ {z : Int}, z < 0 -> rkQ S z = ⟨[], z, []⟩ := fun {z} h => by rw [rkQ, if_pos h]
 have big : ∀ {z : Int}, (S.length : Int) <= z -> rkQ S z = ⟨[255], z, []⟩ := fun {z} h => by rw [rkQ, if_neg (by omega), if_neg (by omega)]
 have nm : ∀ {i : Nat} (hi : i < S.length), ∃ c r, S[i].name = c :: r /\ c.toNat <= 126 := fun {i} hi => by
  have := hn _ (List.getElem_mem hi)
  simp only [nameOk, Bool.and_eq_true, decide_eq_true_eq] at this
  cases hnm : S[i].name with
  | nil => rw [hnm] at this; simp at this
  | cons c r =>
   rw [hnm] at this
   refine ⟨c, r, rfl, ?_⟩
   have := this.2.2
   simp only [List.all_cons, Bool.and_eq_true, byteOk, decide_eq_true_eq] at this
   exact this.1.2
 rw [lE]
 by_cases x0 : x < 0
 ·rw [neg x0]
  by_cases y0 : y < 0
  ·rw [neg y0]; exact .inr ⟨rfl, h⟩
  by_cases yn : y < S.length
  ·obtain ⟨h3, e⟩ := mem (by omega) yn
   obtain ⟨c, r, e2, -⟩ := nm h3
   rw [e, e2]; exact .inl rfl
  ·rw [big (by omega)]; exact .inl rfl
 by_cases xn : x < S.length
 ·obtain ⟨h3, e⟩ := mem (by omega) xn
  rw [e]
  by_cases yn : y < S.length
  ·obtain ⟨h4, e'⟩ := mem (by omega) yn
   rw [e', <- lE]
   exact List.pairwise_iff_getElem.1 hs _ _ h3 h4 (by omega)
  ·rw [big (by omega)]
   obtain ⟨c, r, e2, h5⟩ := nm h3
   rw [e2]
   left
   rw [qY]
   left
   rw [UInt8.lt_iff_toNat_lt]
   show c.toNat < 255
   omega
 ·rw [big (by omega), big (by omega)]
  exact .inr ⟨rfl, h⟩
theorem rkQ_lt {S : List Pr} (hs : SortedP S) (hn : ∀ q ∈ S, nameOk q.name = true) (x y : Int) : ltPr (rkQ S x) (rkQ S y) = decide (x < y) := by
 by_cases h : x < y
 ·rw [rkQ_up hs hn h, decide_eq_true h]
 ·rw [decide_eq_false h]
  by_cases e : x = y
  ·rw [e, lt_irrefl]
  ·exact lt_asymm (rkQ_up hs hn (by omega))
theorem pL {α β : Type} {f : α -> β} {l m' : List β} (h : m'.Perm l) : ∀ {m : List α}, m' = m.map f -> ∃ n : List α, n.Perm m /\ n.map f = l := by
  induction h with
  | nil => intro m e; cases m with
    | nil => exact ⟨[], List.Perm.refl _, rfl⟩
    | cons a r => cases e
  | cons x _ ih => intro m e; cases m with
    | nil => cases e
    | cons a r =>
      simp only [List.map_cons, List.cons.injEq] at e
      obtain ⟨n, h1, h2⟩ := ih e.2
      exact ⟨a :: n, h1.cons a, by rw [List.map_cons, h2, e.1]⟩
  | swap x y l => intro m e; match m, e with
    | a :: b :: r, e =>
      simp only [List.map_cons, List.cons.injEq] at e
      exact ⟨b :: a :: r, List.Perm.swap a b r, by simp [e.1, e.2.1, e.2.2]⟩
  | trans _ _ ih1 ih2 => intro m e
                         obtain ⟨n, h1, h2⟩ := ih1 e
                         obtain ⟨k, h3, h4⟩ := ih2 h2.symm
                         exact ⟨k, h3.trans h1, h4⟩
def ints (n : Nat) : List Int := (List.range n).map fun i : Nat => (i : Int)
theorem uE (n : Nat) : (ints n).length = n := by simp [ints]
theorem nO (S : List Pr) : (ints S.length).map (rkQ S) = S := by
 apply List.ext_getElem (by simp [ints])
 intro i h1 h2
 simp only [ints, List.getElem_map, List.getElem_range]
 rw [rkQ, if_neg (by omega), if_pos (by omega)]
 simp [List.getD, h2]
theorem uX (n : Nat) : (ints n).Pairwise (· <= ·) := by
 rw [ints, List.pairwise_map]
 exact List.pairwise_lt_range.imp fun h => by omega
theorem vS (n : Nat) : (ints n).Nodup := by
 rw [ints, List.nodup_iff_pairwise_ne, List.pairwise_map]
 exact List.pairwise_lt_range.imp fun h => by omega
theorem sY {l : List Int} {n : Nat} (hp : l.Perm (ints n)) (hs : Srt 0 l.length l) : l = ints n := by
 refine List.Perm.eq_of_pairwise (le := fun x y : Int => x <= y) (fun x y _ _ h1 h2 => by omega) ?_ (uX n) hp
 rw [List.pairwise_iff_getElem]
 intro i j hi hj hij
 have := hs i j (Nat.zero_le _) hij hj
 simpa [List.getD, hi, hj] using this
theorem ranks {l : List Pr} (_hn : (l.map Pr.sym).Nodup) : ∃ l0 : List Int, l0.Perm (ints l.length) /\ l0.map (rkQ (sortPr l)) = l := by
 have hl : (sortPr l).length = l.length := (cL l).length_eq
 have := pL (f := rkQ (sortPr l)) (cL l) (m := ints (sortPr l).length) (nO _).symm
 rwa [hl] at this
def Pg.sorted (p : Pg) : Pg := if p.ok then ⟨sortPr p.procs⟩ else ⟨[]⟩
theorem ok_fine {p : Pg} (hok : p.ok = true) : (p.procs.map Pr.sym).Nodup /\ ∀ q ∈ p.procs, nameOk q.name = true := by
 simp only [Pg.ok, Pg.tabled, Bool.and_eq_true] at hok
 obtain ⟨h1, _, h3⟩ := (mB _ _).1 hok.1.2
 refine ⟨h1, fun q hq => ?_⟩
 have := h3 q hq
 simp only [Pr.fine, Bool.and_eq_true] at this
 exact this.1
theorem rR {p : Pg} (hp : p.small) : p.sorted.small := by
 unfold Pg.sorted
 split
 ·exact ⟨by rw [(cL p.procs).length_eq]; exact hp.l, fun q hq => hp.q q ((cL p.procs).mem_iff.1 hq)⟩
 ·exact ⟨by simp, fun q hq => by simp at hq⟩
end Go.Rip
namespace Go.Rip
open Go
set_option maxRecDepth 100000
variable {GL : Glob}
theorem h263 {Q : Int -> Pr} {cf : FuncId} {cc : Int -> Int -> Int} (cQ : Cmp GL Q cf cc) (l0 : List Int) (a b : Nat) (hb : b <= l0.length) (hl : l0.length < 2 ^ 40) (k : Nat) (h : List AObj) (hk : h[k]? = some (.buf 60 3 (l0.map (encQ Q)))) (ha : a < 2 ^ 40) :
  Gives (PC GL) 263 [.vec k 3 l0.length, .i a, .i b, .fn (.func cf) [] []] h fun _ h' => ∃ l', SegP a b l0 l' /\ Srt a b l' /\ h'[k]? = some (.buf 60 3 (l'.map (encQ Q))) /\ Keep (fun i _ => i = k) h h' := by
 have w1 : IntKind.i64.wrap ((a : Int) + 1) = ((a + 1 : Nat) : Int) := by rw [aF _ (by omega)]; simp
 refine k263.gives (by simp) ?_
 simp -implicitDefEqProofs only [go_sem, c263, r263, w1]
 refine aZ hC (fun t (_ : List Int) => [(8, .i ((a + 1 + t : Nat) : Int)), (0, .vec k 3 l0.length), (1, .i a), (2, .i b), (3, .fn (.func cf) [] [])]) (fun t l h' => SegP a b l0 l /\ h'[k]? = some (.buf 60 3 (l.map (encQ Q))) /\ Keep (fun i _ => i = k) h h' /\ Srt a (a + 1 + t) l) (b - (a + 1)) ⟨l0, h, Wk.pick (Nat.le_refl _) (by simp [go_sem]), SegP.refl _ _ _, hk, Keep.refl _ _, fun p q _ _ _ => by omega⟩ fun t l h1 ht ⟨g1, g2, g3, g4⟩ => ?_
 simp -implicitDefEqProofs only [go_sem]
 refine aG (fun hlt => ?_) (fun hlt => ?_)
 ·have hlt : a + 1 + t < b := by have := of_decide_eq_true hlt; omega
  simp -implicitDefEqProofs only [go_sem]
  refine aZ hC (fun u (_ : List Int) => [(9, .i ((a + 1 + t - u : Nat) : Int)), (8, .i ((a + 1 + t : Nat) : Int)), (0, .vec k 3 l0.length), (1, .i a), (2, .i b), (3, .fn (.func cf) [] [])]) (fun u l h' => SegP a b l0 l /\ h'[k]? = some (.buf 60 3 (l.map (encQ Q))) /\ Keep (fun i _ => i = k) h h' /\ SrtBut a (a + 1 + t + 1) (a + 1 + t - u) l) (1 + t) ⟨l, h1, Wk.pick g3.1 (by simp [go_sem]), g1, g2, g3, g4.next⟩ fun u l h2 hu ⟨g1, g2, g3, g4⟩ => ?_
  simp -implicitDefEqProofs only [go_sem]
  have hlen : l0.length = l.length := g1.1.symm
  have hjb : a + 1 + t - u < l.length := by omega
  have hju : a + 1 + t - (u + 1) = a + 1 + t - u - 1 := by omega
  have hji : a + 1 + t - u < a + 1 + t + 1 := by omega
  have w3 : IntKind.i64.wrap (((a + 1 + t : Nat) : Int) + 1) = ((a + 1 + (t + 1) : Nat) : Int) := by rw [aF _ (by omega)]; omega
  rw [hju]
  by_cases hja : a < a + 1 + t - u
  ·have hu1 : u < 1 + t := by omega
   generalize a + 1 + t - u = j at *
   have d : decide ((j : Int) > (a : Int)) = true := decide_eq_true (by omega)
   have w2 : IntKind.i64.wrap ((j : Int) - 1) = ((j - 1 : Nat) : Int) := by rw [aF _ (by omega)]; omega
   have hj1 : j - 1 < l.length := by omega
   have e1 := aO (Q := Q) hjb
   have e2 := aO (Q := Q) hj1
   simp -implicitDefEqProofs only [go_sem, d, w2, g2, hlen, bnd hjb, bnd hj1, e1, e2, List.length_map, aY, Int.toNat_natCast, true_and, aT]
   refine aC hC (cQ.p _ _) ?_
   simp -implicitDefEqProofs only [go_sem, cQ.d]
   refine aG (fun hc => ?_) (fun hc => ?_)
   ·simp -implicitDefEqProofs only [go_sem, w2, g2, bnd hjb, bnd hj1, e1, e2, aL g2, bR (Q := Q) hj1, List.length_map, List.length_set, aY, Int.toNat_natCast, true_and, aT, bJ, List.set_set, bO]
    exact ⟨hu1, swp l j (j - 1), _, Wk.pick (by simpa using g3.1) (by simp [go_sem]), g1.trans (SegP.swp (by omega) (by omega) (by omega)), aL g2, g3.trans (Keep.set _ g2 rfl), g4.swp hja hji (by omega) (of_decide_eq_true hc)⟩
   ·simp -implicitDefEqProofs only [go_sem, w3]
    exact ⟨by omega, l, h2, Wk.pick g3.1 (by simp [go_sem]), g1, g2, g3, g4.all fun _ => of_decide_eq_false hc⟩
  ·generalize a + 1 + t - u = j at *
   have d : decide ((j : Int) > (a : Int)) = false := decide_eq_false (by omega)
   simp -implicitDefEqProofs only [go_sem, d, w3]
   exact ⟨by omega, l, h2, Wk.pick g3.1 (by simp [go_sem]), g1, g2, g3, g4.all fun h => absurd h hja⟩
 ·have hlt : ¬ (a + 1 + t < b) := fun hh => by have := of_decide_eq_false hlt; omega
  simp -implicitDefEqProofs only [go_sem]
  exact aS g3.1 ⟨l, g1, fun p q hp hpq hq => g4 p q hp hpq (by omega), g2, g3⟩
theorem h320 {Q : Int -> Pr} {cf : FuncId} {cc : Int -> Int -> Int} (cQ : Cmp GL Q cf cc) (l : List Int) (i j : Nat) (hi : i < l.length) (hj : j < l.length) (k c : Nat) (T : TypeId) (s : Int) (h : List AObj) (hk : h[k]? = some (.buf 60 3 (l.map (encQ Q)))) (hc : h[c]? = some (.cells T [.v (.int .i64 s)])) :
  Gives (PC GL) 320 [.vec k 3 l.length, .i i, .i j, .ref c 0, .fn (.func cf) [] []] h fun x h' => ∃ i' j' : Nat, x = .tup [.i i', .i j'] /\ ((i' = i /\ j' = j) ∨ (i' = j /\ j' = i)) /\ (∃ s', h'[c]? = some (.cells T [.v (.int .i64 s')])) /\ Keep (fun i _ => i = c) h h' := by
 refine k320.gives (by simp) ?_
 have e1 := aO (Q := Q) hi
 have e2 := aO (Q := Q) hj
 simp -implicitDefEqProofs only [go_sem, c320, r320, hk, bnd hi, bnd hj, e1, e2, List.length_map, aY, Int.toNat_natCast, true_and, aT]
 refine aC hC (cQ.p _ _) ?_
 simp -implicitDefEqProofs only [go_sem, cQ.d]
 refine aG (fun hlt => ?_) (fun hlt => ?_)
 ·simp -implicitDefEqProofs only [go_sem, hc]
  exact aS (by simp) ⟨j, i, rfl, .inr ⟨rfl, rfl⟩, ⟨_, aL hc⟩, Keep.set _ hc rfl⟩
 ·simp -implicitDefEqProofs only [go_sem]
  exact aS (Nat.le_refl _) ⟨i, j, rfl, .inl ⟨rfl, rfl⟩, ⟨_, hc⟩, Keep.refl _ _⟩
theorem h307 {Q : Int -> Pr} {cf : FuncId} {cc : Int -> Int -> Int} (cQ : Cmp GL Q cf cc) (l : List Int) (i j m : Nat) (hi : i < l.length) (hj : j < l.length) (hm : m < l.length) (k c : Nat) (T : TypeId) (s : Int) (h : List AObj) (hk : h[k]? = some (.buf 60 3 (l.map (encQ Q)))) (hc : h[c]? = some (.cells T [.v (.int .i64 s)])) :
  Gives (PC GL) 307 [.vec k 3 l.length, .i i, .i j, .i m, .ref c 0, .fn (.func cf) [] []] h fun x h' => ∃ p : Nat, x = .i p /\ (p = i ∨ p = j ∨ p = m) /\ (∃ s', h'[c]? = some (.cells T [.v (.int .i64 s')])) /\ Keep (fun i _ => i = c) h h' := by
 have hkc : k ≠ c := by rintro rfl; rw [hk] at hc; cases hc
 refine k307.gives (by simp) ?_
 simp -implicitDefEqProofs only [go_sem, c307, r307]
 refine aR hC (h320 cQ l i j hi hj k c T s h hk hc) fun x h1 ⟨i1, j1, hx, q, ⟨s1, c1⟩, k1⟩ => ?_
 subst hx
 have hk1 := k1.get hk hkc
 have b1 : i1 < l.length /\ j1 < l.length := by omega
 simp -implicitDefEqProofs only [go_sem]
 refine aR hC (h320 cQ l j1 m b1.2 hm k c T s1 h1 hk1 c1) fun x h2 ⟨j2, m2, hx, q2, ⟨s2, c2⟩, k2⟩ => ?_
 subst hx
 have hk2 := k2.get hk1 hkc
 have b2 : j2 < l.length := by omega
 simp -implicitDefEqProofs only [go_sem]
 refine aR hC (h320 cQ l i1 j2 b1.1 b2 k c T s2 h2 hk2 c2) fun x h3 ⟨i3, j3, hx, q3, ⟨s3, c3⟩, k3⟩ => ?_
 subst hx
 simp -implicitDefEqProofs only [go_sem]
 have kk := (k1.trans k2).trans k3
 refine aS kk.1 ⟨j3, rfl, ?_, ⟨s3, c3⟩, kk⟩
 omega
theorem h306 {Q : Int -> Pr} {cf : FuncId} {cc : Int -> Int -> Int} (cQ : Cmp GL Q cf cc) (l : List Int) (i : Nat) (hi : 0 < i /\ i + 1 < l.length) (hl : l.length < 2 ^ 40) (k c : Nat) (T : TypeId) (s : Int) (h : List AObj) (hk : h[k]? = some (.buf 60 3 (l.map (encQ Q)))) (hc : h[c]? = some (.cells T [.v (.int .i64 s)])) :
  Gives (PC GL) 306 [.vec k 3 l.length, .i i, .ref c 0, .fn (.func cf) [] []] h fun x h' => ∃ p : Nat, x = .i p /\ (i - 1 <= p /\ p <= i + 1) /\ (∃ s', h'[c]? = some (.cells T [.v (.int .i64 s')])) /\ Keep (fun i _ => i = c) h h' := by
 have w1 : IntKind.i64.wrap ((i : Int) - 1) = ((i - 1 : Nat) : Int) := by rw [aF _ (by omega)]; omega
 have w2 : IntKind.i64.wrap ((i : Int) + 1) = ((i + 1 : Nat) : Int) := by rw [aF _ (by omega)]; omega
 refine k306.gives (by simp) ?_
 simp -implicitDefEqProofs only [go_sem, c306, r306, w1, w2]
 refine aR hC (h307 cQ l (i - 1) i (i + 1) (by omega) (by omega) (by omega) k c T s h hk hc) fun x h1 ⟨p, hx, q, c1, k1⟩ => ?_
 subst hx
 simp -implicitDefEqProofs only [go_sem]
 exact aS k1.1 ⟨p, rfl, by omega, c1, k1⟩
theorem h267 {Q : Int -> Pr} {cf : FuncId} {cc : Int -> Int -> Int} (_cQ : Cmp GL Q cf cc) (l0 : List Int) (a b : Nat) (hab : a < b) (hb : b <= l0.length) (hl : l0.length < 2 ^ 40) (k : Nat) (h : List AObj) (hk : h[k]? = some (.buf 60 3 (l0.map (encQ Q)))) :
  Gives (PC GL) 267 [.vec k 3 l0.length, .i a, .i b, .fn (.func cf) [] []] h fun _ h' => ∃ l', SegP a b l0 l' /\ h'[k]? = some (.buf 60 3 (l'.map (encQ Q))) /\ Keep (fun i _ => i = k) h h' := by
 have w1 : IntKind.i64.wrap ((b : Int) - 1) = ((b - 1 - 0 : Nat) : Int) := by rw [aF _ (by omega)]; omega
 refine k267.gives (by simp) ?_
 simp -implicitDefEqProofs only [go_sem, c267, r267, w1]
 refine aZ hC (fun t (_ : List Int) => [(8, .i ((a + t : Nat) : Int)), (9, .i ((b - 1 - t : Nat) : Int)), (0, .vec k 3 l0.length), (3, .fn (.func cf) [] [])]) (fun t l h' => SegP a b l0 l /\ h'[k]? = some (.buf 60 3 (l.map (encQ Q))) /\ Keep (fun i _ => i = k) h h') (b - 1 - a) ⟨l0, h, Wk.pick (Nat.le_refl _) (by simp [go_sem]), SegP.refl _ _ _, hk, Keep.refl _ _⟩ fun t l h1 ht ⟨g1, g2, g3⟩ => ?_
 simp -implicitDefEqProofs only [go_sem]
 have hlen : l0.length = l.length := g1.1.symm
 refine aG (fun hlt => ?_) (fun hlt => ?_)
 ·have hlt : a + t < b - 1 - t := by have := of_decide_eq_true hlt; omega
  have w2 : IntKind.i64.wrap (((a + t : Nat) : Int) + 1) = ((a + (t + 1) : Nat) : Int) := by rw [aF _ (by omega)]; omega
  have w3 : IntKind.i64.wrap (((b - 1 - t : Nat) : Int) - 1) = ((b - 1 - (t + 1) : Nat) : Int) := by rw [aF _ (by omega)]; omega
  have hi : a + t < l.length := by omega
  have hj : b - 1 - t < l.length := by omega
  have ht1 : t < b - 1 - a := by omega
  have hsw := SegP.swp (l := l) (a := a) (b := b) (i := a + t) (j := b - 1 - t) (by omega) (by omega) (by omega)
  generalize hp : a + t = p at *
  generalize hq : b - 1 - t = q at *
  have e1 := aO (Q := Q) hi
  have e2 := aO (Q := Q) hj
  simp -implicitDefEqProofs only [go_sem, g2, hlen, bnd hi, bnd hj, e1, e2, aL g2, bR (Q := Q) hj, w2, w3, List.length_map, List.length_set, aY, Int.toNat_natCast, true_and, aT, bJ, List.set_set, bO]
  exact ⟨ht1, swp l p q, _, Wk.pick (by simpa using g3.1) (by simp [go_sem]), g1.trans hsw, aL g2, g3.trans (Keep.set _ g2 rfl)⟩
 ·simp -implicitDefEqProofs only [go_sem]
  exact aS g3.1 ⟨l, g1, g2, g3⟩
theorem h266 {Q : Int -> Pr} {cf : FuncId} {cc : Int -> Int -> Int} (cQ : Cmp GL Q cf cc) (l : List Int) (a b : Nat) (hab : a + 12 < b) (hb : b <= l.length) (hl : l.length < 2 ^ 40) (k : Nat) (h : List AObj) (hk : h[k]? = some (.buf 60 3 (l.map (encQ Q)))) :
  Gives (PC GL) 266 [.vec k 3 l.length, .i a, .i b, .fn (.func cf) [] []] h fun x h' => ∃ (p : Nat) (z : Int), x = .tup [.i p, .i z] /\ (a <= p /\ p < b) /\ Keep All h h' := by
 obtain ⟨L, hL⟩ : ∃ L : Nat, L = b - a := ⟨_, rfl⟩
 have wL : IntKind.i64.wrap ((b : Int) - (a : Int)) = (L : Int) := by rw [aF _ (by omega)]; omega
 have wq : IntKind.i64.wrap (Int.tdiv (L : Int) 4) = ((L / 4 : Nat) : Int) := by
  rw [show Int.tdiv (L : Int) 4 = ((L / 4 : Nat) : Int) from by rw [Int.tdiv_eq_ediv_of_nonneg (by omega)]; omega]
  exact aF _ (by omega)
 have wm : ∀ n : Nat, n <= 3 -> IntKind.i64.wrap (((L / 4 : Nat) : Int) * (n : Int)) = ((L / 4 * n : Nat) : Int) := fun n hn => by
  have : L / 4 * n <= L / 4 * 3 := Nat.mul_le_mul_left _ hn
  have e : ((L / 4 : Nat) : Int) * (n : Int) = ((L / 4 * n : Nat) : Int) := by rw [Int.natCast_mul]
  rw [e]; exact aF _ (by omega)
 have wa : ∀ n : Nat, n <= 3 -> IntKind.i64.wrap ((a : Int) + ((L / 4 * n : Nat) : Int)) = ((a + L / 4 * n : Nat) : Int) := fun n hn => by
  have : L / 4 * n <= L / 4 * 3 := Nat.mul_le_mul_left _ hn
  rw [aF _ (by omega)]; omega
 have m1 := wm 1 (by omega)
 have m2 := wm 2 (by omega)
 have m3 := wm 3 (by omega)
 have a1 := wa 1 (by omega)
 have a2 := wa 2 (by omega)
 have a3 := wa 3 (by omega)
 simp only [Int.cast_ofNat_Int] at m1 m2 m3
 have d8 : decide ((L : Int) >= 8) = true := decide_eq_true (by omega)
 generalize hi1 : a + L / 4 * 1 = i1 at *
 generalize hi2 : a + L / 4 * 2 = i2 at *
 generalize hi3 : a + L / 4 * 3 = i3 at *
 refine k266.gives (by simp) ?_
 simp -implicitDefEqProofs only [go_sem, c266, r266, wL, wq, show ((4 : Int) = 0) = False from by simp, if_false]
 have bi1 : a <= i1 /\ i1 < b := by omega
 have bi2 : a <= i2 /\ i2 < b := by omega
 have bi3 : a <= i3 /\ i3 < b := by omega
 simp -implicitDefEqProofs only [go_sem, d8, m1, m2, m3, a1, a2, a3]
 have kk0 : Keep All h (h ++ [.cells 3 [.v (.int .i64 0)]]) := Keep.app _ _ _
 have hk0 : (h ++ [AObj.cells 3 [.v (.int .i64 0)]])[k]? = some (.buf 60 3 (l.map (encQ Q))) := aE hk
 have hc0 : (h ++ [AObj.cells 3 [.v (.int .i64 0)]])[h.length]? = some (.cells 3 [.v (.int .i64 0)]) := by rw [iJ]; rfl
 have hkc : k ≠ h.length := by have := aX hk; omega
 generalize hh0 : h ++ [AObj.cells 3 [.v (.int .i64 0)]] = g0 at kk0 hk0 hc0 ⊢
 by_cases h50 : 50 <= L
 ·have d50 : decide ((L : Int) >= 50) = true := decide_eq_true (by omega)
  simp -implicitDefEqProofs only [go_sem, d50]
  refine aR hC (h306 cQ l i1 (by omega) hl k h.length 3 0 g0 hk0 hc0) fun x g1 ⟨j1, hx, hj1, ⟨s1, c1⟩, k1⟩ => ?_
  subst hx
  have hk1 := k1.get hk0 hkc
  simp -implicitDefEqProofs only [go_sem]
  refine aR hC (h306 cQ l i2 (by omega) hl k h.length 3 s1 g1 hk1 c1) fun x g2 ⟨j2, hx, hj2, ⟨s2, c2⟩, k2⟩ => ?_
  subst hx
  have hk2 := k2.get hk1 hkc
  simp -implicitDefEqProofs only [go_sem]
  refine aR hC (h306 cQ l i3 (by omega) hl k h.length 3 s2 g2 hk2 c2) fun x g3 ⟨j3, hx, hj3, ⟨s3, c3⟩, k3⟩ => ?_
  subst hx
  have hk3 := k3.get hk2 hkc
  have kk3 : Keep All h g3 := kk0.trans' ((k1.trans k2).trans k3) fun i o hi e => by have := aX hi; omega
  clear k1 k2 k3 c1 c2 hk1 hk2 kk0
  have bj1 : a <= j1 /\ j1 < b := by omega
  have bj2 : a <= j2 /\ j2 < b := by omega
  have bj3 : a <= j3 /\ j3 < b := by omega
  clear bi1 bi2 bi3 a1 a2 a3 hi1 hi2 hi3 hj1 hj2 hj3
  simp -implicitDefEqProofs only [go_sem]
  revert bj1 bj2 bj3 kk3 hk3 c3
  generalize j1 = i1; generalize j2 = i2; generalize j3 = i3; generalize g3 = h1; generalize s3 = s1
  intro hc1 hk1 kk1 bi1 bi2 bi3
  refine aR hC (h307 cQ l i1 i2 i3 (by omega) (by omega) (by omega) k h.length 3 s1 h1 hk1 hc1) fun x h2 ⟨p, hx, hp, ⟨s2, hc2⟩, k2⟩ => ?_
  subst hx
  have kk : Keep All h h2 := kk1.trans' k2 fun i o hi e => by have := aX hi; omega
  have hpb : a <= p /\ p < b := by omega
  simp -implicitDefEqProofs only [go_sem, hc2]
  by_cases z0 : s2 = 0
  ·have d0 : (s2 == 0) = true := by simpa using z0
   simp -implicitDefEqProofs only [go_sem, d0]
   exact aS kk.1 ⟨p, 1, rfl, hpb, kk⟩
  have d0 : (s2 == 0) = false := by simpa using z0
  by_cases z1 : s2 = 12
  ·have d1 : (s2 == 12) = true := by simpa using z1
   simp -implicitDefEqProofs only [go_sem, d0, d1]
   exact aS kk.1 ⟨p, 2, rfl, hpb, kk⟩
  have d1 : (s2 == 12) = false := by simpa using z1
  simp -implicitDefEqProofs only [go_sem, d0, d1]
  exact aS kk.1 ⟨p, 0, rfl, hpb, kk⟩
 ·have d50 : decide ((L : Int) >= 50) = false := decide_eq_false (by omega)
  simp -implicitDefEqProofs only [go_sem, d50]
  have hk1 := hk0
  have hc1 := hc0
  have kk1 := kk0
  obtain ⟨s1, hs1⟩ : ∃ s1 : Int, s1 = 0 := ⟨0, rfl⟩
  rw [<- hs1] at hc1
  generalize g0 = h1 at *
  refine aR hC (h307 cQ l i1 i2 i3 (by omega) (by omega) (by omega) k h.length 3 s1 h1 hk1 hc1) fun x h2 ⟨p, hx, hp, ⟨s2, hc2⟩, k2⟩ => ?_
  subst hx
  have kk : Keep All h h2 := kk1.trans' k2 fun i o hi e => by have := aX hi; omega
  have hpb : a <= p /\ p < b := by omega
  simp -implicitDefEqProofs only [go_sem, hc2]
  by_cases z0 : s2 = 0
  ·have d0 : (s2 == 0) = true := by simpa using z0
   simp -implicitDefEqProofs only [go_sem, d0]
   exact aS kk.1 ⟨p, 1, rfl, hpb, kk⟩
  have d0 : (s2 == 0) = false := by simpa using z0
  by_cases z1 : s2 = 12
  ·have d1 : (s2 == 12) = true := by simpa using z1
   simp -implicitDefEqProofs only [go_sem, d0, d1]
   exact aS kk.1 ⟨p, 2, rfl, hpb, kk⟩
  have d1 : (s2 == 12) = false := by simpa using z1
  simp -implicitDefEqProofs only [go_sem, d0, d1]
  exact aS kk.1 ⟨p, 0, rfl, hpb, kk⟩
theorem h303 {Q : Int -> Pr} {cf : FuncId} {cc : Int -> Int -> Int} (cQ : Cmp GL Q cf cc) (l0 : List Int) (lo hi f : Nat) (hb : f + hi <= l0.length) (hl : l0.length < 2 ^ 40) (hlo : lo < 2 ^ 40) (hh : Heap (lo + 1) hi f l0) (k : Nat) (h : List AObj) (hk : h[k]? = some (.buf 60 3 (l0.map (encQ Q)))) :
  Gives (PC GL) 303 [.vec k 3 l0.length, .i lo, .i hi, .i f, .fn (.func cf) [] []] h fun _ h' => ∃ l', SegP f (f + hi) l0 l' /\ Heap lo hi f l' /\ h'[k]? = some (.buf 60 3 (l'.map (encQ Q))) /\ Keep (fun i _ => i = k) h h' := by
 refine k303.gives (by simp) ?_
 simp -implicitDefEqProofs only [go_sem, c303, r303]
 refine aZ hC (fun t (a : List Int × Nat) => [(10, .i (a.2 : Nat)), (0, .vec k 3 l0.length), (2, .i hi), (3, .i f), (4, .fn (.func cf) [] [])]) (fun t a h' => SegP f (f + hi) l0 a.1 /\ HeapBut lo hi f a.2 a.1 /\ h'[k]? = some (.buf 60 3 (a.1.map (encQ Q))) /\ Keep (fun i _ => i = k) h h' /\ lo + t <= a.2 /\ a.2 < 2 ^ 40) (hi - lo) ⟨(l0, lo), h, Wk.pick (Nat.le_refl _) (by simp [go_sem]), SegP.refl _ _ _, HeapBut.start hh, hk, Keep.refl _ _, Nat.le_refl _, hlo⟩ fun t a h1 ht ⟨g1, g2, g3, g4, g5, g6⟩ => ?_
 obtain ⟨l, r⟩ := a
 dsimp only at g1 g2 g3 g5 g6
 have hlen : l0.length = l.length := g1.1.symm
 have w1 : IntKind.i64.wrap (2 * (r : Int)) = ((2 * r : Nat) : Int) := by rw [aF _ (by omega)]; omega
 have w2 : IntKind.i64.wrap (((2 * r : Nat) : Int) + 1) = ((2 * r + 1 : Nat) : Int) := by rw [aF _ (by omega)]; omega
 have w3 : IntKind.i64.wrap (((2 * r + 1 : Nat) : Int) + 1) = ((2 * r + 2 : Nat) : Int) := by rw [aF _ (by omega)]; omega
 have wf : ∀ x : Nat, x < 2 ^ 42 -> IntKind.i64.wrap ((f : Int) + (x : Int)) = ((f + x : Nat) : Int) := fun x hx => by rw [aF _ (by omega)]; omega
 have wr := wf r (by omega)
 have wc1 := wf (2 * r + 1) (by omega)
 have wc2 := wf (2 * r + 2) (by omega)
 have wc3 : IntKind.i64.wrap (((f + (2 * r + 1) : Nat) : Int) + 1) = ((f + (2 * r + 2) : Nat) : Int) := by rw [aF _ (by omega)]; omega
 simp -implicitDefEqProofs only [go_sem, w1, w2]
 by_cases hch : 2 * r + 1 >= hi
 ·have d1 : decide (((2 * r + 1 : Nat) : Int) >= (hi : Int)) = true := decide_eq_true (by omega)
  simp -implicitDefEqProofs only [go_sem, d1]
  exact aS g4.1 ⟨l, g1, g2.done fun c hc hci => by unfold Kid at hc; omega, g3, g4⟩
 have d1 : decide (((2 * r + 1 : Nat) : Int) >= (hi : Int)) = false := decide_eq_false (by omega)
 have er := aO (Q := Q) (l := l) (i := f + r) (by omega)
 have ec1 := aO (Q := Q) (l := l) (i := f + (2 * r + 1)) (by omega)
 have br := bnd (i := f + r) (n := l.length) (by omega)
 have bc1 := bnd (i := f + (2 * r + 1)) (n := l.length) (by omega)
 simp -implicitDefEqProofs only [go_sem, d1, w3]
 by_cases hc2 : 2 * r + 2 < hi
 ·have d2 : decide (((2 * r + 2 : Nat) : Int) < (hi : Int)) = true := decide_eq_true (by omega)
  have ec2 := aO (Q := Q) (l := l) (i := f + (2 * r + 2)) (by omega)
  have bc2 := bnd (i := f + (2 * r + 2)) (n := l.length) (by omega)
  simp -implicitDefEqProofs only [go_sem, d2, wc1, wc3, g3, hlen, bc1, bc2, ec1, ec2, List.length_map, aY, Int.toNat_natCast, true_and, aT]
  refine aC hC (cQ.p _ _) ?_
  simp -implicitDefEqProofs only [go_sem, cQ.d]
  by_cases hlc : l.getD (f + (2 * r + 1)) 0 < l.getD (f + (2 * r + 2)) 0
  ·have d3 := decide_eq_true hlc
   simp -implicitDefEqProofs only [go_sem, d3, w3]
   obtain ⟨m, hmd⟩ : ∃ m, m = 2 * r + 2 := ⟨_, rfl⟩
   have hm : Kid r m := .inr hmd
   have hmi : m < hi := by omega
   have hmax : ∀ c, Kid r c -> c < hi -> l.getD (f + c) 0 <= l.getD (f + m) 0 := fun c hc _ => by
    subst hmd
    rcases hc with rfl | rfl
    ·omega
    ·exact Int.le_refl _
   simp only [<- hmd]
   have em := aO (Q := Q) (l := l) (i := f + m) (by omega)
   have bm := bnd (i := f + m) (n := l.length) (by omega)
   have wm := wf m (by omega)
   have hml : f + m < l.length := by omega
   simp -implicitDefEqProofs only [go_sem, wr, wm, g3, br, bm, er, em, List.length_map, aY, Int.toNat_natCast, true_and, aT]
   refine aC hC (cQ.p _ _) ?_
   simp -implicitDefEqProofs only [go_sem, cQ.d]
   by_cases hlt : l.getD (f + r) 0 < l.getD (f + m) 0
   ·have d := decide_eq_true hlt
    simp -implicitDefEqProofs only [go_sem, d, Bool.not_true, wr, wm, g3, br, bm, er, em, aL g3, bR (Q := Q) hml, List.length_map, List.length_set, aY, Int.toNat_natCast, true_and, aT, bJ, List.set_set, bO]
    exact ⟨by omega, (swp l (f + r) (f + m), m), _, Wk.pick (by simpa using g4.1) (by simp [go_sem]), g1.trans (SegP.swp (by omega) (by omega) (by omega)), g2.step (by omega) hm hmi (by omega) hlt hmax, aL g3, g4.trans (Keep.set _ g3 rfl), by dsimp only; unfold Kid at hm; omega, by dsimp only; omega⟩
   ·have d := decide_eq_false hlt
    simp -implicitDefEqProofs only [go_sem, d, Bool.not_false]
    exact aS g4.1 ⟨l, g1, g2.done fun c hc hci => by have := hmax c hc hci; omega, g3, g4⟩
  ·have d3 := decide_eq_false hlc
   simp -implicitDefEqProofs only [go_sem, d3]
   obtain ⟨m, hmd⟩ : ∃ m, m = 2 * r + 1 := ⟨_, rfl⟩
   have hm : Kid r m := .inl hmd
   have hmi : m < hi := by omega
   have hmax : ∀ c, Kid r c -> c < hi -> l.getD (f + c) 0 <= l.getD (f + m) 0 := fun c hc _ => by
    subst hmd
    rcases hc with rfl | rfl
    ·exact Int.le_refl _
    ·omega
   simp only [<- hmd]
   have em := aO (Q := Q) (l := l) (i := f + m) (by omega)
   have bm := bnd (i := f + m) (n := l.length) (by omega)
   have wm := wf m (by omega)
   have hml : f + m < l.length := by omega
   simp -implicitDefEqProofs only [go_sem, wr, wm, g3, br, bm, er, em, List.length_map, aY, Int.toNat_natCast, true_and, aT]
   refine aC hC (cQ.p _ _) ?_
   simp -implicitDefEqProofs only [go_sem, cQ.d]
   by_cases hlt : l.getD (f + r) 0 < l.getD (f + m) 0
   ·have d := decide_eq_true hlt
    simp -implicitDefEqProofs only [go_sem, d, Bool.not_true, wr, wm, g3, br, bm, er, em, aL g3, bR (Q := Q) hml, List.length_map, List.length_set, aY, Int.toNat_natCast, true_and, aT, bJ, List.set_set, bO]
    exact ⟨by omega, (swp l (f + r) (f + m), m), _, Wk.pick (by simpa using g4.1) (by simp [go_sem]), g1.trans (SegP.swp (by omega) (by omega) (by omega)), g2.step (by omega) hm hmi (by omega) hlt hmax, aL g3, g4.trans (Keep.set _ g3 rfl), by dsimp only; unfold Kid at hm; omega, by dsimp only; omega⟩
   ·have d := decide_eq_false hlt
    simp -implicitDefEqProofs only [go_sem, d, Bool.not_false]
    exact aS g4.1 ⟨l, g1, g2.done fun c hc hci => by have := hmax c hc hci; omega, g3, g4⟩
 ·have d2 : decide (((2 * r + 2 : Nat) : Int) < (hi : Int)) = false := decide_eq_false (by omega)
  simp -implicitDefEqProofs only [go_sem, d2]
  obtain ⟨m, hmd⟩ : ∃ m, m = 2 * r + 1 := ⟨_, rfl⟩
  have hm : Kid r m := .inl hmd
  have hmi : m < hi := by omega
  have hmax : ∀ c, Kid r c -> c < hi -> l.getD (f + c) 0 <= l.getD (f + m) 0 := fun c hc hci => by
   subst hmd
   rcases hc with rfl | rfl
   ·exact Int.le_refl _
   ·omega
  simp only [<- hmd]
  have em := aO (Q := Q) (l := l) (i := f + m) (by omega)
  have bm := bnd (i := f + m) (n := l.length) (by omega)
  have wm := wf m (by omega)
  have hml : f + m < l.length := by omega
  simp -implicitDefEqProofs only [go_sem, wr, wm, g3, hlen, br, bm, er, em, List.length_map, aY, Int.toNat_natCast, true_and, aT]
  refine aC hC (cQ.p _ _) ?_
  simp -implicitDefEqProofs only [go_sem, cQ.d]
  by_cases hlt : l.getD (f + r) 0 < l.getD (f + m) 0
  ·have d := decide_eq_true hlt
   simp -implicitDefEqProofs only [go_sem, d, Bool.not_true, wr, wm, g3, br, bm, er, em, aL g3, bR (Q := Q) hml, List.length_map, List.length_set, aY, Int.toNat_natCast, true_and, aT, bJ, List.set_set, bO]
   exact ⟨by omega, (swp l (f + r) (f + m), m), _, Wk.pick (by simpa using g4.1) (by simp [go_sem]), g1.trans (SegP.swp (by omega) (by omega) (by omega)), g2.step (by omega) hm hmi (by omega) hlt hmax, aL g3, g4.trans (Keep.set _ g3 rfl), by dsimp only; unfold Kid at hm; omega, by dsimp only; omega⟩
  ·have d := decide_eq_false hlt
   simp -implicitDefEqProofs only [go_sem, d, Bool.not_false]
   exact aS g4.1 ⟨l, g1, g2.done fun c hc hci => by have := hmax c hc hci; omega, g3, g4⟩
theorem h264 {Q : Int -> Pr} {cf : FuncId} {cc : Int -> Int -> Int} (cQ : Cmp GL Q cf cc) (l0 : List Int) (a b : Nat) (hab : a < b) (hb : b <= l0.length) (hl : l0.length < 2 ^ 40) (k : Nat) (h : List AObj) (hk : h[k]? = some (.buf 60 3 (l0.map (encQ Q)))) :
  Gives (PC GL) 264 [.vec k 3 l0.length, .i a, .i b, .fn (.func cf) [] []] h fun _ h' => ∃ l', SegP a b l0 l' /\ Srt a b l' /\ h'[k]? = some (.buf 60 3 (l'.map (encQ Q))) /\ Keep (fun i _ => i = k) h h' := by
 obtain ⟨n, rfl⟩ : ∃ n, b = a + (n + 1) := ⟨b - a - 1, by omega⟩
 have w1 : IntKind.i64.wrap (((a + (n + 1) : Nat) : Int) - (a : Int)) = ((n + 1 : Nat) : Int) := by rw [aF _ (by omega)]; omega
 have w2 : IntKind.i64.wrap (((n + 1 : Nat) : Int) - 1) = (n : Int) := by rw [aF _ (by omega)]; omega
 have w3 : IntKind.i64.wrap (Int.tdiv (n : Int) 2) = ((n / 2 : Nat) : Int) := by
  rw [show Int.tdiv (n : Int) 2 = ((n / 2 : Nat) : Int) from by rw [Int.tdiv_eq_ediv_of_nonneg (by omega)]; omega]
  exact aF _ (by omega)
 refine k264.gives (by simp) ?_
 simp -implicitDefEqProofs only [go_sem, c264, r264, w1, w2, w3, show ((2 : Int) = 0) = False from by simp, if_false]
 refine aZ hC (fun t (_ : List Int) => [(11, .i (((n / 2 : Nat) : Int) - (t : Int))), (0, .vec k 3 l0.length), (10, .i ((n + 1 : Nat) : Int)), (8, .i a), (9, .i 0), (3, .fn (.func cf) [] [])]) (fun t l h' => SegP a (a + (n + 1)) l0 l /\ Heap (n / 2 + 1 - t) (n + 1) a l /\ h'[k]? = some (.buf 60 3 (l.map (encQ Q))) /\ Keep (fun i _ => i = k) h h') (n / 2 + 1) ⟨l0, h, Wk.pick (Nat.le_refl _) (by simp [go_sem]), SegP.refl _ _ _, fun i c h1 h2 h3 => by unfold Kid at h2; omega, hk, Keep.refl _ _⟩ fun t l h1 ht ⟨g1, g2, g3, g4⟩ => ?_
 have hlen : l0.length = l.length := g1.1.symm
 simp -implicitDefEqProofs only [go_sem]
 by_cases hlt : t <= n / 2
 ·have d1 : decide (((n / 2 : Nat) : Int) - (t : Int) >= 0) = true := decide_eq_true (by omega)
  obtain ⟨i, hi⟩ : ∃ i : Nat, i = n / 2 - t := ⟨_, rfl⟩
  have ei : ((n / 2 : Nat) : Int) - (t : Int) = (i : Int) := by omega
  have w4 : IntKind.i64.wrap ((i : Int) - 1) = ((n / 2 : Nat) : Int) - ((t + 1 : Nat) : Int) := by rw [aF _ (by omega)]; omega
  rw [ei] at d1
  simp -implicitDefEqProofs only [go_sem, ei, d1, hlen]
  refine aR hC (h303 cQ l i (n + 1) a (by omega) (by omega) (by omega) (by rw [show i + 1 = n / 2 + 1 - t by omega]; exact g2) k h1 g3) fun x h2 ⟨l2, q1, q2, q3, q4⟩ => ?_
  simp -implicitDefEqProofs only [go_sem, w4]
  exact ⟨by omega, l2, h2, Wk.pick (g4.trans q4).1 (by simp [go_sem]), g1.trans q1, by rw [show n / 2 + 1 - (t + 1) = i by omega]; exact q2, q3, g4.trans q4⟩
 have d1 : decide (((n / 2 : Nat) : Int) - (t : Int) >= 0) = false := decide_eq_false (by omega)
 have g2' : Heap 0 (n + 1) a l := by have := g2; rwa [show n / 2 + 1 - t = 0 by omega] at this
 simp -implicitDefEqProofs only [go_sem, d1, w2]
 refine aZ hC (fun t (_ : List Int) => [(12, .i ((n : Int) - (t : Int))), (0, .vec k 3 l0.length), (8, .i a), (9, .i 0), (3, .fn (.func cf) [] [])]) (fun t l h' => SegP a (a + (n + 1)) l0 l /\ Popped (n + 1 - t) (n + 1) a l /\ h'[k]? = some (.buf 60 3 (l.map (encQ Q))) /\ Keep (fun i _ => i = k) h h') (n + 1) ⟨l, h1, Wk.pick g4.1 (by simp [go_sem]), g1, ⟨g2', fun p q _ _ _ => by omega, fun x y _ _ _ => by omega⟩, g3, g4⟩ fun t l h1 ht ⟨g1, g2, g3, g4⟩ => ?_
 have hlen : l0.length = l.length := g1.1.symm
 simp -implicitDefEqProofs only [go_sem]
 by_cases hlt : t <= n
 ·have d1 : decide ((n : Int) - (t : Int) >= 0) = true := decide_eq_true (by omega)
  obtain ⟨i, hi⟩ : ∃ i : Nat, i = n - t := ⟨_, rfl⟩
  have ei : (n : Int) - (t : Int) = (i : Int) := by omega
  have w4 : IntKind.i64.wrap ((i : Int) - 1) = (n : Int) - ((t + 1 : Nat) : Int) := by rw [aF _ (by omega)]; omega
  have w5 : IntKind.i64.wrap ((a : Int) + (i : Int)) = ((a + i : Nat) : Int) := by rw [aF _ (by omega)]; omega
  have hal : a < l.length := by omega
  have hil : a + i < l.length := by omega
  have e1 := aO (Q := Q) hal
  have e2 := aO (Q := Q) hil
  rw [show n + 1 - t = i + 1 by omega] at g2
  rw [ei] at d1
  simp -implicitDefEqProofs only [go_sem, ei, d1, hlen, w5, g3, bnd hal, bnd hil, e1, e2, aL g3, bR (Q := Q) hil, List.length_map, List.length_set, aY, Int.toNat_natCast, true_and, aT, bJ, List.set_set, bO]
  have hsw : SegP a (a + (n + 1)) l (swp l a (a + i)) := SegP.swp (by omega) (by omega) (by omega)
  have hls : l.length = (swp l a (a + i)).length := (eA _ _ _).symm
  rw [hls]
  refine aR hC (h303 cQ (swp l a (a + i)) 0 i a (by rw [eA]; omega) (by rw [eA]; omega) (by omega) (g2.1.swp hil) k _ (aL g3)) fun x h2 ⟨l2, q1, q2, q3, q4⟩ => ?_
  simp -implicitDefEqProofs only [go_sem, w4]
  have kk := (g4.trans (Keep.set (.buf 60 3 ((swp l a (a + i)).map (encQ Q))) g3 rfl)).trans q4
  refine ⟨by omega, l2, h2, Wk.pick kk.1 (by simp [go_sem]), (g1.trans hsw).trans (q1.mono (by omega) (by omega)), ?_, q3, kk⟩
  rw [show n + 1 - (t + 1) = i by omega]
  exact g2.step (by omega) (by omega) q1 q2
 ·have d1 : decide ((n : Int) - (t : Int) >= 0) = false := decide_eq_false (by omega)
  simp -implicitDefEqProofs only [go_sem, d1]
  refine aS g4.1 ⟨l, g1, fun p q hp hpq hq => ?_, g3, g4⟩
  exact g2.2.1 p q (by omega) hpq hq
theorem h265 {Q : Int -> Pr} {cf : FuncId} {cc : Int -> Int -> Int} (_cQ : Cmp GL Q cf cc) (l0 : List Int) (a b : Nat) (hab : a + 12 < b) (hb : b <= l0.length) (hl : l0.length < 2 ^ 24) (k : Nat) (h : List AObj) (hk : h[k]? = some (.buf 60 3 (l0.map (encQ Q)))) :
  Gives (PC GL) 265 [.vec k 3 l0.length, .i a, .i b, .fn (.func cf) [] []] h fun _ h' => ∃ l', SegP a b l0 l' /\ h'[k]? = some (.buf 60 3 (l'.map (encQ Q))) /\ Keep (fun i _ => i = k) h h' := by
 obtain ⟨L, hL⟩ : ∃ L : Nat, L = b - a := ⟨_, rfl⟩
 obtain ⟨M, hM, q304⟩ := h304 (GL := GL) L (by omega)
 have wL : IntKind.i64.wrap ((b : Int) - (a : Int)) = (L : Int) := by rw [aF _ (by omega)]; omega
 have wU := u64w L (by omega)
 have wq : IntKind.i64.wrap (Int.tdiv (L : Int) 4) = ((L / 4 : Nat) : Int) := by
  rw [show Int.tdiv (L : Int) 4 = ((L / 4 : Nat) : Int) from by rw [Int.tdiv_eq_ediv_of_nonneg (by omega)]; omega]
  exact aF _ (by omega)
 have wm : IntKind.i64.wrap (((L / 4 : Nat) : Int) * 2) = ((L / 4 * 2 : Nat) : Int) := by rw [aF _ (by omega)]; omega
 have wa : IntKind.i64.wrap ((a : Int) + ((L / 4 * 2 : Nat) : Int)) = ((a + L / 4 * 2 : Nat) : Int) := by rw [aF _ (by omega)]; omega
 obtain ⟨q, hq⟩ : ∃ q : Nat, q = a + L / 4 * 2 - 1 := ⟨_, rfl⟩
 have ws : IntKind.i64.wrap (((a + L / 4 * 2 : Nat) : Int) - 1) = ((q + 0 : Nat) : Int) := by rw [aF _ (by omega)]; omega
 have wt : IntKind.i64.wrap (((a + L / 4 * 2 : Nat) : Int) + 1) = ((q + 2 : Nat) : Int) := by rw [aF _ (by omega)]; omega
 have d8 : decide ((L : Int) >= 8) = true := decide_eq_true (by omega)
 have wM : IntKind.u64.wrap ((M : Int) - 1) = ((M - 1 : Nat) : Int) := by rw [show (M : Int) - 1 = ((M - 1 : Nat) : Int) by omega]; exact u64w _ (by omega)
 have n4 : ((4 : Int) = 0) = False := by simp
 refine k265.gives (by simp) ?_
 simp -implicitDefEqProofs only [go_sem, c265, r265, wL, d8, wU]
 have hkc : k ≠ h.length := by have := aX hk; omega
 refine aC hC q304 ?_
 simp -implicitDefEqProofs only [go_sem, wq, wm, wa, ws, n4, if_false]
 refine aZ hC (fun t (_ : List Int × Int) => [(11, .i ((q + t : Nat) : Int)), (0, .vec k 3 l0.length), (1, .i a), (8, .i L), (9, .ref h.length 0), (10, .v (.int .u64 M)), (3, .fn (.func cf) [] [])]) (fun t a' h' => SegP a b l0 a'.1 /\ h'[k]? = some (.buf 60 3 (a'.1.map (encQ Q))) /\ h'[h.length]? = some (.cells 296 [.v (.int .u64 a'.2)]) /\ Keep (fun i _ => i = k) h h') 3 ⟨(l0, (L : Int)), _, Wk.pick (by simp) (by simp [go_sem]), SegP.refl _ _ _, aE hk, by rw [iJ]; rfl, Keep.app _ _ _⟩ fun t a' h1 ht ⟨g1, g2, g3, g4⟩ => ?_
 obtain ⟨l, r⟩ := a'
 dsimp only at g1 g2 g3
 have hlen : l0.length = l.length := g1.1.symm
 simp -implicitDefEqProofs only [go_sem, wq, wm, wa, wt, n4, if_false]
 by_cases hlt : t < 3
 ·have d1 : decide (((q + t : Nat) : Int) <= ((q + 2 : Nat) : Int)) = true := decide_eq_true (by omega)
  have w5 : IntKind.i64.wrap (((q + t : Nat) : Int) + 1) = ((q + (t + 1) : Nat) : Int) := by rw [aF _ (by omega)]; omega
  simp -implicitDefEqProofs only [go_sem, d1]
  refine aR hC (h305 _ 296 r h1 g3) fun x h2 ⟨r2, hx, c2, k2⟩ => ?_
  subst hx
  have b2 := k2.get g2 hkc
  have kk : Keep (fun i _ => i = k) h h2 := g4.trans' k2 fun i o hi e => by have := aX hi; omega
  obtain ⟨o, ho, hob⟩ : ∃ o : Nat, IntKind.i64.wrap (bitAnd .u64 r2 ((M - 1 : Nat) : Int)) = (o : Int) /\ o < 2 * L := by
   have := and_le r2 (M - 1)
   refine ⟨(BitVec.ofInt 64 r2 &&& BitVec.ofInt 64 ((M - 1 : Nat) : Int)).toNat, ?_, by omega⟩
   rw [bitAnd]
   show IntKind.i64.wrap (IntKind.u64.wrap ((BitVec.ofInt 64 r2 &&& BitVec.ofInt 64 ((M - 1 : Nat) : Int)).toNat : Int)) = _
   rw [u64w _ (by omega), aF _ (by omega)]
  have hqt : q + t < l.length := by omega
  have hqb : a <= q + t /\ q + t < b := by omega
  generalize hqq : q + t = e at *
  have e1 := aO (Q := Q) hqt
  simp -implicitDefEqProofs only [go_sem, wM, ho]
  by_cases hoL : o >= L
  ·have d2 : decide ((o : Int) >= (L : Int)) = true := decide_eq_true (by omega)
   obtain ⟨p, hp⟩ : ∃ p : Nat, p = o - L := ⟨_, rfl⟩
   have wp : IntKind.i64.wrap ((o : Int) - (L : Int)) = (p : Int) := by rw [aF _ (by omega)]; omega
   simp -implicitDefEqProofs only [go_sem, d2, wp]
   have wap : IntKind.i64.wrap ((a : Int) + (p : Int)) = ((a + p : Nat) : Int) := by rw [aF _ (by omega)]; omega
   have hpl : a + p < l.length := by omega
   have e2 := aO (Q := Q) hpl
   simp -implicitDefEqProofs only [go_sem, wap, b2, hlen, bnd hqt, bnd hpl, e1, e2, aL b2, bR (Q := Q) hpl, w5, List.length_map, List.length_set, aY, Int.toNat_natCast, true_and, aT, bJ, List.set_set, bO]
   have c3 := (aN (o := .buf 60 3 ((swp l e (a + p)).map (encQ Q))) hkc).trans c2
   exact ⟨hlt, (swp l e (a + p), r2), _, Wk.pick (by simpa using kk.1) (by simp [go_sem]), g1.trans (SegP.swp (by omega) (by omega) (by omega)), aL b2, c3, kk.trans (Keep.set _ b2 rfl)⟩
  ·have d2 : decide ((o : Int) >= (L : Int)) = false := decide_eq_false (by omega)
   obtain ⟨p, hp⟩ : ∃ p : Nat, p = o := ⟨_, rfl⟩
   rw [<- hp] at d2 ho ⊢
   simp -implicitDefEqProofs only [go_sem, d2]
   have wap : IntKind.i64.wrap ((a : Int) + (p : Int)) = ((a + p : Nat) : Int) := by rw [aF _ (by omega)]; omega
   have hpl : a + p < l.length := by omega
   have e2 := aO (Q := Q) hpl
   simp -implicitDefEqProofs only [go_sem, wap, b2, hlen, bnd hqt, bnd hpl, e1, e2, aL b2, bR (Q := Q) hpl, w5, List.length_map, List.length_set, aY, Int.toNat_natCast, true_and, aT, bJ, List.set_set, bO]
   have c3 := (aN (o := .buf 60 3 ((swp l e (a + p)).map (encQ Q))) hkc).trans c2
   exact ⟨hlt, (swp l e (a + p), r2), _, Wk.pick (by simpa using kk.1) (by simp [go_sem]), g1.trans (SegP.swp (by omega) (by omega) (by omega)), aL b2, c3, kk.trans (Keep.set _ b2 rfl)⟩
 ·have d1 : decide (((q + t : Nat) : Int) <= ((q + 2 : Nat) : Int)) = false := decide_eq_false (by omega)
  simp -implicitDefEqProofs only [go_sem, d1]
  exact aS g4.1 ⟨l, g1, g2, g4⟩
set_option maxHeartbeats 4000000 in
theorem h270 {Q : Int -> Pr} {cf : FuncId} {cc : Int -> Int -> Int} (cQ : Cmp GL Q cf cc) (l0 : List Int) (a b p : Nat) (hab : a + 1 < b) (hb : b <= l0.length) (hl : l0.length < 2 ^ 24) (hp : a <= p /\ p < b) (k : Nat) (h : List AObj) (hk : h[k]? = some (.buf 60 3 (l0.map (encQ Q)))) :
    Gives (PC GL) 270 [.vec k 3 l0.length, .i a, .i b, .i p, .fn (.func cf) [] []] h fun x h' => ∃ (m : Nat) (z : Bool) (l' : List Int), x = .tup [.i m, .b z] /\ SegP a b l0 l' /\ Parted a b m l' /\ h'[k]? = some (.buf 60 3 (l'.map (encQ Q))) /\ Keep (fun i _ => i = k) h h' := by
  have w1 : IntKind.i64.wrap ((a : Int) + 1) = ((a + 1 : Nat) : Int) := by rw [aF _ (by omega)]; omega
  have w2 : IntKind.i64.wrap ((b : Int) - 1) = ((b - 1 : Nat) : Int) := by rw [aF _ (by omega)]; omega
  have ha0 : a < l0.length := by omega
  have hp0 : p < l0.length := by omega
  refine k270.gives (by simp) ?_
  simp -implicitDefEqProofs only [go_sem, c270, r270, hk, bnd ha0, bnd hp0, aO (Q := Q) ha0, aO (Q := Q) hp0, aL hk, bR (Q := Q) hp0, w1, w2, List.length_map, List.length_set, aY, Int.toNat_natCast, true_and, aT, bJ, List.set_set, bO]
  have g1 : SegP a b l0 (swp l0 a p) := SegP.swp (by omega) (by omega) hb
  have g3 := aL (o := .buf 60 3 ((swp l0 a p).map (encQ Q))) hk
  have g4 : Keep (fun i _ => i = k) h (h.set k (.buf 60 3 ((swp l0 a p).map (encQ Q)))) := Keep.set _ hk rfl
  have hlen : l0.length = (swp l0 a p).length := g1.1.symm
  have g2 : Part a b (a + 1) (b - 1) (swp l0 a p) := ⟨fun x _ _ => by omega, fun x _ _ => by omega, Nat.le_refl _, by omega, by omega, by omega⟩
  simp only [hlen]
  generalize swp l0 a p = l at g1 g3 g4 hlen g2 ⊢
  generalize h.set k (.buf 60 3 (l.map (encQ Q))) = h1 at g3 g4 ⊢
  have hal : a < l.length := by omega
  have ea := aO (Q := Q) hal
  generalize hi : a + 1 = i at g2 ⊢
  generalize hj : b - 1 = j at g2 ⊢
  refine aZ hC (fun u (_ : Unit) => [(12, .i ((i + u : Nat) : Int)), (13, .i ((j : Nat) : Int)), (0, .vec k 3 l.length), (1, .i a), (4, .fn (.func cf) [] [])]) (fun u (_ : Unit) h' => Part a b (i + u) j l /\ h'[k]? = some (.buf 60 3 (l.map (encQ Q))) /\ Keep (fun i _ => i = k) h h') (b - a) ⟨(), _, Wk.pick (by simpa using g4.1) (by simp [go_sem]), g2, g3, g4⟩ fun u _ h2 hu ⟨g2, g3, g4⟩ => ?_
  have hbd := g2.2.2
  have wi : IntKind.i64.wrap (((i + u : Nat) : Int) + 1) = ((i + (u + 1) : Nat) : Int) := by rw [aF _ (by omega)]; omega
  simp -implicitDefEqProofs only [go_sem]
  by_cases ci : i + u <= j /\ l.getD (i + u) 0 < l.getD a 0
  · have d1 : decide (((i + u : Nat) : Int) <= (j : Int)) = true := decide_eq_true (by omega)
    have hil : i + u < l.length := by omega
    simp -implicitDefEqProofs only [go_sem, d1, g3, bnd hal, bnd hil, ea, aO (Q := Q) hil, List.length_map, aY, Int.toNat_natCast, true_and, aT]
    refine aC hC (cQ.p _ _) ?_
    simp -implicitDefEqProofs only [go_sem, cQ.d, decide_eq_true ci.2, wi]
    exact ⟨by omega, (), h2, Wk.pick g4.1 (by simp [go_sem]), g2.up ci.1 ci.2, g3, g4⟩
  by_cases c2 : i + u <= j
  all_goals (first
    | (have d1 : decide (((i + u : Nat) : Int) <= (j : Int)) = true := decide_eq_true (by omega)
       have hil : i + u < l.length := by omega
       have c3 : ¬ l.getD (i + u) 0 < l.getD a 0 := fun h => ci ⟨c2, h⟩
       simp -implicitDefEqProofs only [go_sem, d1, g3, bnd hal, bnd hil, ea, aO (Q := Q) hil, List.length_map, aY, Int.toNat_natCast, true_and, aT]
       refine aC hC (cQ.p _ _) ?_
       simp -implicitDefEqProofs only [go_sem, cQ.d, decide_eq_false c3])
    | (have d1 : decide (((i + u : Nat) : Int) <= (j : Int)) = false := decide_eq_false (by omega)
       simp -implicitDefEqProofs only [go_sem, d1]))
  all_goals
    first
      | have g7 : a + 1 + t <= i + u := by omega
      | skip
    clear c2 hu wi hbd
    generalize i + u = i at *
    have hjb0 : j < b := g2.2.2.2.1
    have hai0 : a + 1 <= i := g2.2.2.1
    refine aZ hC (fun u (_ : Unit) => [(12, .i ((i : Nat) : Int)), (13, .i ((j - u : Nat) : Int)), (0, .vec k 3 l.length), (1, .i a), (4, .fn (.func cf) [] [])]) (fun u (_ : Unit) h' => u <= j /\ Part a b i (j - u) l /\ h'[k]? = some (.buf 60 3 (l.map (encQ Q))) /\ Keep (fun i _ => i = k) h h') (b - a) ⟨(), _, Wk.pick (by simpa using g4.1) (by simp [go_sem]), Nat.zero_le _, g2, g3, g4⟩ fun u _ h2 hu ⟨g5, g2, g3, g4⟩ => ?_
    have hbd := g2.2.2
    have hju : j - (u + 1) = j - u - 1 := by omega
    have wj : 1 <= j - u -> IntKind.i64.wrap (((j - u : Nat) : Int) - 1) = ((j - u - 1 : Nat) : Int) := fun h => by rw [aF _ (by omega)]; omega
    simp -implicitDefEqProofs only [go_sem]
    by_cases cj : i <= j - u /\ ¬ l.getD (j - u) 0 < l.getD a 0
    · have d1 : decide ((i : Int) <= ((j - u : Nat) : Int)) = true := decide_eq_true (by omega)
      have hjl : j - u < l.length := by omega
      simp -implicitDefEqProofs only [go_sem, d1, g3, bnd hal, bnd hjl, ea, aO (Q := Q) hjl, List.length_map, aY, Int.toNat_natCast, true_and, aT]
      refine aC hC (cQ.p _ _) ?_
      simp -implicitDefEqProofs only [go_sem, cQ.d, decide_eq_false cj.2, Bool.not_false, wj (by omega), hju]
      exact ⟨by omega, (), h2, Wk.pick g4.1 (by simp [go_sem]), by omega, g2.down cj.1 cj.2, g3, g4⟩
    have cii : i <= j - u -> ¬ l.getD i 0 < l.getD a 0 := fun h hh => ci ⟨by omega, hh⟩
    have cjj : i <= j - u -> l.getD (j - u) 0 < l.getD a 0 := fun h => Decidable.of_not_not fun hh => cj ⟨h, hh⟩
    by_cases c2 : i <= j - u
    all_goals (first
      | (have d1 : decide ((i : Int) <= ((j - u : Nat) : Int)) = true := decide_eq_true (by omega)
         have hjl : j - u < l.length := by omega
         have c3 : l.getD (j - u) 0 < l.getD a 0 := Decidable.of_not_not fun h => cj ⟨c2, h⟩
         simp -implicitDefEqProofs only [go_sem, d1, g3, bnd hal, bnd hjl, ea, aO (Q := Q) hjl, List.length_map, aY, Int.toNat_natCast, true_and, aT]
         refine aC hC (cQ.p _ _) ?_
         simp -implicitDefEqProofs only [go_sem, cQ.d, decide_eq_true c3, Bool.not_true])
      | (have d1 : decide ((i : Int) <= ((j - u : Nat) : Int)) = false := decide_eq_false (by omega)
         simp -implicitDefEqProofs only [go_sem, d1]))
    all_goals
      clear c2 hu wj hbd hju g5 ci cj hjb0
      generalize j - u = j at *
      by_cases hij : i <= j
      · have d1 : decide ((i : Int) > (j : Int)) = false := decide_eq_false (by omega)
        have hbd := g2.2.2
        have hil : i < l.length := by omega
        have hjl : j < l.length := by omega
        have wi : IntKind.i64.wrap ((i : Int) + 1) = ((i + 1 : Nat) : Int) := by rw [aF _ (by omega)]; omega
        have wj : IntKind.i64.wrap ((j : Int) - 1) = ((j - 1 : Nat) : Int) := by rw [aF _ (by omega)]; omega
        have p2 := g2.swp hij (cii hij) (cjj hij) (by omega)
        have p1 := g1.trans (SegP.swp (i := i) (j := j) (by omega) (by omega) (by omega))
        have p3 := aL (o := .buf 60 3 ((swp l i j).map (encQ Q))) g3
        have p4 := g4.trans (Keep.set (.buf 60 3 ((swp l i j).map (encQ Q))) g3 rfl)
        simp -implicitDefEqProofs only [go_sem, d1, g3, bnd hil, bnd hjl, aO (Q := Q) hil, aO (Q := Q) hjl, aL g3, bR (Q := Q) hjl, wi, wj, List.length_map, List.length_set, aY, Int.toNat_natCast, true_and, aT, bJ, List.set_set, bO]
        refine aZ hC (fun t (x : List Int × Nat × Nat) => [(12, .i (x.2.1 : Nat)), (13, .i (x.2.2 : Nat)), (0, .vec k 3 l0.length), (1, .i a), (4, .fn (.func cf) [] [])]) (fun t x h' => SegP a b l0 x.1 /\ Part a b x.2.1 x.2.2 x.1 /\ h'[k]? = some (.buf 60 3 (x.1.map (encQ Q))) /\ Keep (fun i _ => i = k) h h' /\ a + 1 + t <= x.2.1) (b - a) ⟨(swp l i j, i + 1, j - 1), _, Wk.pick (by simpa using g4.1) (by simp [go_sem, hlen]), p1, p2, p3, p4, by dsimp only; omega⟩ fun t x h2 ht ⟨g1, g2, g3, g4, g6⟩ => ?_
        clear p1 p2 p3 p4 cii cjj hal ea hlen wi wj hil hjl hbd d1
        obtain ⟨l, i, j⟩ := x
        dsimp only at g1 g2 g3 g6
        have hlen : l0.length = l.length := g1.1.symm
        have hal : a < l.length := by omega
        have ea := aO (Q := Q) hal
        simp only [hlen]
        simp -implicitDefEqProofs only [go_sem]
        refine aZ hC (fun u (_ : Unit) => [(12, .i ((i + u : Nat) : Int)), (13, .i ((j : Nat) : Int)), (0, .vec k 3 l.length), (1, .i a), (4, .fn (.func cf) [] [])]) (fun u (_ : Unit) h' => Part a b (i + u) j l /\ h'[k]? = some (.buf 60 3 (l.map (encQ Q))) /\ Keep (fun i _ => i = k) h h') (b - a) ⟨(), _, Wk.pick (by simpa using g4.1) (by simp [go_sem]), g2, g3, g4⟩ fun u _ h2 hu ⟨g2, g3, g4⟩ => ?_
        have hbd := g2.2.2
        have wi : IntKind.i64.wrap (((i + u : Nat) : Int) + 1) = ((i + (u + 1) : Nat) : Int) := by rw [aF _ (by omega)]; omega
        simp -implicitDefEqProofs only [go_sem]
        by_cases ci : i + u <= j /\ l.getD (i + u) 0 < l.getD a 0
        · have d1 : decide (((i + u : Nat) : Int) <= (j : Int)) = true := decide_eq_true (by omega)
          have hil : i + u < l.length := by omega
          simp -implicitDefEqProofs only [go_sem, d1, g3, bnd hal, bnd hil, ea, aO (Q := Q) hil, List.length_map, aY, Int.toNat_natCast, true_and, aT]
          refine aC hC (cQ.p _ _) ?_
          simp -implicitDefEqProofs only [go_sem, cQ.d, decide_eq_true ci.2, wi]
          exact ⟨by omega, (), h2, Wk.pick g4.1 (by simp [go_sem]), g2.up ci.1 ci.2, g3, g4⟩
        by_cases c2 : i + u <= j
        all_goals (first
          | (have d1 : decide (((i + u : Nat) : Int) <= (j : Int)) = true := decide_eq_true (by omega)
             have hil : i + u < l.length := by omega
             have c3 : ¬ l.getD (i + u) 0 < l.getD a 0 := fun h => ci ⟨c2, h⟩
             simp -implicitDefEqProofs only [go_sem, d1, g3, bnd hal, bnd hil, ea, aO (Q := Q) hil, List.length_map, aY, Int.toNat_natCast, true_and, aT]
             refine aC hC (cQ.p _ _) ?_
             simp -implicitDefEqProofs only [go_sem, cQ.d, decide_eq_false c3])
          | (have d1 : decide (((i + u : Nat) : Int) <= (j : Int)) = false := decide_eq_false (by omega)
             simp -implicitDefEqProofs only [go_sem, d1]))
        all_goals
          first
            | have g7 : a + 1 + t <= i + u := by omega
            | skip
          clear c2 hu wi hbd
          generalize i + u = i at *
          have hjb0 : j < b := g2.2.2.2.1
          have hai0 : a + 1 <= i := g2.2.2.1
          refine aZ hC (fun u (_ : Unit) => [(12, .i ((i : Nat) : Int)), (13, .i ((j - u : Nat) : Int)), (0, .vec k 3 l.length), (1, .i a), (4, .fn (.func cf) [] [])]) (fun u (_ : Unit) h' => u <= j /\ Part a b i (j - u) l /\ h'[k]? = some (.buf 60 3 (l.map (encQ Q))) /\ Keep (fun i _ => i = k) h h') (b - a) ⟨(), _, Wk.pick (by simpa using g4.1) (by simp [go_sem]), Nat.zero_le _, g2, g3, g4⟩ fun u _ h2 hu ⟨g5, g2, g3, g4⟩ => ?_
          have hbd := g2.2.2
          have hju : j - (u + 1) = j - u - 1 := by omega
          have wj : 1 <= j - u -> IntKind.i64.wrap (((j - u : Nat) : Int) - 1) = ((j - u - 1 : Nat) : Int) := fun h => by rw [aF _ (by omega)]; omega
          simp -implicitDefEqProofs only [go_sem]
          by_cases cj : i <= j - u /\ ¬ l.getD (j - u) 0 < l.getD a 0
          · have d1 : decide ((i : Int) <= ((j - u : Nat) : Int)) = true := decide_eq_true (by omega)
            have hjl : j - u < l.length := by omega
            simp -implicitDefEqProofs only [go_sem, d1, g3, bnd hal, bnd hjl, ea, aO (Q := Q) hjl, List.length_map, aY, Int.toNat_natCast, true_and, aT]
            refine aC hC (cQ.p _ _) ?_
            simp -implicitDefEqProofs only [go_sem, cQ.d, decide_eq_false cj.2, Bool.not_false, wj (by omega), hju]
            exact ⟨by omega, (), h2, Wk.pick g4.1 (by simp [go_sem]), by omega, g2.down cj.1 cj.2, g3, g4⟩
          have cii : i <= j - u -> ¬ l.getD i 0 < l.getD a 0 := fun h hh => ci ⟨by omega, hh⟩
          have cjj : i <= j - u -> l.getD (j - u) 0 < l.getD a 0 := fun h => Decidable.of_not_not fun hh => cj ⟨h, hh⟩
          by_cases c2 : i <= j - u
          all_goals (first
            | (have d1 : decide ((i : Int) <= ((j - u : Nat) : Int)) = true := decide_eq_true (by omega)
               have hjl : j - u < l.length := by omega
               have c3 : l.getD (j - u) 0 < l.getD a 0 := Decidable.of_not_not fun h => cj ⟨c2, h⟩
               simp -implicitDefEqProofs only [go_sem, d1, g3, bnd hal, bnd hjl, ea, aO (Q := Q) hjl, List.length_map, aY, Int.toNat_natCast, true_and, aT]
               refine aC hC (cQ.p _ _) ?_
               simp -implicitDefEqProofs only [go_sem, cQ.d, decide_eq_true c3, Bool.not_true])
            | (have d1 : decide ((i : Int) <= ((j - u : Nat) : Int)) = false := decide_eq_false (by omega)
               simp -implicitDefEqProofs only [go_sem, d1]))
          all_goals
            clear c2 hu wj hbd hju g5 ci cj hjb0
            generalize j - u = j at *
            by_cases hij : i <= j
            · have d1 : decide ((i : Int) > (j : Int)) = false := decide_eq_false (by omega)
              have hbd := g2.2.2
              have hil : i < l.length := by omega
              have hjl : j < l.length := by omega
              have wi : IntKind.i64.wrap ((i : Int) + 1) = ((i + 1 : Nat) : Int) := by rw [aF _ (by omega)]; omega
              have wj : IntKind.i64.wrap ((j : Int) - 1) = ((j - 1 : Nat) : Int) := by rw [aF _ (by omega)]; omega
              have p2 := g2.swp hij (cii hij) (cjj hij) (by omega)
              have p1 := g1.trans (SegP.swp (i := i) (j := j) (by omega) (by omega) (by omega))
              have p3 := aL (o := .buf 60 3 ((swp l i j).map (encQ Q))) g3
              have p4 := g4.trans (Keep.set (.buf 60 3 ((swp l i j).map (encQ Q))) g3 rfl)
              simp -implicitDefEqProofs only [go_sem, d1, g3, bnd hil, bnd hjl, aO (Q := Q) hil, aO (Q := Q) hjl, aL g3, bR (Q := Q) hjl, wi, wj, List.length_map, List.length_set, aY, Int.toNat_natCast, true_and, aT, bJ, List.set_set, bO]
              exact ⟨by omega, (swp l i j, i + 1, j - 1), _, Wk.pick (by simpa using g4.1) (by simp [go_sem]), p1, p2, p3, p4, by dsimp only; omega⟩
            · have d1 : decide ((i : Int) > (j : Int)) = true := decide_eq_true (by omega)
              have hjl : j < l.length := by have := g2.2.2.2.1; omega
              simp -implicitDefEqProofs only [go_sem, d1, g3, bnd hal, bnd hjl, ea, aO (Q := Q) hjl, aL g3, bR (Q := Q) hal, List.length_map, List.length_set, aY, Int.toNat_natCast, true_and, aT, bJ, List.set_set, bO]
              refine aS (by simpa using g4.1) ⟨j, _, swp l j a, rfl, g1.trans (SegP.swp (by have := g2.2.2; omega) (by omega) (by omega)), g2.done hij (by omega), aL g3, g4.trans (Keep.set _ g3 rfl)⟩
      · have d1 : decide ((i : Int) > (j : Int)) = true := decide_eq_true (by omega)
        have hjl : j < l.length := by have := g2.2.2.2.1; omega
        simp -implicitDefEqProofs only [go_sem, d1, g3, bnd hal, bnd hjl, ea, aO (Q := Q) hjl, aL g3, bR (Q := Q) hal, List.length_map, List.length_set, aY, Int.toNat_natCast, true_and, aT, bJ, List.set_set, bO]
        refine aS (by simpa using g4.1) ⟨j, _, swp l j a, rfl, g1.trans (SegP.swp (by have := g2.2.2; omega) (by omega) (by omega)), g2.done hij (by omega), aL g3, g4.trans (Keep.set _ g3 rfl)⟩
set_option maxHeartbeats 4000000 in
theorem h269 {Q : Int -> Pr} {cf : FuncId} {cc : Int -> Int -> Int} (cQ : Cmp GL Q cf cc) (l0 : List Int) (a b p : Nat) (hab : a + 1 < b) (hb : b <= l0.length) (hl : l0.length < 2 ^ 24) (hp : a <= p /\ p < b) (k : Nat) (h : List AObj) (hk : h[k]? = some (.buf 60 3 (l0.map (encQ Q)))) :
    Gives (PC GL) 269 [.vec k 3 l0.length, .i a, .i b, .i p, .fn (.func cf) [] []] h fun x h' => ∃ (m : Nat) (l' : List Int), x = .i m /\ SegP a b l0 l' /\ PartedE a b (l0.getD p 0) m l' /\ h'[k]? = some (.buf 60 3 (l'.map (encQ Q))) /\ Keep (fun i _ => i = k) h h' := by
  have w1 : IntKind.i64.wrap ((a : Int) + 1) = ((a + 1 : Nat) : Int) := by rw [aF _ (by omega)]; omega
  have w2 : IntKind.i64.wrap ((b : Int) - 1) = ((b - 1 : Nat) : Int) := by rw [aF _ (by omega)]; omega
  have ha0 : a < l0.length := by omega
  have hp0 : p < l0.length := by omega
  refine k269.gives (by simp) ?_
  simp -implicitDefEqProofs only [go_sem, c269, r269, hk, bnd ha0, bnd hp0, aO (Q := Q) ha0, aO (Q := Q) hp0, aL hk, bR (Q := Q) hp0, w1, w2, List.length_map, List.length_set, aY, Int.toNat_natCast, true_and, aT, bJ, List.set_set, bO]
  have g1 : SegP a b l0 (swp l0 a p) := SegP.swp (by omega) (by omega) hb
  have g3 := aL (o := .buf 60 3 ((swp l0 a p).map (encQ Q))) hk
  have g4 : Keep (fun i _ => i = k) h (h.set k (.buf 60 3 ((swp l0 a p).map (encQ Q)))) := Keep.set _ hk rfl
  have hpv : (swp l0 a p).getD a 0 = l0.getD p 0 := by
    rw [dP ha0 hp0]
    by_cases e : a = p
    · rw [if_pos e, e]
    · rw [if_neg e, if_pos rfl]
  have g2 : PartE a b (l0.getD p 0) (a + 1) (b - 1) (swp l0 a p) := ⟨fun x _ _ => by omega, fun x _ _ => by omega, Nat.le_refl _, by omega, by omega, by omega, hpv⟩
  generalize l0.getD p 0 = pv at g2 ⊢
  refine aZ hC (fun t (x : List Int × Nat × Nat) => [(11, .i (x.2.1 : Nat)), (12, .i (x.2.2 : Nat)), (0, .vec k 3 l0.length), (1, .i a), (4, .fn (.func cf) [] [])]) (fun t x h' => SegP a b l0 x.1 /\ PartE a b pv x.2.1 x.2.2 x.1 /\ h'[k]? = some (.buf 60 3 (x.1.map (encQ Q))) /\ Keep (fun i _ => i = k) h h' /\ a + 1 + t <= x.2.1) (b - a) ⟨(swp l0 a p, a + 1, b - 1), _, Wk.pick g4.1 (by simp [go_sem]), g1, g2, g3, g4, Nat.le_refl _⟩ fun t x h2 ht ⟨g1, g2, g3, g4, g6⟩ => ?_
  obtain ⟨l, i, j⟩ := x
  dsimp only at g1 g2 g3 g6
  have hlen : l0.length = l.length := g1.1.symm
  have hal : a < l.length := by omega
  have ea := aO (Q := Q) hal
  simp only [hlen]
  simp -implicitDefEqProofs only [go_sem]
  refine aZ hC (fun u (_ : Unit) => [(11, .i ((i + u : Nat) : Int)), (12, .i ((j : Nat) : Int)), (0, .vec k 3 l.length), (1, .i a), (4, .fn (.func cf) [] [])]) (fun u (_ : Unit) h' => PartE a b pv (i + u) j l /\ h'[k]? = some (.buf 60 3 (l.map (encQ Q))) /\ Keep (fun i _ => i = k) h h') (b - a) ⟨(), _, Wk.pick (by simpa using g4.1) (by simp [go_sem]), g2, g3, g4⟩ fun u _ h2 hu ⟨g2, g3, g4⟩ => ?_
  have hbd := g2.2.2
  have wi : IntKind.i64.wrap (((i + u : Nat) : Int) + 1) = ((i + (u + 1) : Nat) : Int) := by rw [aF _ (by omega)]; omega
  simp -implicitDefEqProofs only [go_sem]
  by_cases ci : i + u <= j /\ ¬ l.getD a 0 < l.getD (i + u) 0
  · have d1 : decide (((i + u : Nat) : Int) <= (j : Int)) = true := decide_eq_true (by omega)
    have hil : i + u < l.length := by omega
    simp -implicitDefEqProofs only [go_sem, d1, g3, bnd hal, bnd hil, ea, aO (Q := Q) hil, List.length_map, aY, Int.toNat_natCast, true_and, aT]
    refine aC hC (cQ.p _ _) ?_
    simp -implicitDefEqProofs only [go_sem, cQ.d, decide_eq_false ci.2, Bool.not_false, wi]
    exact ⟨by omega, (), h2, Wk.pick g4.1 (by simp [go_sem]), g2.up ci.1 ci.2, g3, g4⟩
  by_cases c2 : i + u <= j
  all_goals (first
    | (have d1 : decide (((i + u : Nat) : Int) <= (j : Int)) = true := decide_eq_true (by omega)
       have hil : i + u < l.length := by omega
       have c3 : l.getD a 0 < l.getD (i + u) 0 := Decidable.of_not_not fun h => ci ⟨c2, h⟩
       simp -implicitDefEqProofs only [go_sem, d1, g3, bnd hal, bnd hil, ea, aO (Q := Q) hil, List.length_map, aY, Int.toNat_natCast, true_and, aT]
       refine aC hC (cQ.p _ _) ?_
       simp -implicitDefEqProofs only [go_sem, cQ.d, decide_eq_true c3, Bool.not_true])
    | (have d1 : decide (((i + u : Nat) : Int) <= (j : Int)) = false := decide_eq_false (by omega)
       simp -implicitDefEqProofs only [go_sem, d1]))
  all_goals
    have g7 : a + 1 + t <= i + u := by omega
    clear c2 hu wi hbd
    generalize i + u = i at *
    have hjb0 : j < b := g2.2.2.2.1
    have hai0 : a + 1 <= i := g2.2.2.1
    refine aZ hC (fun u (_ : Unit) => [(11, .i ((i : Nat) : Int)), (12, .i ((j - u : Nat) : Int)), (0, .vec k 3 l.length), (1, .i a), (4, .fn (.func cf) [] [])]) (fun u (_ : Unit) h' => u <= j /\ PartE a b pv i (j - u) l /\ h'[k]? = some (.buf 60 3 (l.map (encQ Q))) /\ Keep (fun i _ => i = k) h h') (b - a) ⟨(), _, Wk.pick (by simpa using g4.1) (by simp [go_sem]), Nat.zero_le _, g2, g3, g4⟩ fun u _ h2 hu ⟨g5, g2, g3, g4⟩ => ?_
    have hbd := g2.2.2
    have hju : j - (u + 1) = j - u - 1 := by omega
    have wj : 1 <= j - u -> IntKind.i64.wrap (((j - u : Nat) : Int) - 1) = ((j - u - 1 : Nat) : Int) := fun h => by rw [aF _ (by omega)]; omega
    simp -implicitDefEqProofs only [go_sem]
    by_cases cj : i <= j - u /\ l.getD a 0 < l.getD (j - u) 0
    · have d1 : decide ((i : Int) <= ((j - u : Nat) : Int)) = true := decide_eq_true (by omega)
      have hjl : j - u < l.length := by omega
      simp -implicitDefEqProofs only [go_sem, d1, g3, bnd hal, bnd hjl, ea, aO (Q := Q) hjl, List.length_map, aY, Int.toNat_natCast, true_and, aT]
      refine aC hC (cQ.p _ _) ?_
      simp -implicitDefEqProofs only [go_sem, cQ.d, decide_eq_true cj.2, wj (by omega), hju]
      exact ⟨by omega, (), h2, Wk.pick g4.1 (by simp [go_sem]), by omega, g2.down cj.1 cj.2, g3, g4⟩
    have cii : i <= j - u -> l.getD a 0 < l.getD i 0 := fun h => Decidable.of_not_not fun hh => ci ⟨by omega, hh⟩
    have cjj : i <= j - u -> ¬ l.getD a 0 < l.getD (j - u) 0 := fun h hh => cj ⟨h, hh⟩
    by_cases c2 : i <= j - u
    all_goals (first
      | (have d1 : decide ((i : Int) <= ((j - u : Nat) : Int)) = true := decide_eq_true (by omega)
         have hjl : j - u < l.length := by omega
         have c3 : ¬ l.getD a 0 < l.getD (j - u) 0 := fun h => cj ⟨c2, h⟩
         simp -implicitDefEqProofs only [go_sem, d1, g3, bnd hal, bnd hjl, ea, aO (Q := Q) hjl, List.length_map, aY, Int.toNat_natCast, true_and, aT]
         refine aC hC (cQ.p _ _) ?_
         simp -implicitDefEqProofs only [go_sem, cQ.d, decide_eq_false c3])
      | (have d1 : decide ((i : Int) <= ((j - u : Nat) : Int)) = false := decide_eq_false (by omega)
         simp -implicitDefEqProofs only [go_sem, d1]))
    all_goals
      clear c2 hu wj hbd hju g5 ci cj hjb0
      generalize j - u = j at *
      by_cases hij : i <= j
      · have d1 : decide ((i : Int) > (j : Int)) = false := decide_eq_false (by omega)
        have hbd := g2.2.2
        have hil : i < l.length := by omega
        have hjl : j < l.length := by omega
        have wi : IntKind.i64.wrap ((i : Int) + 1) = ((i + 1 : Nat) : Int) := by rw [aF _ (by omega)]; omega
        have wj : IntKind.i64.wrap ((j : Int) - 1) = ((j - 1 : Nat) : Int) := by rw [aF _ (by omega)]; omega
        have p2 := g2.swp hij (cii hij) (cjj hij) (by omega)
        have p1 := g1.trans (SegP.swp (i := i) (j := j) (by omega) (by omega) (by omega))
        have p3 := aL (o := .buf 60 3 ((swp l i j).map (encQ Q))) g3
        have p4 := g4.trans (Keep.set (.buf 60 3 ((swp l i j).map (encQ Q))) g3 rfl)
        simp -implicitDefEqProofs only [go_sem, d1, g3, bnd hil, bnd hjl, aO (Q := Q) hil, aO (Q := Q) hjl, aL g3, bR (Q := Q) hjl, wi, wj, List.length_map, List.length_set, aY, Int.toNat_natCast, true_and, aT, bJ, List.set_set, bO]
        exact ⟨by omega, (swp l i j, i + 1, j - 1), _, Wk.pick (by simpa using g4.1) (by simp [go_sem]), p1, p2, p3, p4, by dsimp only; omega⟩
      · have d1 : decide ((i : Int) > (j : Int)) = true := decide_eq_true (by omega)
        simp -implicitDefEqProofs only [go_sem, d1]
        have hbd := g2.2.2
        exact aS g4.1 ⟨i, l, rfl, g1, g2.done hij, g3, g4⟩
set_option maxHeartbeats 4000000 in
theorem h268 {Q : Int -> Pr} {cf : FuncId} {cc : Int -> Int -> Int} (cQ : Cmp GL Q cf cc) (l0 : List Int) (a b : Nat) (hab : a + 12 < b) (hb : b <= l0.length) (hl : l0.length < 2 ^ 24) (hlow : Low a b l0) (k : Nat) (h : List AObj) (hk : h[k]? = some (.buf 60 3 (l0.map (encQ Q)))) :
    Gives (PC GL) 268 [.vec k 3 l0.length, .i a, .i b, .fn (.func cf) [] []] h fun x h' => ∃ (z : Bool) (l' : List Int), x = .b z /\ SegP a b l0 l' /\ (z = true -> Srt a b l') /\ h'[k]? = some (.buf 60 3 (l'.map (encQ Q))) /\ Keep (fun i _ => i = k) h h' := by
  have w1 : IntKind.i64.wrap ((a : Int) + 1) = ((a + 1 : Nat) : Int) := by rw [aF _ (by omega)]; omega
  refine k268.gives (by simp) ?_
  simp -implicitDefEqProofs only [go_sem, c268, r268, w1]
  refine aZ hC (fun t (x : List Int × Nat) => [(10, .i (t : Nat)), (9, .i (x.2 : Nat)), (0, .vec k 3 l0.length), (1, .i a), (2, .i b), (3, .fn (.func cf) [] [])]) (fun t x h' => SegP a b l0 x.1 /\ h'[k]? = some (.buf 60 3 (x.1.map (encQ Q))) /\ Keep (fun i _ => i = k) h h' /\ Srt a x.2 x.1 /\ a + 1 <= x.2 /\ x.2 <= b) 5 ⟨(l0, a + 1), h, Wk.pick (Nat.le_refl _) (by simp [go_sem]), SegP.refl _ _ _, hk, Keep.refl _ _, fun p q _ _ _ => by omega, Nat.le_refl _, by dsimp only; omega⟩ fun t x h1 ht ⟨g1, g3, g4, g5, g6, g7⟩ => ?_
  obtain ⟨l, i⟩ := x
  dsimp only at g1 g3 g5 g6 g7
  have hlen : l0.length = l.length := g1.1.symm
  have wt : IntKind.i64.wrap ((t : Int) + 1) = ((t + 1 : Nat) : Int) := by rw [aF _ (by omega)]; omega
  simp only [hlen]
  simp -implicitDefEqProofs only [go_sem]
  by_cases ht5 : t < 5
  · have d0 : decide ((t : Int) < 5) = true := decide_eq_true (by omega)
    simp -implicitDefEqProofs only [go_sem, d0]
    refine aZ hC (fun u (_ : Unit) => [(9, .i ((i + u : Nat) : Int)), (10, .i (t : Nat)), (0, .vec k 3 l.length), (1, .i a), (2, .i b), (3, .fn (.func cf) [] [])]) (fun u (_ : Unit) h' => h'[k]? = some (.buf 60 3 (l.map (encQ Q))) /\ Keep (fun i _ => i = k) h h' /\ Srt a (i + u) l /\ i + u <= b) (b - i) ⟨(), h1, Wk.pick g4.1 (by simp [go_sem]), g3, g4, g5, g7⟩ fun u _ h2 hu ⟨g3, g4, g5, g7⟩ => ?_
    have wi : IntKind.i64.wrap (((i + u : Nat) : Int) + 1) = ((i + (u + 1) : Nat) : Int) := by rw [aF _ (by omega)]; omega
    have wi1 : IntKind.i64.wrap (((i + u : Nat) : Int) - 1) = ((i + u - 1 : Nat) : Int) := by rw [aF _ (by omega)]; omega
    have hi1l : i + u - 1 < l.length := by omega
    simp -implicitDefEqProofs only [go_sem]
    by_cases c1 : i + u < b /\ ¬ l.getD (i + u) 0 < l.getD (i + u - 1) 0
    · have d1 : decide (((i + u : Nat) : Int) < (b : Int)) = true := decide_eq_true (by omega)
      have hil : i + u < l.length := by omega
      simp -implicitDefEqProofs only [go_sem, d1, wi1, g3, bnd hil, bnd hi1l, aO (Q := Q) hil, aO (Q := Q) hi1l, List.length_map, aY, Int.toNat_natCast, true_and, aT]
      refine aC hC (cQ.p _ _) ?_
      simp -implicitDefEqProofs only [go_sem, cQ.d, decide_eq_false c1.2, Bool.not_false, wi]
      exact ⟨by omega, (), h2, Wk.pick g4.1 (by simp [go_sem]), g3, g4, g5.grow (by omega) c1.2, by omega⟩
    by_cases c2 : i + u < b
    · have d1 : decide (((i + u : Nat) : Int) < (b : Int)) = true := decide_eq_true (by omega)
      have hil : i + u < l.length := by omega
      have c3 : l.getD (i + u) 0 < l.getD (i + u - 1) 0 := Decidable.of_not_not fun h => c1 ⟨c2, h⟩
      have de : (((i + u : Nat) : Int) == (b : Int)) = false := by simp; omega
      have wba : IntKind.i64.wrap ((b : Int) - (a : Int)) = ((b - a : Nat) : Int) := by rw [aF _ (by omega)]; omega
      simp -implicitDefEqProofs only [go_sem, d1, wi1, g3, bnd hil, bnd hi1l, aO (Q := Q) hil, aO (Q := Q) hi1l, List.length_map, aY, Int.toNat_natCast, true_and, aT]
      refine aC hC (cQ.p _ _) ?_
      simp -implicitDefEqProofs only [go_sem, cQ.d, decide_eq_true c3, Bool.not_true, de, wba]
      by_cases h50 : b - a < 50
      · have d5 : decide (((b - a : Nat) : Int) < 50) = true := decide_eq_true (by omega)
        simp -implicitDefEqProofs only [go_sem, d5]
        exact aS g4.1 ⟨false, l, rfl, g1, (fun h => nomatch h), g3, g4⟩
      have d5 : decide (((b - a : Nat) : Int) < 50) = false := decide_eq_false (by omega)
      simp -implicitDefEqProofs only [go_sem, d5, wi1, g3, bnd hil, bnd hi1l, aO (Q := Q) hil, aO (Q := Q) hi1l, aL g3, bR (Q := Q) hi1l, List.length_map, List.length_set, aY, Int.toNat_natCast, true_and, aT, bJ, List.set_set, bO]
      have s1 : SegP a b l (swp l (i + u) (i + u - 1)) := SegP.swp (by omega) (by omega) (by omega)
      have lo1 := ((hlow.seg g1 hb).seg s1 (by omega))
      have q1 := g1.trans s1
      have q3 := aL (o := .buf 60 3 ((swp l (i + u) (i + u - 1)).map (encQ Q))) g3
      have q4 := g4.trans (Keep.set (.buf 60 3 ((swp l (i + u) (i + u - 1)).map (encQ Q))) g3 rfl)
      have q5 : SrtBut a (i + u) (i + u - 1) (swp l (i + u) (i + u - 1)) := fun p q hp hpq hq hne => by
        have g := dP (l := l) (i := i + u) (j := i + u - 1) (by omega) (by omega)
        rw [g, g, if_neg (by omega), if_neg (by omega), if_neg (by omega), if_neg (by omega)]
        exact g5 p q hp hpq (by omega)
      have hea : a + 1 <= i + u := by omega
      clear g1 g3 g4 g5 hi1l c3 hil c1 de d1 wi s1
      generalize i + u = e at *
      generalize hl1 : swp l e (e - 1) = l1 at *
      have hlen1 : l.length = l1.length := by rw [<- hl1, eA]
      generalize h2.set k (.buf 60 3 (l1.map (encQ Q))) = h3 at *
      have wea : IntKind.i64.wrap ((e : Int) - (a : Int)) = ((e - a : Nat) : Int) := by rw [aF _ (by omega)]; omega
      have wbe : IntKind.i64.wrap ((b : Int) - (e : Int)) = ((b - e : Nat) : Int) := by rw [aF _ (by omega)]; omega
      have we1 : IntKind.i64.wrap ((e : Int) + 1) = ((e + 1 : Nat) : Int) := by rw [aF _ (by omega)]; omega
      simp only [hlen1]
      rw [wea]
      clear hl1 hlen1 hlen
      have hlen : l0.length = l1.length := q1.1.symm
      by_cases h2a : e - a >= 2
      · have d6 : decide (((e - a : Nat) : Int) >= 2) = true := decide_eq_true (by omega)
        simp -implicitDefEqProofs only [go_sem, d6, wi1]
        refine aZ hC (fun v (_ : List Int) => [(11, .i ((e - 1 - v : Nat) : Int)), (9, .i (e : Nat)), (10, .i (t : Nat)), (0, .vec k 3 l1.length), (1, .i a), (2, .i b), (3, .fn (.func cf) [] [])]) (fun v m h' => SegP a b l0 m /\ Low a b m /\ h'[k]? = some (.buf 60 3 (m.map (encQ Q))) /\ Keep (fun i _ => i = k) h h' /\ SrtBut a e (e - 1 - v) m /\ a + v <= e - 1) (e - 1 - a) ⟨l1, h3, Wk.pick q4.1 (by simp [go_sem]), q1, lo1, q3, q4, q5, by omega⟩ fun v m h4 hv ⟨r1, r2, r3, r4, r5, r6⟩ => ?_
        have hlen2 : l1.length = m.length := by rw [<- hlen]; exact r1.1.symm
        simp only [hlen2]
        simp -implicitDefEqProofs only [go_sem]
        obtain ⟨j, hj⟩ : ∃ j, j = e - 1 - v := ⟨_, rfl⟩
        have hju : e - 1 - (v + 1) = j - 1 := by omega
        simp only [<- hj, hju] at r5 ⊢
        have hjl : j < m.length := by have := r1.1; omega
        have hj1l : j - 1 < m.length := by omega
        have hje : j < e := by omega
        have wj : 1 <= j -> IntKind.i64.wrap ((j : Int) - 1) = ((j - 1 : Nat) : Int) := fun h => by rw [aF _ (by omega)]; omega
        have hml : m.length = l0.length := r1.1
        by_cases cj : 1 <= j /\ m.getD j 0 < m.getD (j - 1) 0
        · have haj : a < j := by
            rcases r2 with r2 | r2
            · omega
            · by_cases e2 : j = a
              · have := r2 a (Nat.le_refl _) (by omega)
                rw [e2] at cj
                omega
              · omega
          have d7 : decide ((j : Int) >= 1) = true := decide_eq_true (by omega)
          have wj := wj cj.1
          have s1 : SegP a b m (swp m j (j - 1)) := SegP.swp (by omega) (by omega) (by omega)
          simp -implicitDefEqProofs only [go_sem, d7, wj, r3, bnd hjl, bnd hj1l, aO (Q := Q) hjl, aO (Q := Q) hj1l, List.length_map, aY, Int.toNat_natCast, true_and, aT]
          refine aC hC (cQ.p _ _) ?_
          simp -implicitDefEqProofs only [go_sem, cQ.d, decide_eq_true cj.2, Bool.not_true, wj, r3, bnd hjl, bnd hj1l, aO (Q := Q) hjl, aO (Q := Q) hj1l, aL r3, bR (Q := Q) hj1l, List.length_map, List.length_set, aY, Int.toNat_natCast, true_and, aT, bJ, List.set_set, bO]
          exact ⟨by omega, swp m j (j - 1), _, Wk.pick (by simpa using r4.1) (by simp [go_sem]), r1.trans s1, r2.seg s1 (by omega), aL r3, r4.trans (Keep.set _ r3 rfl), r5.swp haj hje (by omega) cj.2, by omega⟩
        have r7 : Srt a e m := r5.all fun haj hlt => cj ⟨by omega, hlt⟩
        by_cases c4 : 1 <= j
        all_goals (first
          | (have d7 : decide ((j : Int) >= 1) = true := decide_eq_true (by omega)
             have c5 : ¬ m.getD j 0 < m.getD (j - 1) 0 := fun h => cj ⟨c4, h⟩
             have wj := wj c4
             simp -implicitDefEqProofs only [go_sem, d7, wj, r3, bnd hjl, bnd hj1l, aO (Q := Q) hjl, aO (Q := Q) hj1l, List.length_map, aY, Int.toNat_natCast, true_and, aT]
             refine aC hC (cQ.p _ _) ?_
             simp -implicitDefEqProofs only [go_sem, cQ.d, decide_eq_false c5, Bool.not_false])
          | (have d7 : decide ((j : Int) >= 1) = false := decide_eq_false (by omega)
             simp -implicitDefEqProofs only [go_sem, d7]))
        all_goals
          clear cj hjl hj1l wj r5 r2 c4 hj hju
          have hme : m.length = l0.length := r1.1
          by_cases h2b : b - e >= 2
          · have d7 : decide (((b - e : Nat) : Int) >= 2) = true := decide_eq_true (by omega)
            simp -implicitDefEqProofs only [go_sem, d7, wbe, we1]
            refine aZ hC (fun v (_ : List Int) => [(12, .i ((e + 1 + v : Nat) : Int)), (9, .i (e : Nat)), (10, .i (t : Nat)), (0, .vec k 3 m.length), (1, .i a), (2, .i b), (3, .fn (.func cf) [] [])]) (fun v m' h' => SegP e b m m' /\ h'[k]? = some (.buf 60 3 (m'.map (encQ Q))) /\ Keep (fun i _ => i = k) h h') (b - (e + 1)) ⟨m, h4, Wk.pick r4.1 (by simp [go_sem]), SegP.refl _ _ _, r3, r4⟩ fun v m2 h5 hv ⟨s1, s3, s4⟩ => ?_
            have hlen3 : m.length = m2.length := s1.1.symm
            have wv : IntKind.i64.wrap (((e + 1 + v : Nat) : Int) + 1) = ((e + 1 + (v + 1) : Nat) : Int) := by rw [aF _ (by omega)]; omega
            have wv1 : IntKind.i64.wrap (((e + 1 + v : Nat) : Int) - 1) = ((e + v : Nat) : Int) := by rw [aF _ (by omega)]; omega
            simp only [hlen3]
            simp -implicitDefEqProofs only [go_sem]
            by_cases ck : e + 1 + v < b /\ m2.getD (e + 1 + v) 0 < m2.getD (e + v) 0
            · have d8 : decide (((e + 1 + v : Nat) : Int) < (b : Int)) = true := decide_eq_true (by omega)
              have hxl : e + 1 + v < m2.length := by omega
              have hyl : e + v < m2.length := by omega
              simp -implicitDefEqProofs only [go_sem, d8, wv1, s3, bnd hxl, bnd hyl, aO (Q := Q) hxl, aO (Q := Q) hyl, List.length_map, aY, Int.toNat_natCast, true_and, aT]
              refine aC hC (cQ.p _ _) ?_
              simp -implicitDefEqProofs only [go_sem, cQ.d, decide_eq_true ck.2, Bool.not_true, wv1, s3, bnd hxl, bnd hyl, aO (Q := Q) hxl, aO (Q := Q) hyl, aL s3, bR (Q := Q) hyl, wv, List.length_map, List.length_set, aY, Int.toNat_natCast, true_and, aT, bJ, List.set_set, bO]
              exact ⟨by omega, swp m2 (e + 1 + v) (e + v), _, Wk.pick (by simpa using s4.1) (by simp [go_sem]), s1.trans (SegP.swp (by omega) (by omega) (by omega)), aL s3, s4.trans (Keep.set _ s3 rfl)⟩
            by_cases c4 : e + 1 + v < b
            all_goals (first
              | (have d8 : decide (((e + 1 + v : Nat) : Int) < (b : Int)) = true := decide_eq_true (by omega)
                 have hxl : e + 1 + v < m2.length := by omega
                 have hyl : e + v < m2.length := by omega
                 have c5 : ¬ m2.getD (e + 1 + v) 0 < m2.getD (e + v) 0 := fun h => ck ⟨c4, h⟩
                 simp -implicitDefEqProofs only [go_sem, d8, wv1, s3, bnd hxl, bnd hyl, aO (Q := Q) hxl, aO (Q := Q) hyl, List.length_map, aY, Int.toNat_natCast, true_and, aT]
                 refine aC hC (cQ.p _ _) ?_
                 simp -implicitDefEqProofs only [go_sem, cQ.d, decide_eq_false c5, Bool.not_false, wt])
              | (have d8 : decide (((e + 1 + v : Nat) : Int) < (b : Int)) = false := decide_eq_false (by omega)
                 simp -implicitDefEqProofs only [go_sem, d8, wt]))
            all_goals
              exact ⟨ht5, (m2, e), h5, Wk.pick s4.1 (by simp [go_sem]), r1.trans (s1.mono (by omega) (Nat.le_refl _)), s3, s4, r7.seg s1 (Nat.le_refl _), hea, g7⟩
          · have d7 : decide (((b - e : Nat) : Int) >= 2) = false := decide_eq_false (by omega)
            simp -implicitDefEqProofs only [go_sem, d7, wbe, wt]
            exact ⟨ht5, (m, e), h4, Wk.pick r4.1 (by simp [go_sem]), r1, r3, r4, r7, hea, g7⟩
      · have d6 : decide (((e - a : Nat) : Int) >= 2) = false := decide_eq_false (by omega)
        simp -implicitDefEqProofs only [go_sem, d6]
        have r7 : Srt a e l1 := fun p q _ _ _ => by omega
        have r1 := q1
        have r3 := q3
        have r4 := q4
        clear q1 q3 q4 q5 lo1
        generalize l1 = m at *
        generalize h3 = h4 at *
        have hme : m.length = l0.length := r1.1
        by_cases h2b : b - e >= 2
        · have d7 : decide (((b - e : Nat) : Int) >= 2) = true := decide_eq_true (by omega)
          simp -implicitDefEqProofs only [go_sem, d7, wbe, we1]
          refine aZ hC (fun v (_ : List Int) => [(12, .i ((e + 1 + v : Nat) : Int)), (9, .i (e : Nat)), (10, .i (t : Nat)), (0, .vec k 3 m.length), (1, .i a), (2, .i b), (3, .fn (.func cf) [] [])]) (fun v m' h' => SegP e b m m' /\ h'[k]? = some (.buf 60 3 (m'.map (encQ Q))) /\ Keep (fun i _ => i = k) h h') (b - (e + 1)) ⟨m, h4, Wk.pick r4.1 (by simp [go_sem]), SegP.refl _ _ _, r3, r4⟩ fun v m2 h5 hv ⟨s1, s3, s4⟩ => ?_
          have hlen3 : m.length = m2.length := s1.1.symm
          have wv : IntKind.i64.wrap (((e + 1 + v : Nat) : Int) + 1) = ((e + 1 + (v + 1) : Nat) : Int) := by rw [aF _ (by omega)]; omega
          have wv1 : IntKind.i64.wrap (((e + 1 + v : Nat) : Int) - 1) = ((e + v : Nat) : Int) := by rw [aF _ (by omega)]; omega
          simp only [hlen3]
          simp -implicitDefEqProofs only [go_sem]
          by_cases ck : e + 1 + v < b /\ m2.getD (e + 1 + v) 0 < m2.getD (e + v) 0
          · have d8 : decide (((e + 1 + v : Nat) : Int) < (b : Int)) = true := decide_eq_true (by omega)
            have hxl : e + 1 + v < m2.length := by omega
            have hyl : e + v < m2.length := by omega
            simp -implicitDefEqProofs only [go_sem, d8, wv1, s3, bnd hxl, bnd hyl, aO (Q := Q) hxl, aO (Q := Q) hyl, List.length_map, aY, Int.toNat_natCast, true_and, aT]
            refine aC hC (cQ.p _ _) ?_
            simp -implicitDefEqProofs only [go_sem, cQ.d, decide_eq_true ck.2, Bool.not_true, wv1, s3, bnd hxl, bnd hyl, aO (Q := Q) hxl, aO (Q := Q) hyl, aL s3, bR (Q := Q) hyl, wv, List.length_map, List.length_set, aY, Int.toNat_natCast, true_and, aT, bJ, List.set_set, bO]
            exact ⟨by omega, swp m2 (e + 1 + v) (e + v), _, Wk.pick (by simpa using s4.1) (by simp [go_sem]), s1.trans (SegP.swp (by omega) (by omega) (by omega)), aL s3, s4.trans (Keep.set _ s3 rfl)⟩
          by_cases c4 : e + 1 + v < b
          all_goals (first
            | (have d8 : decide (((e + 1 + v : Nat) : Int) < (b : Int)) = true := decide_eq_true (by omega)
               have hxl : e + 1 + v < m2.length := by omega
               have hyl : e + v < m2.length := by omega
               have c5 : ¬ m2.getD (e + 1 + v) 0 < m2.getD (e + v) 0 := fun h => ck ⟨c4, h⟩
               simp -implicitDefEqProofs only [go_sem, d8, wv1, s3, bnd hxl, bnd hyl, aO (Q := Q) hxl, aO (Q := Q) hyl, List.length_map, aY, Int.toNat_natCast, true_and, aT]
               refine aC hC (cQ.p _ _) ?_
               simp -implicitDefEqProofs only [go_sem, cQ.d, decide_eq_false c5, Bool.not_false, wt])
            | (have d8 : decide (((e + 1 + v : Nat) : Int) < (b : Int)) = false := decide_eq_false (by omega)
               simp -implicitDefEqProofs only [go_sem, d8, wt]))
          all_goals
            exact ⟨ht5, (m2, e), h5, Wk.pick s4.1 (by simp [go_sem]), r1.trans (s1.mono (by omega) (Nat.le_refl _)), s3, s4, r7.seg s1 (Nat.le_refl _), hea, g7⟩
        · have d7 : decide (((b - e : Nat) : Int) >= 2) = false := decide_eq_false (by omega)
          simp -implicitDefEqProofs only [go_sem, d7, wbe, wt]
          exact ⟨ht5, (m, e), h4, Wk.pick r4.1 (by simp [go_sem]), r1, r3, r4, r7, hea, g7⟩
    · have d1 : decide (((i + u : Nat) : Int) < (b : Int)) = false := decide_eq_false (by omega)
      have de : (((i + u : Nat) : Int) == (b : Int)) = true := by simp; omega
      simp -implicitDefEqProofs only [go_sem, d1, de]
      exact aS g4.1 ⟨true, l, rfl, g1, fun _ p q hp hpq hq => g5 p q hp hpq (by omega), g3, g4⟩
  · have d0 : decide ((t : Int) < 5) = false := decide_eq_false (by omega)
    simp -implicitDefEqProofs only [go_sem, d0]
    exact aS g4.1 ⟨false, l, rfl, g1, (fun h => nomatch h), g3, g4⟩
set_option maxHeartbeats 4000000 in
theorem h238 {Q : Int -> Pr} {cf : FuncId} {cc : Int -> Int -> Int} (cQ : Cmp GL Q cf cc) (n : Nat) : ∀ (l0 : List Int) (a b : Nat) (lim : Int), b - a = n -> a <= b -> b <= l0.length -> l0.length < 2 ^ 24 -> Low a b l0 -> ∀ (k : Nat) (h : List AObj), h[k]? = some (.buf 60 3 (l0.map (encQ Q))) ->
  Gives (PC GL) 238 [.vec k 3 l0.length, .i a, .i b, .i lim, .fn (.func cf) [] []] h fun _ h' => ∃ l', SegP a b l0 l' /\ Srt a b l' /\ h'[k]? = some (.buf 60 3 (l'.map (encQ Q))) /\ Keep (fun i _ => i = k) h h' := by
 induction n using Nat.strongRecOn with
 | _ n ih =>
 intro l0 a b lim hn hab hb hl hlow k h hk
 refine k238.gives (by simp) ?_
 simp -implicitDefEqProofs only [go_sem, c238, r238]
 refine aZ hC (fun t (x : List Int × Nat × Nat × Int × Bool × Bool) => [(1, .i (x.2.1 : Nat)), (2, .i (x.2.2.1 : Nat)), (3, .i x.2.2.2.1), (10, .b x.2.2.2.2.1), (11, .b x.2.2.2.2.2), (0, .vec k 3 l0.length), (4, .fn (.func cf) [] [])]) (fun t x h' => SegP a b l0 x.1 /\ Sep a b x.2.1 x.2.2.1 x.1 /\ h'[k]? = some (.buf 60 3 (x.1.map (encQ Q))) /\ Keep (fun i _ => i = k) h h' /\ Low x.2.1 x.2.2.1 x.1 /\ (a <= x.2.1 /\ x.2.1 <= x.2.2.1 /\ x.2.2.1 <= b) /\ x.2.2.1 - x.2.1 + t <= n) n ⟨(l0, a, b, lim, true, true), h, Wk.pick (Nat.le_refl _) (by simp [go_sem]), SegP.refl _ _ _, Sep.start _ _ _, hk, Keep.refl _ _, hlow, ⟨Nat.le_refl _, hab, Nat.le_refl _⟩, by dsimp only; omega⟩ fun t x h1 ht ⟨g1, g2, g3, g4, g5, g6, g7⟩ => ?_
 obtain ⟨l, a1, b1, lm, wb, wp⟩ := x
 dsimp only at g1 g2 g3 g5 g6 g7
 obtain ⟨ha1, hab1, hb1⟩ := g6
 have hlen : l0.length = l.length := g1.1.symm
 obtain ⟨L, hL⟩ : ∃ L : Nat, L = b1 - a1 := ⟨_, rfl⟩
 have wL : IntKind.i64.wrap ((b1 : Int) - (a1 : Int)) = (L : Int) := by rw [aF _ (by omega)]; omega
 simp only [hlen]
 simp -implicitDefEqProofs only [go_sem, wL]
 by_cases h12 : L <= 12
 ·have d0 : decide ((L : Int) <= 12) = true := decide_eq_true (by omega)
  simp -implicitDefEqProofs only [go_sem, d0]
  refine aR hC (h263 cQ l a1 b1 (by omega) (by omega) k h1 g3 (by omega)) fun x h2 ⟨l2, s1, s2, b3, k1⟩ => ?_
  simp -implicitDefEqProofs only [go_sem]
  exact aS (g4.trans k1).1 ⟨l2, g1.trans (s1.mono ha1 hb1), (g2.seg s1 ha1 hb1 (by omega)).done s2, b3, g4.trans k1⟩
 have d0 : decide ((L : Int) <= 12) = false := decide_eq_false (by omega)
 by_cases hlm : lm = 0
 ·have d1 : (lm == 0) = true := by simpa using hlm
  simp -implicitDefEqProofs only [go_sem, d0, d1]
  refine aR hC (h264 cQ l a1 b1 (by omega) (by omega) (by omega) k h1 g3) fun x h2 ⟨l2, s1, s2, b3, k1⟩ => ?_
  simp -implicitDefEqProofs only [go_sem]
  exact aS (g4.trans k1).1 ⟨l2, g1.trans (s1.mono ha1 hb1), (g2.seg s1 ha1 hb1 (by omega)).done s2, b3, g4.trans k1⟩
 have d1 : (lm == 0) = false := by simpa using hlm
 simp -implicitDefEqProofs only [go_sem, d0, d1]
 rcases (Bool.eq_false_or_eq_true wb).symm with hwb | hwb
 focus
  simp -implicitDefEqProofs only [go_sem, hwb, Bool.not_false]
  refine aR hC (h265 cQ l a1 b1 (by omega) (by omega) (by omega) k h1 g3) fun x h2 ⟨l2, s1, b3, k1⟩ => ?_
  have g1' := g1.trans (s1.mono ha1 hb1)
  have g2' := g2.seg s1 ha1 hb1 (by omega)
  have g5' := g5.seg s1 (by omega)
  have g4' := g4.trans k1
  have hlen' := hlen.trans s1.1.symm
  have hlen2 : l.length = l2.length := s1.1.symm
  simp only [hlen2]
  clear g1 g2 g3 g4 g5 hlen hlen2 s1 k1
  have g1 := g1'
  have g2 := g2'
  have g3 := b3
  have g4 := g4'
  have g5 := g5'
  have hlen := hlen'
  clear g1' g2' g4' g5' b3 hlen'
  generalize l2 = l at *
  generalize h2 = h1 at *
  simp -implicitDefEqProofs only [go_sem]
  generalize IntKind.i64.wrap (lm - 1) = lm
 rotate_left
 focus simp -implicitDefEqProofs only [go_sem, hwb, Bool.not_true]
 all_goals
  refine aR hC (h266 cQ l a1 b1 (by omega) (by omega) (by omega) k h1 g3) fun x h2 ⟨p, z, hx, hp, k1⟩ => ?_
  subst hx
  have g4' := g4.trans k1.of_all
  have g3' := k1.got g3
  clear g3 g4 k1
  have g3 := g3'
  have g4 := g4'
  clear g3' g4'
  generalize h2 = h1 at *
  by_cases hz : z = 2
  focus
   have dz : (z == 2) = true := by simpa using hz
   simp -implicitDefEqProofs only [go_sem, dz]
   refine aR hC (h267 cQ l a1 b1 (by omega) (by omega) (by omega) k h1 g3) fun x h2 ⟨l2, s1, b3, k1⟩ => ?_
   have g1' := g1.trans (s1.mono ha1 hb1)
   have g2' := g2.seg s1 ha1 hb1 (by omega)
   have g5' := g5.seg s1 (by omega)
   have g4' := g4.trans k1
   have hlen' := hlen.trans s1.1.symm
   have hlen2 : l.length = l2.length := s1.1.symm
   simp only [hlen2]
   clear g1 g2 g3 g4 g5 hlen hlen2 s1 k1
   have g1 := g1'
   have g2 := g2'
   have g3 := b3
   have g4 := g4'
   have g5 := g5'
   have hlen := hlen'
   clear g1' g2' g4' g5' b3 hlen'
   generalize l2 = l at *
   generalize h2 = h1 at *
   obtain ⟨p2, hp2⟩ : ∃ p2 : Nat, p2 = b1 - 1 - (p - a1) := ⟨_, rfl⟩
   have wp1 : IntKind.i64.wrap ((b1 : Int) - 1) = ((b1 - 1 : Nat) : Int) := by rw [aF _ (by omega)]; omega
   have wp2 : IntKind.i64.wrap ((p : Int) - (a1 : Int)) = ((p - a1 : Nat) : Int) := by rw [aF _ (by omega)]; omega
   have wp3 : IntKind.i64.wrap (((b1 - 1 : Nat) : Int) - ((p - a1 : Nat) : Int)) = (p2 : Int) := by rw [aF _ (by omega)]; omega
   simp -implicitDefEqProofs only [go_sem, wp1, wp2, wp3]
   have hp' : a1 <= p2 /\ p2 < b1 := by omega
   clear hp2 wp1 wp2 wp3 hp
   have hp := hp'
   clear hp'
   generalize p2 = p at *
  rotate_left
  focus
   have dz : (z == 2) = false := by simpa using hz
   simp -implicitDefEqProofs only [go_sem, dz]
  all_goals rcases (Bool.eq_false_or_eq_true wp).symm with hwp | hwp
  all_goals try simp -implicitDefEqProofs only [go_sem, hwp]
  all_goals try (rcases hz1 : z == 1 with _ | _ <;> simp -implicitDefEqProofs only [go_sem])
  all_goals try simp -implicitDefEqProofs only [go_sem, show ((1 : Int) == 1) = true from rfl]
  all_goals try
   refine aR hC (h268 cQ l a1 b1 (by omega) (by omega) (by omega) g5 k h1 g3) fun x h2 ⟨z2, l2, hx, s1, s2, b3, k1⟩ => ?_
   subst hx
   cases z2
   focus
    simp -implicitDefEqProofs only [go_sem]
    have g1' := g1.trans (s1.mono ha1 hb1)
    have g2' := g2.seg s1 ha1 hb1 (by omega)
    have g5' := g5.seg s1 (by omega)
    have g4' := g4.trans k1
    have hlen' := hlen.trans s1.1.symm
    have hlen2 : l.length = l2.length := s1.1.symm
    simp only [hlen2]
    clear g1 g2 g3 g4 g5 hlen hlen2 s1 k1
    have g1 := g1'
    have g2 := g2'
    have g3 := b3
    have g4 := g4'
    have g5 := g5'
    have hlen := hlen'
    clear g1' g2' g4' g5' b3 hlen'
    generalize l2 = l at *
    generalize h2 = h1 at *
   rotate_left
   focus
    simp -implicitDefEqProofs only [go_sem]
    exact aS (g4.trans k1).1 ⟨l2, g1.trans (s1.mono ha1 hb1), (g2.seg s1 ha1 hb1 (by omega)).done (s2 rfl), b3, g4.trans k1⟩
  all_goals
   by_cases ha0 : a1 = 0
   ·have d7 : decide ((a1 : Int) > 0) = false := decide_eq_false (by omega)
    simp -implicitDefEqProofs only [go_sem, d7]
    refine aR hC (h270 cQ l a1 b1 p (by omega) (by omega) (by omega) hp k h1 g3) fun x h2 ⟨m, z3, l2, hx, s1, hpt, b3, k1⟩ => ?_
    subst hx
    have g1' := g1.trans (s1.mono ha1 hb1)
    have g2' := g2.seg s1 ha1 hb1 (by omega)
    have g5' := g5.seg s1 (by omega)
    have g4' := g4.trans k1
    have hlen' := hlen.trans s1.1.symm
    have hlen2 : l.length = l2.length := s1.1.symm
    simp only [hlen2]
    clear g1 g2 g3 g4 g5 hlen hlen2 s1 k1
    have g1 := g1'
    have g2 := g2'
    have g3 := b3
    have g4 := g4'
    have g5 := g5'
    have hlen := hlen'
    clear g1' g2' g4' g5' b3 hlen'
    generalize l2 = l at *
    generalize h2 = h1 at *
    have hm := hpt.1
    have w14 : IntKind.i64.wrap ((m : Int) - (a1 : Int)) = ((m - a1 : Nat) : Int) := by rw [aF _ (by omega)]; omega
    have w15 : IntKind.i64.wrap ((b1 : Int) - (m : Int)) = ((b1 - m : Nat) : Int) := by rw [aF _ (by omega)]; omega
    have w16 : IntKind.i64.wrap ((m : Int) + 1) = ((m + 1 : Nat) : Int) := by rw [aF _ (by omega)]; omega
    have n8 : ((8 : Int) = 0) = False := by simp
    simp -implicitDefEqProofs only [go_sem, w14, w15, n8, if_false]
    by_cases hlr : m - a1 < b1 - m
    ·have d8 : decide (((m - a1 : Nat) : Int) < ((b1 - m : Nat) : Int)) = true := decide_eq_true (by omega)
     simp -implicitDefEqProofs only [go_sem, d8]
     refine aR hC (ih _ (by omega) l a1 m lm rfl (by omega) (by omega) (by omega) (g5.sub (by omega)) k h1 g3) fun x h2 ⟨l2, s1, s2, b3, k1⟩ => ?_
     have sp := g2.right hpt s1 s2 ha1 hb1 (by omega)
     simp -implicitDefEqProofs only [go_sem, w16]
     exact ⟨by omega, (l2, m + 1, b1, lm, decide (((m - a1 : Nat) : Int) >= IntKind.i64.wrap (Int.tdiv (L : Int) 8)), z3), h2, Wk.pick (g4.trans k1).1 (by simp [go_sem]), g1.trans (s1.mono ha1 (by omega)), sp.1, b3, g4.trans k1, sp.2, ⟨by dsimp only; omega, by dsimp only; omega, hb1⟩, by dsimp only; omega⟩
    ·have d8 : decide (((m - a1 : Nat) : Int) < ((b1 - m : Nat) : Int)) = false := decide_eq_false (by omega)
     have lo : Low (m + 1) b1 l := .inr fun x hx1 hx2 => by rw [show m + 1 - 1 = m by omega]; exact hpt.2.2 x (by omega) hx2
     simp -implicitDefEqProofs only [go_sem, d8, w16]
     refine aR hC (ih _ (by omega) l (m + 1) b1 lm rfl (by omega) (by omega) (by omega) lo k h1 g3) fun x h2 ⟨l2, s1, s2, b3, k1⟩ => ?_
     have sp := g2.left hpt s1 s2 ha1 hb1 (by omega)
     have lw : Low a1 m l2 := (g5.seg (s1.mono (by omega) (Nat.le_refl _)) (by omega)).sub (by omega)
     simp -implicitDefEqProofs only [go_sem]
     exact ⟨by omega, (l2, a1, m, lm, decide (((b1 - m : Nat) : Int) >= IntKind.i64.wrap (Int.tdiv (L : Int) 8)), z3), h2, Wk.pick (g4.trans k1).1 (by simp [go_sem]), g1.trans (s1.mono (by omega) hb1), sp, b3, g4.trans k1, lw, ⟨ha1, by dsimp only; omega, by dsimp only; omega⟩, by dsimp only; omega⟩
   have d7 : decide ((a1 : Int) > 0) = true := decide_eq_true (by omega)
   have wa1 : IntKind.i64.wrap ((a1 : Int) - 1) = ((a1 - 1 : Nat) : Int) := by rw [aF _ (by omega)]; omega
   have hal : a1 - 1 < l.length := by omega
   have hpl : p < l.length := by omega
   simp -implicitDefEqProofs only [go_sem, d7, wa1, g3, bnd hal, bnd hpl, aO (Q := Q) hal, aO (Q := Q) hpl, List.length_map, aY, Int.toNat_natCast, true_and, aT]
   refine aC hC (cQ.p _ _) ?_
   simp -implicitDefEqProofs only [go_sem, cQ.d]
   by_cases hlp : l.getD (a1 - 1) 0 < l.getD p 0
   ·have d9 := decide_eq_true hlp
    simp -implicitDefEqProofs only [go_sem, d9, Bool.not_true]
    clear hlp d9 hal hpl wa1 d7
    refine aR hC (h270 cQ l a1 b1 p (by omega) (by omega) (by omega) hp k h1 g3) fun x h2 ⟨m, z3, l2, hx, s1, hpt, b3, k1⟩ => ?_
    subst hx
    have g1' := g1.trans (s1.mono ha1 hb1)
    have g2' := g2.seg s1 ha1 hb1 (by omega)
    have g5' := g5.seg s1 (by omega)
    have g4' := g4.trans k1
    have hlen' := hlen.trans s1.1.symm
    have hlen2 : l.length = l2.length := s1.1.symm
    simp only [hlen2]
    clear g1 g2 g3 g4 g5 hlen hlen2 s1 k1
    have g1 := g1'
    have g2 := g2'
    have g3 := b3
    have g4 := g4'
    have g5 := g5'
    have hlen := hlen'
    clear g1' g2' g4' g5' b3 hlen'
    generalize l2 = l at *
    generalize h2 = h1 at *
    have hm := hpt.1
    have w14 : IntKind.i64.wrap ((m : Int) - (a1 : Int)) = ((m - a1 : Nat) : Int) := by rw [aF _ (by omega)]; omega
    have w15 : IntKind.i64.wrap ((b1 : Int) - (m : Int)) = ((b1 - m : Nat) : Int) := by rw [aF _ (by omega)]; omega
    have w16 : IntKind.i64.wrap ((m : Int) + 1) = ((m + 1 : Nat) : Int) := by rw [aF _ (by omega)]; omega
    have n8 : ((8 : Int) = 0) = False := by simp
    simp -implicitDefEqProofs only [go_sem, w14, w15, n8, if_false]
    by_cases hlr : m - a1 < b1 - m
    ·have d8 : decide (((m - a1 : Nat) : Int) < ((b1 - m : Nat) : Int)) = true := decide_eq_true (by omega)
     simp -implicitDefEqProofs only [go_sem, d8]
     refine aR hC (ih _ (by omega) l a1 m lm rfl (by omega) (by omega) (by omega) (g5.sub (by omega)) k h1 g3) fun x h2 ⟨l2, s1, s2, b3, k1⟩ => ?_
     have sp := g2.right hpt s1 s2 ha1 hb1 (by omega)
     simp -implicitDefEqProofs only [go_sem, w16]
     exact ⟨by omega, (l2, m + 1, b1, lm, decide (((m - a1 : Nat) : Int) >= IntKind.i64.wrap (Int.tdiv (L : Int) 8)), z3), h2, Wk.pick (g4.trans k1).1 (by simp [go_sem]), g1.trans (s1.mono ha1 (by omega)), sp.1, b3, g4.trans k1, sp.2, ⟨by dsimp only; omega, by dsimp only; omega, hb1⟩, by dsimp only; omega⟩
    ·have d8 : decide (((m - a1 : Nat) : Int) < ((b1 - m : Nat) : Int)) = false := decide_eq_false (by omega)
     have lo : Low (m + 1) b1 l := .inr fun x hx1 hx2 => by rw [show m + 1 - 1 = m by omega]; exact hpt.2.2 x (by omega) hx2
     simp -implicitDefEqProofs only [go_sem, d8, w16]
     refine aR hC (ih _ (by omega) l (m + 1) b1 lm rfl (by omega) (by omega) (by omega) lo k h1 g3) fun x h2 ⟨l2, s1, s2, b3, k1⟩ => ?_
     have sp := g2.left hpt s1 s2 ha1 hb1 (by omega)
     have lw : Low a1 m l2 := (g5.seg (s1.mono (by omega) (Nat.le_refl _)) (by omega)).sub (by omega)
     simp -implicitDefEqProofs only [go_sem]
     exact ⟨by omega, (l2, a1, m, lm, decide (((b1 - m : Nat) : Int) >= IntKind.i64.wrap (Int.tdiv (L : Int) 8)), z3), h2, Wk.pick (g4.trans k1).1 (by simp [go_sem]), g1.trans (s1.mono (by omega) hb1), sp, b3, g4.trans k1, lw, ⟨ha1, by dsimp only; omega, by dsimp only; omega⟩, by dsimp only; omega⟩
   have d9 := decide_eq_false hlp
   simp -implicitDefEqProofs only [go_sem, d9, Bool.not_false]
   refine aR hC (h269 cQ l a1 b1 p (by omega) (by omega) (by omega) hp k h1 g3) fun x h2 ⟨m, l2, hx, s1, hpt, b3, k1⟩ => ?_
   subst hx
   have lo2 := g5.seg s1 (by omega)
   have sp := (g2.seg s1 ha1 hb1 (by omega)).equal hpt lo2 ha0 (by rw [s1.same (by omega)]; omega)
   have hm := hpt.1
   simp -implicitDefEqProofs only [go_sem]
   exact ⟨by omega, (l2, m, b1, lm, wb, wp), h2, Wk.pick (g4.trans k1).1 (by simp [go_sem, hwb, hwp]), g1.trans (s1.mono ha1 hb1), sp.1, b3, g4.trans k1, sp.2, ⟨by dsimp only; omega, by dsimp only; omega, hb1⟩, by dsimp only; omega⟩
theorem h165 {Q : Int -> Pr} {cf : FuncId} {cc : Int -> Int -> Int} (cQ : Cmp GL Q cf cc) (l0 : List Int) (h0 : 0 < l0.length) (hl : l0.length < 2 ^ 24) (k : Nat) (h : List AObj) (hk : h[k]? = some (.buf 60 3 (l0.map (encQ Q)))) :
  Gives (PC GL) 165 [.vec k 3 l0.length, .fn (.func cf) [] []] h fun _ h' => ∃ l', l0.Perm l' /\ Srt 0 l0.length l' /\ h'[k]? = some (.buf 60 3 (l'.map (encQ Q))) /\ Keep (fun i _ => i = k) h h' := by
 obtain ⟨r, -, q⟩ := h239 (GL := GL) l0.length ⟨h0, hl⟩
 have wU := u64w l0.length (by omega)
 refine k165.gives (by simp) ?_
 simp -implicitDefEqProofs only [go_sem, c165, r165, wU]
 refine aC hC q ?_
 simp -implicitDefEqProofs only [go_sem]
 refine aR hC (h238 cQ _ l0 0 l0.length r rfl (Nat.zero_le _) (Nat.le_refl _) hl (.inl rfl) k h hk) fun x h2 ⟨l2, s1, s2, b3, k1⟩ => ?_
 simp -implicitDefEqProofs only [go_sem]
 exact aS k1.1 ⟨l2, s1.2.1, s2, b3, k1⟩
end Go.Rip
namespace Go.Rip
open Go Go.Proofs
set_option maxRecDepth 100000
variable {GL : Glob}
attribute [local irreducible] Pure
theorem h240 (s : List UInt8) : Pure (PC GL) 240 [.str s] (.b false) := by
 refine k240.pure (by simp) (by simp [go_sem]) (by simp [go_sem]) ?_
 simp -implicitDefEqProofs only [c240, r240, go_sem]
 have e : (s == s) = true := by simp
 simp -implicitDefEqProofs only [go_sem, e, Bool.not_true]
 refine aD ?_ ?_ <;> simp [go_sem]
def cmpS (a b : List UInt8) : Int := if Op.bytesLess a b then -1 else if a == b then 0 else 1
def cmpI (a b : Int) : Int := if a < b then -1 else if a > b then 1 else 0
theorem h168 (a b : List UInt8) : Pure (PC GL) 168 [.str a, .str b] (.i (cmpS a b)) := by
 refine k168.pure (by simp) (by simp [go_sem]) (by simp [go_sem]) ?_
 simp -implicitDefEqProofs only [c168, r168, go_sem]
 refine aC hC (h240 a) ?_
 simp -implicitDefEqProofs only [go_sem]
 refine aC hC (h240 b) ?_
 rcases h1 : Op.bytesLess a b
 ·rcases h2 : a == b
  ·have e : cmpS a b = 1 := by simp [cmpS, h1, h2]
   rw [e]
   simp -implicitDefEqProofs only [go_sem, h1, h2, Bool.or_false, Bool.not_false]
   refine aD ?_ ?_ <;> simp [go_sem]
  ·have e : cmpS a b = 0 := by simp [cmpS, h1, h2]
   rw [e]
   simp -implicitDefEqProofs only [go_sem, h1, h2, Bool.or_true, Bool.not_true]
   refine aD ?_ ?_ <;> simp [go_sem]
 ·have e : cmpS a b = -1 := by simp [cmpS, h1]
  rw [e]
  simp -implicitDefEqProofs only [go_sem, h1]
  refine aD ?_ ?_ <;> simp [go_sem]
theorem h169 (a b : Int) : Pure (PC GL) 169 [.i a, .i b] (.i (cmpI a b)) := by
 refine k169.pure (by simp) (by simp [go_sem]) (by simp [go_sem]) ?_
 simp -implicitDefEqProofs only [c169, r169, go_sem]
 refine aC hC (h241 a) ?_
 simp -implicitDefEqProofs only [go_sem]
 refine aC hC (h241 b) ?_
 by_cases h1 : a < b
 ·have d1 := decide_eq_true h1
  have e : cmpI a b = -1 := by simp [cmpI, h1]
  rw [e]
  simp -implicitDefEqProofs only [go_sem, d1]
  refine aD ?_ ?_ <;> simp [go_sem]
 have d1 := decide_eq_false h1
 by_cases h2 : a > b
 ·have d2 := decide_eq_true h2
  have e : cmpI a b = 1 := by simp [cmpI, h1, h2]
  rw [e]
  simp -implicitDefEqProofs only [go_sem, d1, d2]
  refine aD ?_ ?_ <;> simp [go_sem]
 ·have d2 := decide_eq_false h2
  have e : cmpI a b = 0 := by simp [cmpI, h1, h2]
  rw [e]
  simp -implicitDefEqProofs only [go_sem, d1, d2]
  refine aD ?_ ?_ <;> simp [go_sem]
theorem h167 (x y : Int) : Pure (PC GL) 167 [.sl 1 [.i x, .i y]] (.i (if x = 0 then y else x)) := by
 refine k167.pure (by simp) (by simp [go_sem]) (by simp [go_sem]) ?_
 simp -implicitDefEqProofs only [go_sem, c167, r167]
 refine aZ hC (fun j (_ : Unit) => [(8, .i j), (6, .sl 1 [.i x, .i y]), (7, .i (2 : Nat)), (3, .i 0)]) (fun j (_ : Unit) _ => (1 <= j -> x = 0) /\ (2 <= j -> y = 0)) 2 ⟨(), _, Wk.pick (Nat.zero_le _) (by simp [go_sem]), by omega, by omega⟩ fun j _ h hj ⟨i1, i2⟩ => ?_
 simp -implicitDefEqProofs only [go_sem]
 refine aG (fun hlt => ?_) (fun hlt => ?_)
 ·have hlt := aI hlt
  have w5 : IntKind.i64.wrap ((j : Int) + 1) = (j : Int) + 1 := aF _ (by omega)
  obtain ⟨z, hz, hg⟩ : ∃ z : Int, (z = if j = 0 then x else y) /\ [AV.i x, AV.i y].getD j .any = .i z := by
   by_cases h0 : j = 0
   ·subst h0; exact ⟨x, rfl, rfl⟩
   ·have : j = 1 := by omega
    subst this; exact ⟨y, rfl, rfl⟩
  simp -implicitDefEqProofs only [go_sem, hlt, hg, List.length_cons, List.length_nil]
  by_cases hz0 : z = 0
  ·have e : (z != 0) = false := by simpa using hz0
   simp -implicitDefEqProofs only [go_sem, e, w5]
   refine ⟨(), _, Wk.pick (Nat.zero_le _) (by simp [go_sem]), fun _ => ?_, fun h2 => ?_⟩
   ·by_cases h0 : j = 0
    ·rw [if_pos h0] at hz; omega
    ·exact i1 (by omega)
   ·rw [if_neg (by omega)] at hz; omega
  ·have e : (z != 0) = true := by simpa using hz0
   have e2 : (if x = 0 then y else x) = z := by
    by_cases h0 : j = 0
    ·rw [if_pos h0] at hz; rw [if_neg (by omega)]; exact hz.symm
    ·rw [if_neg h0] at hz; rw [if_pos (i1 (by omega))]; exact hz.symm
   rw [e2]
   simp -implicitDefEqProofs only [go_sem, e]
   refine aD ?_ ?_ <;> simp [go_sem]
 ·have hge := aK hlt
  have hx := i1 (by omega)
  have hy := i2 (by omega)
  subst hx hy
  simp -implicitDefEqProofs only [go_sem, hlt]
  refine aD ?_ ?_ <;> simp [go_sem]
def cmpPr (a b : Pr) : Int := if cmpS a.name b.name = 0 then cmpI a.arity b.arity else cmpS a.name b.name
theorem cmpPr_lt (a b : Pr) : decide (cmpPr a b < 0) = ltPr a b := by
 unfold cmpPr ltPr cmpS cmpI
 rcases h1 : Op.bytesLess a.name b.name
 ·rcases h2 : a.name == b.name
  ·simp
  ·by_cases h3 : a.arity < b.arity
   ·simp [h3]
   ·by_cases h4 : a.arity > b.arity <;> simp [h3, h4]
 ·simp
theorem h166 (a b : Pr) : Pure (PC GL) 166 [encPr a, encPr b] (.i (cmpPr a b)) := by
 refine k166.pure (by simp) (by simp [go_sem]) (by simp [go_sem]) ?_
 simp -implicitDefEqProofs only [go_sem, c166, r166, encPr]
 refine aC hC (h168 _ _) ?_
 simp -implicitDefEqProofs only [go_sem]
 refine aC hC (h169 _ _) ?_
 simp -implicitDefEqProofs only [go_sem]
 refine gX (h167 (cmpS a.name b.name) (cmpI a.arity b.arity)) (by simp [fzs, fzGs, fzG]) ?_
 simp -implicitDefEqProofs only [go_sem]
 refine aD ?_ ?_ <;> simp [go_sem, cmpPr]
theorem cmpQ {S : List Pr} (hs : SortedP S) (hn : ∀ q ∈ S, nameOk q.name = true) : Cmp GL (rkQ S) 166 fun x y => cmpPr (rkQ S x) (rkQ S y) :=
 ⟨fun x y => by have := h166 (GL := GL) (rkQ S x) (rkQ S y); simpa only [encPr] using this, fun x y => by rw [cmpPr_lt, rkQ_lt hs hn]⟩
theorem h165n : Pure (PC GLs) 165 [.v (.slice none 0 0), .fn (.func 166) [] []] (.tup []) := bV cA mo0 (n := 3000) (by kernel_rfl) (by kernel_rfl)
end Go.Rip
