/- Procedures that goals call: their numbers, each once. -/
import Derived.Test.YtndcajdameofjaaGreatDoorRipAU
import Derived.Test.YtndcajdameofjaaGreatDoorRipBB
import Derived.Test.YtndcajdameofjaaGreatDoorRipBC
import Derived.Test.YtndcajdameofjaaGreatDoorRipAI
namespace Go.Rip
open Go Go.Proofs
set_option maxRecDepth 100000
variable {GL : Glob}
attribute [local irreducible] Pure
def calB (p : Pg) (l : List Tm) : List Bool := (List.range p.procs.length).map fun k : Nat => (calledS l).any fun s => findS s p.syms == (k : Int)
def encB (b : Bool) : AV := .v (.bool b)
def nxs (l : List Bool) : List Nat := (List.range l.length).filter (mkd l)
def orN (l : List Bool) (ks : List Nat) : List Bool := (List.range l.length).map fun k => mkd l k || ks.contains k
def rndF (G : Nat -> List Nat) (l : List Bool) : Nat -> List Bool
 | 0 => l
 | j + 1 => if mkd (rndF G l j) j then orN (rndF G l j) (G j) else rndF G l j
def rndsF (G : Nat -> List Nat) (l : List Bool) : Nat -> List Bool
 | 0 => l
 | r + 1 => rndF G (rndsF G l r) l.length
def closeF (G : Nat -> List Nat) (l : List Bool) : List Bool := rndsF G l l.length
def Pr.goals (q : Pr) : List Tm := q.clauses.flatMap Cl.body
def calG (p : Pg) (i : Nat) : List Bool := calB p (p.procs.getD i default).goals
def calN (p : Pg) (i : Nat) : List Nat := nxs (calG p i)
structure VH (p : Pg) (km sb k xb vb : Nat) (l : List Bool) (h : List AObj) : Prop where
 s : h[sb]? = some (.cells 92 [.vec k 1 l.length])
 k : h[k]? = some (.buf 4 1 (l.map encB))
 x : h[xb]? = some (.cells 153 [.sl 3 (p.procs.map encPr), .mp km, .v (.map none)])
 v : h[vb]? = some (.cells 240 [.fn (.func 225) [] [.ref sb 0, .ref xb 0, .ref vb 0]])
 t : h[km]? = some (tabO p.syms)
theorem VH.keep {p : Pg} {km sb k xb vb : Nat} {l l' : List Bool} {h h' : List AObj} (H : VH p km sb k xb vb l h) (hk : Keep (fun i _ => i = k) h h') (hl : l'.length = l.length) (h2 : h'[k]? = some (.buf 4 1 (l'.map encB))) : VH p km sb k xb vb l' h' := by
 refine ⟨?_, h2, hk.get H.x (aN H.x H.k (by simp)), hk.get H.v (aN H.v H.k (by simp)), hk.get H.t (aN H.t H.k (by simp [tabO]))⟩
 rw [hl]
 exact hk.get H.s (aN H.s H.k (by simp))
def rowM (p : Pg) (i : Nat) : List Bool := closeF (calN p) (calG p i)
def encRow (p : Pg) (i : Nat) : AV := .sl 1 ((rowM p i).map encB)
def rowsA (p : Pg) (j : Nat) : List AV := (List.range p.procs.length).map fun i => if i < j then encRow p i else .v (.slice none 0 0)
structure CH (p : Pg) (tb kt kd : Nat) (done : List Bool) (h : List AObj) : Prop where
 b : h[tb]? = some (.cells 89 [.vec kt 1 p.procs.length])
 t : h[kt]? = some (.buf 92 1 (rowsA p p.procs.length))
 d : h[kd]? = some (.buf 4 1 (done.map encB))
theorem CH.keep {p : Pg} {tb kt kd : Nat} {done : List Bool} {h h' : List AObj} (H : CH p tb kt kd done h) (k : Keep All h h') : CH p tb kt kd done h' := ⟨k.got H.b, k.got H.t, k.got H.d⟩
theorem CH.set {p : Pg} {tb kt kd : Nat} {done : List Bool} {h : List AObj} (H : CH p tb kt kd done h) (d2 : List Bool) : CH p tb kt kd d2 (h.set kd (.buf 4 1 (d2.map encB))) :=
 ⟨by rw [aF (aN H.d H.b (by simp))]; exact H.b, by rw [aF (aN H.d H.t (by simp))]; exact H.t, aJ H.d⟩
structure RH (p : Pg) (ks : List Nat) (j : Nat) (h : List AObj) : Prop where
 n : ks.length = j
 r : ∀ i, i < j -> h[ks.getD i 0]? = some (.buf 4 1 ((rowM p i).map encB))
theorem RH.keep {p : Pg} {ks : List Nat} {j : Nat} {h h' : List AObj} {K : Nat -> AObj -> Prop} (H : RH p ks j h) (k : Keep K h h') (hn : ∀ i, i < j -> ∀ o, ¬ K (ks.getD i 0) o) : RH p ks j h' :=
 ⟨H.n, fun i hi => k.get (H.r i hi) (hn i hi _)⟩
theorem RH.all {p : Pg} {ks : List Nat} {j : Nat} {h h' : List AObj} (H : RH p ks j h) (k : Keep All h h') : RH p ks j h' := H.keep k fun _ _ _ h => h
theorem RH.lt {p : Pg} {ks : List Nat} {j : Nat} {h : List AObj} (H : RH p ks j h) {i : Nat} (hi : i < j) : ks.getD i 0 < h.length := aH (H.r i hi)
end Go.Rip
