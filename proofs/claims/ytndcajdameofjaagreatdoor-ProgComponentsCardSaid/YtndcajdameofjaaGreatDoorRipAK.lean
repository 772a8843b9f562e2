/- Terms and what is built of them, as the machine holds them. -/
import Derived.Laws.RangeAny
import Derived.Laws.RangeString
import Derived.Test.YtndcajdameofjaaGreatDoorRipAI
import Derived.Test.YtndcajdameofjaaGreatDoorRipAJ
namespace Go.Rip
open Go
inductive Tm where
 | mk (kind n : Int) (s : List UInt8) (l : List Tm)
 deriving Inhabited
def Tm.kind : Tm -> Int | .mk k _ _ _ => k
def Tm.n : Tm -> Int | .mk _ n _ _ => n
def Tm.s : Tm -> List UInt8 | .mk _ _ s _ => s
def Tm.l : Tm -> List Tm | .mk _ _ _ l => l
theorem Tm.kind_mk {k n : Int} {s : List UInt8} {l : List Tm} : (Tm.mk k n s l).kind = k := rfl
theorem Tm.n_mk {k n : Int} {s : List UInt8} {l : List Tm} : (Tm.mk k n s l).n = n := rfl
theorem Tm.s_mk {k n : Int} {s : List UInt8} {l : List Tm} : (Tm.mk k n s l).s = s := rfl
theorem Tm.l_mk {k n : Int} {s : List UInt8} {l : List Tm} : (Tm.mk k n s l).l = l := rfl
mutual
def enc : Tm -> AV
 | .mk k n s l => .agg [.v (.int .i64 k), .v (.int .i64 n), .str s, .sl 4 (encs l)]
def encs : List Tm -> List AV
 | [] => []
 | t :: r => enc t :: encs r
end
theorem encs_map : ∀ l, encs l = l.map enc
 | [] => rfl
 | t :: r => by simp [encs, encs_map r]
theorem enc_mk (k n s l) : enc (.mk k n s l) = .agg [.v (.int .i64 k), .v (.int .i64 n), .str s, .sl 4 (l.map enc)] := by rw [enc, encs_map]
theorem enc_eq (t : Tm) : enc t = .agg [.v (.int .i64 t.kind), .v (.int .i64 t.n), .str t.s, .sl 4 (t.l.map enc)] := by cases t; rw [enc_mk]; rfl
theorem fold_enc (t : Tm) : AV.agg [.v (.int .i64 t.kind), .v (.int .i64 t.n), .str t.s, .sl 4 (t.l.map enc)] = enc t := (enc_eq t).symm
theorem enc_cells (t : Tm) : (enc t).cells = [.v (.int .i64 t.kind), .v (.int .i64 t.n), .str t.s, .sl 4 (t.l.map enc)] := by rw [enc_eq]; rfl
theorem solid_enc (t : Tm) : (enc t).solid = true := by rw [enc_eq]; rfl
mutual
theorem ren_enc (κ : Nat -> Nat) : ∀ t, ren κ (enc t) = enc t
 | .mk k n s l => by simp only [enc, ren, rens, rens_encs0 κ l]
theorem rens_encs0 (κ : Nat -> Nat) : ∀ l, rens κ (encs l) = encs l
 | [] => rfl
 | t :: r => by simp only [encs, rens, ren_enc κ t, rens_encs0 κ r]
end
mutual
theorem bd_enc (n : Nat) : ∀ t, bd n (enc t) = True
 | .mk k _ s l => by simp only [enc, bd, bds, bds_encs0 n l, and_self]
theorem bds_encs0 (n : Nat) : ∀ l, bds n (encs l) = True
 | [] => rfl
 | t :: r => by simp only [encs, bds, bd_enc n t, bds_encs0 n r, and_self]
end
def Free {α : Type} (f : α -> AV) : Prop := (∀ κ a, ren κ (f a) = f a) /\ ∀ n a, bd n (f a) = True
theorem free_enc : Free enc := ⟨ren_enc, bd_enc⟩
theorem Free.rens {α : Type} {f : α -> AV} (h : Free f) (κ : Nat -> Nat) : ∀ l : List α, rens κ (l.map f) = l.map f
 | [] => rfl
 | x :: r => by simp only [List.map_cons, Rip.rens, h.1, Free.rens h κ r]
theorem Free.bds {α : Type} {f : α -> AV} (h : Free f) (n : Nat) : ∀ l : List α, bds n (l.map f) = True
 | [] => rfl
 | x :: r => by simp only [List.map_cons, Rip.bds, h.2, Free.bds h n r, and_self]
theorem rens_encs (κ : Nat -> Nat) (l : List Tm) : rens κ (l.map enc) = l.map enc := free_enc.rens κ l
theorem bds_encs (n : Nat) (l : List Tm) : bds n (l.map enc) = True := free_enc.bds n l
structure Cl where
 mark : Int
 vars : Int
 head : List Tm
 guard : List Tm
 body : List Tm
 deriving Inhabited
def encCl (c : Cl) : AV := .agg [.v (.int .i64 c.mark), .v (.int .i64 c.vars), .sl 4 (c.head.map enc), .sl 4 (c.guard.map enc), .sl 4 (c.body.map enc)]
theorem free_encCl : Free encCl := ⟨fun κ a => by simp only [encCl, ren, rens, rens_encs], fun n a => by simp only [encCl, bd, bds, bds_encs, and_self]⟩
structure Pr where
 name : List UInt8
 arity : Int
 clauses : List Cl
 deriving Inhabited
def encPr (p : Pr) : AV := .agg [.str p.name, .v (.int .i64 p.arity), .sl 5 (p.clauses.map encCl)]
theorem free_encPr : Free encPr := ⟨fun κ a => by simp only [encPr, ren, rens, free_encCl.rens], fun n a => by simp only [encPr, bd, bds, free_encCl.bds, and_self]⟩
structure Pg where
 procs : List Pr
 deriving Inhabited
def encPg (p : Pg) : AV := .agg [.sl 3 (p.procs.map encPr)]
theorem free_encPg : Free encPg := ⟨fun κ a => by simp only [encPg, ren, rens, free_encPr.rens], fun n a => by simp only [encPg, bd, bds, free_encPr.bds, and_self]⟩
structure Qy where
 vars : Int
 goals : List Tm
 deriving Inhabited
def encQy (q : Qy) : AV := .agg [.v (.int .i64 q.vars), .sl 4 (q.goals.map enc)]
theorem free_encQy : Free encQy := ⟨fun κ a => by simp only [encQy, ren, rens, rens_encs], fun n a => by simp only [encQy, bd, bds, bds_encs, and_self]⟩
structure Sym where
 name : List UInt8
 arity : Int
 deriving Inhabited, DecidableEq
def encSym (s : Sym) : AV := .agg [.str s.name, .v (.int .i64 s.arity)]
theorem free_encSym : Free encSym := ⟨fun κ a => by simp only [encSym, ren, rens], fun n a => by simp only [encSym, bd, bds, and_self]⟩
def encI (n : Int) : AV := .v (.int .i64 n)
theorem free_encI : Free encI := ⟨fun κ a => by simp only [encI, ren], fun n a => by simp only [encI, bd]⟩
mutual
theorem bd_mono {n m : Nat} (h : n <= m) : ∀ (x : AV), bd n x -> bd m x
 | .any, _ | .v _, _ | .str _, _ => by simp [bd]
 | .agg l, hb | .tup l, hb | .sl _ l, hb | .pel l, hb => by simp only [bd] at hb ⊢; exact bds_mono h l hb
 | .own k _ l, hb => by simp only [bd] at hb ⊢; exact ⟨by omega, bds_mono h l hb.2⟩
 | .ref k _, hb | .eref k _ _, hb | .vec k _ _, hb | .view k _ _ _, hb | .mp k, hb | .yld k, hb => by simp only [bd] at hb ⊢; omega
 | .imp ks vs, hb => by simp only [bd] at hb ⊢; exact ⟨bds_mono h ks hb.1, bds_mono h vs hb.2⟩
 | .fn _ a b, hb => by simp only [bd] at hb ⊢; exact ⟨bds_mono h a hb.1, bds_mono h b hb.2⟩
 | .iface _ x, hb => by simp only [bd] at hb ⊢; exact bd_mono h x hb
theorem bds_mono {n m : Nat} (h : n <= m) : ∀ (l : List AV), bds n l -> bds m l
 | [], _ => by simp [bds]
 | x :: xs, hb => by simp only [bds] at hb ⊢; exact ⟨bd_mono h x hb.1, bds_mono h xs hb.2⟩
end
theorem aF {GL : Glob} {x v : AV} {h : List AObj} (hw : wkr x v) (hb : bd 0 v) : ∃ y h', Wk GL 0 [(0, x)] h [(0, y)] h' /\ h' = [] /\ ARes.val y = ARes.val v :=
 ⟨v, [], Wk.ren (fun k => k) (Nat.le_refl _) (fun _ _ => rfl) (fun _ _ _ _ e => e) (by simp only [SlotsOk, tget]; exact ⟨by rw [ren_id]; exact hw, hb, trivial⟩) trivial, rfl, rfl⟩
theorem aD (n : Int) (h : -9223372036854775808 <= n /\ n <= 9223372036854775807) : IntKind.i64.wrap n = n := IntWalk.i64_in n h
section
variable (κ : Nat -> Nat) (n : Nat)
theorem ren_encCl (c : Cl) : ren κ (encCl c) = encCl c := free_encCl.1 κ c
theorem bd_encCl (c : Cl) : bd n (encCl c) = True := free_encCl.2 n c
theorem rens_encCls (l : List Cl) : rens κ (l.map encCl) = l.map encCl := free_encCl.rens κ l
theorem bds_encCls (l : List Cl) : bds n (l.map encCl) = True := free_encCl.bds n l
theorem ren_encPr (c : Pr) : ren κ (encPr c) = encPr c := free_encPr.1 κ c
theorem bd_encPr (c : Pr) : bd n (encPr c) = True := free_encPr.2 n c
theorem rens_encPrs (l : List Pr) : rens κ (l.map encPr) = l.map encPr := free_encPr.rens κ l
theorem bds_encPrs (l : List Pr) : bds n (l.map encPr) = True := free_encPr.bds n l
theorem ren_encPg (c : Pg) : ren κ (encPg c) = encPg c := free_encPg.1 κ c
theorem bd_encPg (c : Pg) : bd n (encPg c) = True := free_encPg.2 n c
theorem ren_encQy (c : Qy) : ren κ (encQy c) = encQy c := free_encQy.1 κ c
theorem bd_encQy (c : Qy) : bd n (encQy c) = True := free_encQy.2 n c
theorem ren_encSym (c : Sym) : ren κ (encSym c) = encSym c := free_encSym.1 κ c
theorem bd_encSym (c : Sym) : bd n (encSym c) = True := free_encSym.2 n c
theorem rens_encSyms (l : List Sym) : rens κ (l.map encSym) = l.map encSym := free_encSym.rens κ l
theorem bds_encSyms (l : List Sym) : bds n (l.map encSym) = True := free_encSym.bds n l
theorem rens_encIs (l : List Int) : rens κ (l.map encI) = l.map encI := free_encI.rens κ l
theorem bds_encIs (l : List Int) : bds n (l.map encI) = True := free_encI.bds n l
end
attribute [go_sem] enc_cells solid_enc fold_enc ren_enc rens_encs bd_enc bds_encs ren_encCl bd_encCl rens_encCls bds_encCls ren_encPr bd_encPr rens_encPrs bds_encPrs ren_encPg bd_encPg ren_encQy bd_encQy ren_encSym bd_encSym rens_encSyms bds_encSyms rens_encIs bds_encIs
end Go.Rip
namespace Go.Rip
open Go Go.Proofs
variable {GL : Glob}
abbrev PC (GL : Glob) : Calling := AC Tryz.prog GL
theorem hC : (PC GL).Mono := AC.mono
def Tm.isFun (t : Tm) (s : List UInt8) (n : Int) : Bool := t.kind == 5 && (t.s == s && (t.l.length : Int) == n)
def Tm.isAtom (t : Tm) (s : List UInt8) : Bool := t.kind == 3 && t.s == s
def Tm.sym (t : Tm) : Sym := ⟨t.s, t.l.length⟩
def Tm.isSym (t : Tm) : Bool := t.kind == 3 || t.kind == 5
theorem h182 (t : Tm) (s : List UInt8) (n : Int) : Pure (PC GL) 182 [enc t, .str s, .i n] (.b (t.isFun s n)) := by
 refine k182.pure (by simp) (by simp [go_sem]) (by simp [go_sem]) ?_
 simp -implicitDefEqProofs only [c182, r182, go_sem]
 repeat' (first | simp -implicitDefEqProofs only [go_sem, *] | with_reducible refine aX (fun _ => ?_) (fun _ => ?_) | with_reducible refine aY (fun _ => ?_) (fun _ => ?_) | with_reducible refine aG (fun _ => ?_) (fun _ => ?_) | with_reducible refine aF ?_ ?_ | ((with_reducible refine And.intro ?bnd ?_); (case bnd => decide)) | fail)
 all_goals simp_all [Tm.isFun]
theorem h190 (t : Tm) (s : List UInt8) : Pure (PC GL) 190 [enc t, .str s] (.b (t.isAtom s)) := by
 refine k190.pure (by simp) (by simp [go_sem]) (by simp [go_sem]) ?_
 simp -implicitDefEqProofs only [c190, r190, go_sem]
 repeat' (first | simp -implicitDefEqProofs only [go_sem, *] | with_reducible refine aX (fun _ => ?_) (fun _ => ?_) | with_reducible refine aY (fun _ => ?_) (fun _ => ?_) | with_reducible refine aG (fun _ => ?_) (fun _ => ?_) | with_reducible refine aF ?_ ?_ | ((with_reducible refine And.intro ?bnd ?_); (case bnd => decide)) | fail)
 all_goals simp_all [Tm.isAtom]
theorem h234 (t : Tm) : Pure (PC GL) 234 [enc t] (.tup [encSym t.sym, .b t.isSym]) := by
 refine k234.pure (by simp) (by simp [go_sem]) (by simp [go_sem]) ?_
 simp -implicitDefEqProofs only [c234, r234, go_sem]
 repeat' (first | simp -implicitDefEqProofs only [go_sem, *] | with_reducible refine aX (fun _ => ?_) (fun _ => ?_) | with_reducible refine aY (fun _ => ?_) (fun _ => ?_) | with_reducible refine aG (fun _ => ?_) (fun _ => ?_) | with_reducible refine aF ?_ ?_ | ((with_reducible refine And.intro ?bnd ?_); (case bnd => decide)) | fail)
 all_goals simp_all [Tm.isSym, Tm.sym, encSym, go_sem]
def opsL : List (List UInt8 × Int) := [([118, 101, 99, 116, 111, 114, 95, 110, 101, 119], 2), ([118, 101, 99, 116, 111, 114, 95, 103, 101, 116], 4), ([118, 101, 99, 116, 111, 114, 95, 115, 101, 116], 4),
 ([118, 101, 99, 116, 111, 114, 95, 115, 105, 122, 101], 3), ([115, 116, 114, 105, 110, 103, 95, 110, 101, 119], 2), ([115, 116, 114, 105, 110, 103, 95, 103, 101, 116], 4), ([115, 116, 114, 105, 110, 103, 95, 115, 101, 116], 4), ([115, 116, 114, 105, 110, 103, 95, 115, 105, 122, 101], 3), ([115, 116, 114, 105, 110, 103, 95, 106, 111, 105, 110], 3)]
def NoN : CallF := fun _ _ _ => none
theorem NoN_ok : SoundC Tryz.prog GL NoN := fun _ _ _ _ _ h => by cases h
def opsH : List AObj := [.map (opsL.map fun p => .str p.1) (opsL.map fun p => .v (.int .i64 p.2))]
theorem e103 : (match evCall GL (mkT Tryz.prog) (mkKC Tryz.prog) (withD Tryz.prog GL NoN) 30 (.fn 103) [] [] with
 | some (.val x, h) => beqAV x (.mp 0) && (match h with | [.map ks vs] => beqAVs ks (opsL.map fun p => .str p.1) && beqAVs vs (opsL.map fun p => .v (.int .i64 p.2)) | _ => false)
 | _ => false) = true := by kernel_rfl
theorem h103 (h : List AObj) {R : ARes -> List AObj -> Prop} (hR : R (.val (.mp h.length)) (h ++ opsH)) : PC GL (.fn 103) [] h R := by
 have h0 : ACall Tryz.prog GL 103 [] [] fun r h' => r = .val (.mp 0) /\ h' = opsH := by
  have he := e103 (GL := GL)
  split at he
  ·rename_i x h1 hx
   simp only [Bool.and_eq_true] at he
   have h2 := beqAV_eq he.1
   have h3 := he.2
   split at h3
   ·simp only [Bool.and_eq_true] at h3
    exact reckon NoN_ok hx ⟨by rw [h2], by rw [opsH, bI h3.1, bI h3.2]⟩
   ·cases h3
  ·cases he
 have h1 := frame (h := h) (by simp [bds]) h0
 refine ACall.mono _ _ _ _ _ ?_ h1
 rintro r h' ⟨r0, h0, ⟨rfl, rfl⟩, rfl, rfl⟩
 have e : opsH.map (renO (· + h.length)) = opsH := by
  simp only [opsH, List.map_cons, List.map_nil, renO]
  have e1 : ∀ l : List (List UInt8 × Int), rens (· + h.length) (l.map fun p => AV.str p.1) = l.map fun p => AV.str p.1 := by
   intro l; induction l with
   | nil => rfl
   | cons x r ih => simp only [List.map_cons, rens, ren, ih]
  have e2 : ∀ l : List (List UInt8 × Int), rens (· + h.length) (l.map fun p => AV.v (.int .i64 p.2)) = l.map fun p => AV.v (.int .i64 p.2) := by
   intro l; induction l with
   | nil => rfl
   | cons x r ih => simp only [List.map_cons, rens, ren, ih]
  rw [e1, e2]
 rw [e]
 simpa [renR, ren] using hR
def fixS : List Sym := [⟨[116, 114, 117, 101], 0⟩, ⟨[61], 2⟩, ⟨[58, 61], 2⟩, ⟨[64], 2⟩, ⟨[58, 45], 2⟩, ⟨[58, 45], 1⟩, ⟨[44], 2⟩, ⟨[124], 2⟩, ⟨[111, 116, 104, 101, 114, 119, 105, 115, 101], 0⟩, ⟨[97, 108, 116, 101, 114, 110, 97, 116, 105, 118, 101, 108, 121], 0⟩]
theorem w_drawn {C : Calling} {m : Nat} {es : List (AEnt × List Nat)} {Q : Post} {Pn : AV -> List AObj -> Prop} {τ : List (Nat × AV)} {h : List AObj} (J : List Nat -> List (Nat × AV) -> List AObj -> Prop) (h0 : J [] τ h)
  (h1 : ∀ l τ h i e, J l τ h -> es[i]? = some e -> i ∉ l -> (∀ j ∈ e.2, j ∈ l) -> opsA GL C [e.1] τ h (J (i :: l)) Pn) (h2 : ∀ l τ h, J l τ h -> (∀ i, i < es.length -> i ∈ l) -> Q .normal τ h) : wpA GL C m (.drawn es) Q Pn τ h := ⟨J, h0, h1, h2⟩
abbrev qSym : KQ := .st [.str, .int .i64]
theorem eq_sym (a b : Sym) : eqKQ qSym (encSym a) (encSym b) = some (decide (a = b)) := by
 obtain ⟨s, n⟩ := a
 obtain ⟨s', n'⟩ := b
 simp only [eqKQ, encSym, eqAVs, eqAV, and_self, if_true, Bool.and_true, Option.some.injEq, Sym.mk.injEq]
 by_cases h1 : s = s' <;> by_cases h2 : n = n' <;> simp [h1, h2]
def idxS (s : Sym) : List Sym -> Option Nat
 | [] => none
 | k :: r => if s = k then some 0 else (idxS s r).map (· + 1)
theorem find_sym (s : Sym) : ∀ ks : List Sym, findA qSym (encSym s) (ks.map encSym) = some (idxS s ks)
 | [] => by simp [findA, eq_sym, idxS]
 | k :: r => by
  simp only [List.map_cons, findA, eq_sym, find_sym s r, idxS]
  by_cases h : s = k <;> simp [h]
theorem idxS_none {s : Sym} : ∀ {ks : List Sym}, s ∉ ks -> idxS s ks = none
 | [], _ => rfl
 | k :: r, h => by
  simp only [List.mem_cons, not_or] at h
  simp [idxS, h.1, idxS_none h.2]
theorem idxS_some {s : Sym} : ∀ {ks : List Sym}, s ∈ ks -> ∃ i, idxS s ks = some i /\ i < ks.length
 | k :: r, h => by
  by_cases he : s = k
  ·exact ⟨0, by simp [idxS, he], by simp⟩
  ·obtain ⟨i, h1, h2⟩ := idxS_some ((List.mem_cons.1 h).resolve_left he)
   exact ⟨i + 1, by simp [idxS, he, h1], by simpa using h2⟩
def fixH (ks : List Sym) : List AObj := [.map (ks.map encSym) (ks.map fun _ => .v (.bool true))]
structure J104 (l : List Nat) (τ : List (Nat × AV)) (h : List AObj) : Prop where
 tm : ∀ j s, fixS[j]? = some s -> 2 * j + 1 ∈ l -> tget τ (j + 2) = encSym s
 no : 0 ∉ l -> h = []
 mp : 0 ∈ l -> tget τ 1 = .mp 0 /\ ∃ ks, h = fixH ks /\ ∀ s, s ∈ ks ↔ ∃ j, fixS[j]? = some s /\ 2 * j + 2 ∈ l
 in0 : 0 ∉ l -> ∀ j, 2 * j + 2 ∉ l
 r1 : 21 ∈ l -> tget τ 12 = .mp 0
 r2 : 22 ∈ l -> tget τ 0 = .mp 0
 dn : 21 ∈ l -> ∀ i, i < 21 -> i ∈ l
theorem cT {i j : Nat} {x : AV} {τ : List (Nat × AV)} (h : i ≠ j) : tget ((j, x) :: τ) i = tget τ i := by
 simp only [tget]
 split
 ·rename_i hb; exact absurd (Nat.eq_of_beq_eq_true hb) h
 ·rfl
theorem fixS_lt {j : Nat} {s : Sym} (h : fixS[j]? = some s) : j < 10 := (List.getElem?_eq_some_iff.1 h).1
theorem fixS_inj {i j : Nat} {s : Sym} (h : fixS[i]? = some s) (h' : fixS[j]? = some s) : i = j := by
 have hn : fixS.Nodup := by decide
 have hi := (List.getElem?_eq_some_iff.1 h)
 have hj := (List.getElem?_eq_some_iff.1 h')
 exact (List.getElem_inj hn).1 (hi.2.trans hj.2.symm)
theorem step_make {l : List Nat} {τ : List (Nat × AV)} {h : List AObj} (hJ : J104 l τ h) (hi : 0 ∉ l) : J104 (0 :: l) ((1, .mp h.length) :: τ) (h ++ [.map [] []]) := by
 have := hJ.no hi
 subst this
 refine ⟨fun j s hj hl => ?_, fun h => absurd (List.mem_cons_self ..) h, fun _ => ⟨by simp [tget], [], rfl, fun s => ⟨fun h => (by cases h), fun ⟨j, _, hj⟩ => ?_⟩⟩, fun h => absurd (List.mem_cons_self ..) h, fun hl => ?_, fun hl => ?_, fun hl i hi' => List.mem_cons_of_mem _ (hJ.dn ((List.mem_cons.1 hl).resolve_left (by omega)) i hi')⟩
 ·rw [cT (by omega)]
  exact hJ.tm j s hj ((List.mem_cons.1 hl).resolve_left (by omega))
 ·exact absurd ((List.mem_cons.1 hj).resolve_left (by omega)) (hJ.in0 hi j)
 ·rw [cT (by omega)]; exact hJ.r1 ((List.mem_cons.1 hl).resolve_left (by omega))
 ·rw [cT (by omega)]; exact hJ.r2 ((List.mem_cons.1 hl).resolve_left (by omega))
theorem cA {l : List Nat} {τ : List (Nat × AV)} {h : List AObj} (hJ : J104 l τ h) {j : Nat} {s : Sym} (hj : fixS[j]? = some s) (h21 : 21 ∉ l) : J104 ((2 * j + 1) :: l) ((j + 2, encSym s) :: τ) h := by
 have hj10 := fixS_lt hj
 have hm : ∀ {i : Nat}, i ≠ 2 * j + 1 -> (i ∈ (2 * j + 1) :: l ↔ i ∈ l) := fun hi => ⟨fun h => (List.mem_cons.1 h).resolve_left hi, List.mem_cons_of_mem _⟩
 refine ⟨fun j' s' hj' hl => ?_, fun h => hJ.no fun h0 => h ((hm (by omega)).2 h0), fun hl => ?_, fun h0 j' hl => hJ.in0 (fun h => h0 ((hm (by omega)).2 h)) j' ((hm (by omega)).1 hl), fun hl => absurd ((hm (by omega)).1 hl) h21, fun hl => ?_, fun hl => absurd ((hm (by omega)).1 hl) h21⟩
 ·by_cases e : j' = j
  ·subst e
   rw [hj] at hj'; cases hj'
   simp [tget, Nat.beq_refl]
  ·rw [cT (by omega)]
   exact hJ.tm j' s' hj' ((hm (by omega)).1 hl)
 ·obtain ⟨h1, ks, h2, h3⟩ := hJ.mp ((hm (by omega)).1 hl)
  refine ⟨by rw [cT (by omega)]; exact h1, ks, h2, fun s' => (h3 s').trans ⟨fun ⟨i, a, b⟩ => ⟨i, a, (hm (by omega)).2 b⟩, fun ⟨i, a, b⟩ => ⟨i, a, (hm (by omega)).1 b⟩⟩⟩
 ·rw [cT (by omega)]; exact hJ.r2 ((hm (by omega)).1 hl)
theorem bS {l : List Nat} {τ : List (Nat × AV)} {h : List AObj} (hJ : J104 l τ h) {j : Nat} {s : Sym} (hj : fixS[j]? = some s) (hi : 2 * j + 2 ∉ l) (h0 : 0 ∈ l) (hb : 2 * j + 1 ∈ l) {C : Calling} {Pn : AV -> List AObj -> Prop} :
  opsA GL C [(none, none, .mapUpdate (.st [.str, .int .i64]) (.t 1) (.t (j + 2)) (.c (.v (.bool true))))] τ h (J104 ((2 * j + 2) :: l)) Pn := by
 have hj10 := fixS_lt hj
 have hm : ∀ {i : Nat}, i ≠ 2 * j + 2 -> (i ∈ (2 * j + 2) :: l ↔ i ∈ l) := fun hi => ⟨fun h => (List.mem_cons.1 h).resolve_left hi, List.mem_cons_of_mem _⟩
 obtain ⟨h1, ks, rfl, h3⟩ := hJ.mp h0
 have hns : s ∉ ks := fun hs => by
  obtain ⟨j', a, b⟩ := (h3 s).1 hs
  rw [fixS_inj a hj] at b
  exact hi b
 have hk := hJ.tm j s hj hb
 have hf := find_sym s ks
 rw [idxS_none hns] at hf
 simp -implicitDefEqProofs only [go_sem, fixH, h1, hk, hf]
 refine ⟨fun j' s' hj' hl => hJ.tm j' s' hj' ((hm (by omega)).1 hl), fun h => absurd ((hm (by omega)).2 h0) h, fun _ => ⟨h1, ks ++ [s], by simp [fixH], fun s' => ?_⟩, fun h => absurd ((hm (by omega)).2 h0) h, fun hl => hJ.r1 ((hm (by omega)).1 hl), fun hl => hJ.r2 ((hm (by omega)).1 hl), fun hl i hi' => List.mem_cons_of_mem _ (hJ.dn ((hm (by omega)).1 hl) i hi')⟩
 rw [List.mem_append, List.mem_singleton, h3]
 constructor
 ·rintro (⟨i, a, b⟩ | rfl)
  ·exact ⟨i, a, List.mem_cons_of_mem _ b⟩
  ·exact ⟨j, hj, by simp⟩
 ·rintro ⟨i, a, b⟩
  by_cases e : i = j
  ·subst e; rw [hj] at a; cases a; exact .inr rfl
  ·exact .inl ⟨i, a, (hm (by omega)).1 b⟩
theorem step_21 {l : List Nat} {τ : List (Nat × AV)} {h : List AObj} (hJ : J104 l τ h) (hd : ∀ i, i < 21 -> i ∈ l) : J104 (21 :: l) ((12, tget τ 1) :: τ) h := by
 have hm : ∀ {i : Nat}, i ≠ 21 -> (i ∈ 21 :: l ↔ i ∈ l) := fun hi => ⟨fun h => (List.mem_cons.1 h).resolve_left hi, List.mem_cons_of_mem _⟩
 have h0 := hd 0 (by omega)
 obtain ⟨h1, ks, h2, h3⟩ := hJ.mp h0
 refine ⟨fun j s hj hl => ?_, fun h => absurd ((hm (by omega)).2 h0) h, fun _ => ⟨by rw [cT (by omega)]; exact h1, ks, h2, fun s => (h3 s).trans ⟨fun ⟨i, a, b⟩ => ⟨i, a, (hm (by omega)).2 b⟩, fun ⟨i, a, b⟩ => ⟨i, a, (hm (by omega)).1 b⟩⟩⟩, fun h => absurd ((hm (by omega)).2 h0) h, fun _ => by simp [tget, h1], fun hl => ?_, fun _ i hi => List.mem_cons_of_mem _ (hd i hi)⟩
 ·have := fixS_lt hj
  rw [cT (by omega)]
  exact hJ.tm j s hj ((List.mem_cons.1 hl).elim (fun h => hd _ (by omega)) id)
 ·rw [cT (by omega)]; exact hJ.r2 ((hm (by omega)).1 hl)
theorem step_22 {l : List Nat} {τ : List (Nat × AV)} {h : List AObj} (hJ : J104 l τ h) (hd : 21 ∈ l) : J104 (22 :: l) ((0, tget τ 12) :: τ) h := by
 have h1 := hJ.r1 hd
 have hdn := hJ.dn hd
 have h0 := hdn 0 (by omega)
 obtain ⟨h2, ks, h3, h4⟩ := hJ.mp h0
 refine ⟨fun j s hj hl => ?_, fun h => absurd (List.mem_cons_of_mem _ h0) h, fun _ => ⟨by rw [cT (by omega)]; exact h2, ks, h3, fun s => (h4 s).trans ⟨fun ⟨i, a, b⟩ => ⟨i, a, List.mem_cons_of_mem _ b⟩, fun ⟨i, a, b⟩ => ⟨i, a, ?_⟩⟩⟩, fun h => absurd (List.mem_cons_of_mem _ h0) h, fun _ => by rw [cT (by omega)]; exact h1, fun _ => by simp [tget, h1], fun _ i hi => List.mem_cons_of_mem _ (hdn i hi)⟩
 ·have := fixS_lt hj
  rw [cT (by omega)]
  exact hJ.tm j s hj ((List.mem_cons.1 hl).resolve_left (by omega))
 ·have := fixS_lt a
  exact hdn _ (by omega)
theorem a104 : ACall Tryz.prog GL 104 [] [] fun r h' => r = .val (.mp 0) /\ ∃ ks : List Sym, (∀ s, s ∈ ks ↔ s ∈ fixS) /\ h' = fixH ks := by
 refine k104.call (by simp) ?_
 simp -implicitDefEqProofs only [go_sem, c104, r104]
 refine w_drawn J104 ⟨fun _ _ _ h => (by cases h), fun _ => rfl, fun h => (by cases h), fun _ _ h => (by cases h), fun h => (by cases h), fun h => (by cases h), fun h => (by cases h)⟩ ?_ ?_
 ·intro l τ h i e hJ he hi hd
  have n21 : i < 21 -> 21 ∉ l := fun hlt hm => hi (hJ.dn hm i hlt)
  rcases i with _|_|_|_|_|_|_|_|_|_|_|_|_|_|_|_|_|_|_|_|_|_|_|i
  all_goals (first | (simp only [List.getElem?_cons_succ, List.getElem?_cons_zero, Option.some.injEq] at he; subst he) | (simp at he; done))
  ·simp -implicitDefEqProofs only [go_sem]
   exact step_make hJ hi
  ·exact cA hJ (j := 0) (s := ⟨[116, 114, 117, 101], 0⟩) rfl (n21 (by omega))
  ·exact bS hJ (j := 0) (s := ⟨[116, 114, 117, 101], 0⟩) rfl hi (hd 0 (by simp)) (hd 1 (by simp))
  ·exact cA hJ (j := 1) (s := ⟨[61], 2⟩) rfl (n21 (by omega))
  ·exact bS hJ (j := 1) (s := ⟨[61], 2⟩) rfl hi (hd 0 (by simp)) (hd 3 (by simp))
  ·exact cA hJ (j := 2) (s := ⟨[58, 61], 2⟩) rfl (n21 (by omega))
  ·exact bS hJ (j := 2) (s := ⟨[58, 61], 2⟩) rfl hi (hd 0 (by simp)) (hd 5 (by simp))
  ·exact cA hJ (j := 3) (s := ⟨[64], 2⟩) rfl (n21 (by omega))
  ·exact bS hJ (j := 3) (s := ⟨[64], 2⟩) rfl hi (hd 0 (by simp)) (hd 7 (by simp))
  ·exact cA hJ (j := 4) (s := ⟨[58, 45], 2⟩) rfl (n21 (by omega))
  ·exact bS hJ (j := 4) (s := ⟨[58, 45], 2⟩) rfl hi (hd 0 (by simp)) (hd 9 (by simp))
  ·exact cA hJ (j := 5) (s := ⟨[58, 45], 1⟩) rfl (n21 (by omega))
  ·exact bS hJ (j := 5) (s := ⟨[58, 45], 1⟩) rfl hi (hd 0 (by simp)) (hd 11 (by simp))
  ·exact cA hJ (j := 6) (s := ⟨[44], 2⟩) rfl (n21 (by omega))
  ·exact bS hJ (j := 6) (s := ⟨[44], 2⟩) rfl hi (hd 0 (by simp)) (hd 13 (by simp))
  ·exact cA hJ (j := 7) (s := ⟨[124], 2⟩) rfl (n21 (by omega))
  ·exact bS hJ (j := 7) (s := ⟨[124], 2⟩) rfl hi (hd 0 (by simp)) (hd 15 (by simp))
  ·exact cA hJ (j := 8) (s := ⟨[111, 116, 104, 101, 114, 119, 105, 115, 101], 0⟩) rfl (n21 (by omega))
  ·exact bS hJ (j := 8) (s := ⟨[111, 116, 104, 101, 114, 119, 105, 115, 101], 0⟩) rfl hi (hd 0 (by simp)) (hd 17 (by simp))
  ·exact cA hJ (j := 9) (s := ⟨[97, 108, 116, 101, 114, 110, 97, 116, 105, 118, 101, 108, 121], 0⟩) rfl (n21 (by omega))
  ·exact bS hJ (j := 9) (s := ⟨[97, 108, 116, 101, 114, 110, 97, 116, 105, 118, 101, 108, 121], 0⟩) rfl hi (hd 0 (by simp)) (hd 19 (by simp))
  ·exact step_21 hJ fun i hi => hd i (by simp; omega)
  ·exact step_22 hJ (hd 21 (by simp))
 ·intro l τ h hJ hall
  obtain ⟨h1, ks, rfl, h3⟩ := hJ.mp (hall 0 (by simp))
  have h22 := hJ.r2 (hall 22 (by simp))
  simp -implicitDefEqProofs only [go_sem, h22]
  refine ⟨_, _, Wk.refl (Nat.zero_le _), rfl, ks, fun s => ?_, rfl⟩
  rw [h3, List.mem_iff_getElem?]
  exact ⟨fun ⟨j, a, _⟩ => ⟨j, a⟩, fun ⟨j, a⟩ => ⟨j, a, hall _ (by have := fixS_lt a; simp; omega)⟩⟩
theorem h104 (h : List AObj) {R : ARes -> List AObj -> Prop} (hR : ∀ ks : List Sym, (∀ s, s ∈ ks ↔ s ∈ fixS) -> R (.val (.mp h.length)) (h ++ fixH ks)) : PC GL (.fn 104) [] h R := by
 have h1 := frame (h := h) (by simp [bds]) (a104 (GL := GL))
 refine ACall.mono _ _ _ _ _ ?_ h1
 rintro r h' ⟨r0, h0, ⟨rfl, ks, hk, rfl⟩, rfl, rfl⟩
 have e : (fixH ks).map (renO (· + h.length)) = fixH ks := by
  simp only [fixH, List.map_cons, List.map_nil, renO, free_encSym.rens]
  have : rens (· + h.length) (ks.map fun _ => AV.v (.bool true)) = ks.map fun _ => AV.v (.bool true) := Free.rens (f := fun _ : Sym => AV.v (.bool true)) ⟨fun _ _ => by simp only [ren], fun _ _ => by simp only [bd]⟩ _ ks
  rw [this]
 rw [e]
 simpa [renR, ren] using hR ks hk
theorem eq_str (a b : List UInt8) : eqKQ (.one .str) (.str a) (.str b) = some (decide (a = b)) := by
 simp only [eqKQ, eqAV, Option.some.injEq]
 by_cases h : a = b <;> simp [h]
def idxT {α : Type} (s : List UInt8) : List (List UInt8 × α) -> Option Nat
 | [] => none
 | k :: r => if s = k.1 then some 0 else (idxT s r).map (· + 1)
theorem find_str {α : Type} (s : List UInt8) : ∀ ks : List (List UInt8 × α), findA (.one .str) (.str s) (ks.map fun p => AV.str p.1) = some (idxT s ks)
 | [] => by simp [findA, eq_str, idxT]
 | k :: r => by
  simp only [List.map_cons, findA, eq_str, find_str s r, idxT]
  by_cases h : s = k.1 <;> simp [h]
def getT {α : Type} (s : List UInt8) : List (List UInt8 × α) -> Option α
 | [] => none
 | k :: r => if s = k.1 then some k.2 else getT s r
theorem idxT_cases {α : Type} (s : List UInt8) (f : α -> AV) : ∀ ks : List (List UInt8 × α), (idxT s ks = none /\ getT s ks = none) ∨ ∃ j a, idxT s ks = some j /\ getT s ks = some a /\ (ks.map fun p => f p.2).getD j .any = f a
 | [] => .inl ⟨rfl, rfl⟩
 | k :: r => by
  by_cases h : s = k.1
  ·exact .inr ⟨0, k.2, by simp [idxT, h], by simp [getT, h], by simp⟩
  ·rcases idxT_cases s f r with ⟨h1, h2⟩ | ⟨j, a, h1, h2, h3⟩
   ·exact .inl ⟨by simp [idxT, h, h1], by simp [getT, h, h2]⟩
   ·exact .inr ⟨j + 1, a, by simp [idxT, h, h1], by simp [getT, h, h2], by simpa using h3⟩
def Sym.isOp (s : Sym) : Bool := getT s.name opsL == some s.arity
def Sym.isFix (s : Sym) : Bool := decide (s ∈ fixS)
def Sym.res (s : Sym) : Bool := s.isOp || s.isFix
theorem fix_get {ks : List Sym} (h : ∀ s, s ∈ ks ↔ s ∈ fixS) (s : Sym) : (idxS s ks = none /\ s.isFix = false) ∨ ∃ j, idxS s ks = some j /\ s.isFix = true /\ (ks.map fun _ => AV.v (.bool true)).getD j .any = .v (.bool true) := by
 by_cases hs : s ∈ ks
 ·obtain ⟨j, h1, h2⟩ := idxS_some hs
  exact .inr ⟨j, h1, by simp [Sym.isFix, (h s).1 hs], by simp [List.getD, h2]⟩
 ·exact .inl ⟨idxS_none hs, by simp [Sym.isFix]; exact fun h' => hs ((h s).2 h')⟩
theorem opsH_eq : opsH = [.map (opsL.map fun p => .str p.1) (opsL.map fun p => .v (.int .i64 p.2))] := rfl
theorem fixH_eq (ks : List Sym) : fixH ks = [.map (ks.map encSym) (ks.map fun _ => .v (.bool true))] := rfl
theorem find_sym' (a : List UInt8) (n : Int) (ks : List Sym) : findA (.st [.str, .int .i64]) (.agg [.str a, .v (.int .i64 n)]) (ks.map encSym) = some (idxS ⟨a, n⟩ ks) := find_sym ⟨a, n⟩ ks
theorem h25 (s : Sym) : Pure (PC GL) 25 [encSym s] (.b s.res) := by
 obtain ⟨a, n⟩ := s
 refine k25.pure (by simp) (by simp [go_sem]) (by simp [go_sem]) ?_
 simp -implicitDefEqProofs only [go_sem, c25, r25, encSym]
 refine h103 _ ?_
 simp -implicitDefEqProofs only [go_sem, opsH_eq, find_str]
 rcases idxT_cases a (fun n => AV.v (.int .i64 n)) opsL with ⟨h1, h2⟩ | ⟨j, m, h1, h2, h3⟩
 ·simp -implicitDefEqProofs only [go_sem, h1]
  refine h104 _ fun ks hk => ?_
  simp -implicitDefEqProofs only [go_sem, fixH_eq, find_sym']
  rcases fix_get hk ⟨a, n⟩ with ⟨h3, h4⟩ | ⟨j, h3, h4, h5⟩
  ·simp -implicitDefEqProofs only [go_sem, h3]
   refine aF ?_ ?_ <;> simp [go_sem, Sym.res, Sym.isOp, h2, h4]
  ·simp -implicitDefEqProofs only [go_sem, h3, h5]
   refine aF ?_ ?_ <;> simp [go_sem, Sym.res, Sym.isOp, h2, h4]
 ·simp -implicitDefEqProofs only [go_sem, h1, h3]
  refine aX (fun h6 => ?_) (fun h6 => ?_)
  ·simp only [Bool.not_eq_true'] at h6
   simp -implicitDefEqProofs only [go_sem, h6]
   refine h104 _ fun ks hk => ?_
   simp -implicitDefEqProofs only [go_sem, fixH_eq, find_sym']
   rcases fix_get hk ⟨a, n⟩ with ⟨h7, h4⟩ | ⟨j, h7, h4, h5⟩
   ·simp -implicitDefEqProofs only [go_sem, h7]
    refine aF ?_ ?_ <;> simp_all [go_sem, Sym.res, Sym.isOp]
   ·simp -implicitDefEqProofs only [go_sem, h7, h5]
    refine aF ?_ ?_ <;> simp_all [go_sem, Sym.res, Sym.isOp]
  ·simp only [Bool.not_eq_false'] at h6
   simp -implicitDefEqProofs only [go_sem, h6]
   refine aF ?_ ?_ <;> simp_all [go_sem, Sym.res, Sym.isOp]
def Tm.gkind (t : Tm) : Int :=
 if t.isSym = false then 0 else if t.isAtom [116, 114, 117, 101] then 2 else if t.isFun [61] 2 then 3 else if t.isFun [58, 61] 2 then 4 else if t.sym.isOp then 5 else if t.sym.isFix then 0 else 1
theorem h183 (t : Tm) : Pure (PC GL) 183 [enc t] (.i t.gkind) := by
  refine k183.pure (by simp) (by simp [go_sem]) (by simp [go_sem]) ?_
  simp -implicitDefEqProofs only [go_sem, c183, r183]
  refine aC hC (h234 t) ?_
  simp -implicitDefEqProofs only [go_sem, encSym]
  refine h103 _ ?_
  simp -implicitDefEqProofs only [go_sem, opsH_eq, find_str]
  rcases idxT_cases t.s (fun n => AV.v (.int .i64 n)) opsL with ⟨h1, h2⟩ | ⟨j, m, h1, h2, h3⟩
  · repeat' (first | simp -implicitDefEqProofs only [go_sem, *] | with_reducible refine aX (fun _ => ?_) (fun _ => ?_) | with_reducible refine aY (fun _ => ?_) (fun _ => ?_) | with_reducible refine aG (fun _ => ?_) (fun _ => ?_) | with_reducible refine aF ?_ ?_ | (refine aC hC (h190 _ _) ?_) | (refine aC hC (h182 _ _ _) ?_) | ((with_reducible refine And.intro ?bnd ?_); (case bnd => decide)) | fail)
    all_goals first
      | (refine h104 _ fun ks hk => ?_
         simp -implicitDefEqProofs only [go_sem, fixH_eq, find_sym']
         rcases fix_get hk t.sym with ⟨h7, h4⟩ | ⟨j, h7, h4, h5⟩
         · rw [show t.sym = ⟨t.sym.name, t.sym.arity⟩ from rfl] at h7
           simp -implicitDefEqProofs only [go_sem, h7]
           repeat' (first | simp -implicitDefEqProofs only [go_sem, *] | with_reducible refine aX (fun _ => ?_) (fun _ => ?_) | with_reducible refine aY (fun _ => ?_) (fun _ => ?_) | with_reducible refine aG (fun _ => ?_) (fun _ => ?_) | with_reducible refine aF ?_ ?_ | ((with_reducible refine And.intro ?bnd ?_); (case bnd => decide)) | fail)
           all_goals simp_all [go_sem, Tm.gkind, Sym.isOp, Tm.sym]
         · rw [show t.sym = ⟨t.sym.name, t.sym.arity⟩ from rfl] at h7
           simp -implicitDefEqProofs only [go_sem, h7, h5]
           repeat' (first | simp -implicitDefEqProofs only [go_sem, *] | with_reducible refine aX (fun _ => ?_) (fun _ => ?_) | with_reducible refine aY (fun _ => ?_) (fun _ => ?_) | with_reducible refine aG (fun _ => ?_) (fun _ => ?_) | with_reducible refine aF ?_ ?_ | ((with_reducible refine And.intro ?bnd ?_); (case bnd => decide)) | fail)
           all_goals simp_all [go_sem, Tm.gkind, Sym.isOp, Tm.sym])
      | (simp_all [go_sem, Tm.gkind]; done)
  · repeat' (first | simp -implicitDefEqProofs only [go_sem, *] | with_reducible refine aX (fun _ => ?_) (fun _ => ?_) | with_reducible refine aY (fun _ => ?_) (fun _ => ?_) | with_reducible refine aG (fun _ => ?_) (fun _ => ?_) | with_reducible refine aF ?_ ?_ | (refine aC hC (h190 _ _) ?_) | (refine aC hC (h182 _ _ _) ?_) | ((with_reducible refine And.intro ?bnd ?_); (case bnd => decide)) | fail)
    all_goals first
      | (refine h104 _ fun ks hk => ?_
         simp -implicitDefEqProofs only [go_sem, fixH_eq, find_sym']
         rcases fix_get hk t.sym with ⟨h7, h4⟩ | ⟨j, h7, h4, h5⟩
         · rw [show t.sym = ⟨t.sym.name, t.sym.arity⟩ from rfl] at h7
           simp -implicitDefEqProofs only [go_sem, h7]
           repeat' (first | simp -implicitDefEqProofs only [go_sem, *] | with_reducible refine aX (fun _ => ?_) (fun _ => ?_) | with_reducible refine aY (fun _ => ?_) (fun _ => ?_) | with_reducible refine aG (fun _ => ?_) (fun _ => ?_) | with_reducible refine aF ?_ ?_ | ((with_reducible refine And.intro ?bnd ?_); (case bnd => decide)) | fail)
           all_goals simp_all [go_sem, Tm.gkind, Sym.isOp, Tm.sym]
         · rw [show t.sym = ⟨t.sym.name, t.sym.arity⟩ from rfl] at h7
           simp -implicitDefEqProofs only [go_sem, h7, h5]
           repeat' (first | simp -implicitDefEqProofs only [go_sem, *] | with_reducible refine aX (fun _ => ?_) (fun _ => ?_) | with_reducible refine aY (fun _ => ?_) (fun _ => ?_) | with_reducible refine aG (fun _ => ?_) (fun _ => ?_) | with_reducible refine aF ?_ ?_ | ((with_reducible refine And.intro ?bnd ?_); (case bnd => decide)) | fail)
           all_goals simp_all [go_sem, Tm.gkind, Sym.isOp, Tm.sym])
      | (simp_all [go_sem, Tm.gkind, Sym.isOp, Tm.sym]; done)
end Go.Rip
namespace Go.Rip
open Go
mutual
def decC : List AV -> Option Tm
 | .v (.int .i64 k) :: .v (.int .i64 n) :: .str s :: x :: [] => match decS x with
  | some l => some (.mk k n s l)
  | none => none
 | _ => none
def decS : AV -> Option (List Tm)
 | .sl sz l => match Nat.beq sz 4 with
  | true => decs l
  | false => none
 | .own _ sz l => match Nat.beq sz 4 with
  | true => decs l
  | false => none
 | .v (.slice none 0 0) => some []
 | _ => none
def decs : List AV -> Option (List Tm)
 | [] => some []
 | x :: r => match dec x, decs r with
  | some t, some l => some (t :: l)
  | _, _ => none
def dec : AV -> Option Tm
 | .agg cs => decC cs
 | _ => none
end
theorem decs_length : ∀ (l : List AV) (ts : List Tm), decs l = some ts -> l.length = ts.length
 | [], ts, h => by simp only [decs, Option.some.injEq] at h; subst h; rfl
 | x :: r, ts, h => by
  simp only [decs] at h
  split at h
  ·rename_i t l h1 h2
   cases h
   simp [decs_length r l h2]
  ·cases h
section
variable {E : Env} {A : Nat -> Nat -> Prop} {G : Gd} {w : World}
mutual
theorem repC_dec (cs : List AV) (t : Tm) (h : decC cs = some t) (bl o : Nat) (hr : RepC E A G w bl o cs) : RepC E A G w bl o (enc t).cells := by
 unfold decC at h
 split at h
 ·rename_i k n s y
  split at h
  ·rename_i l hl
   cases h
   rw [enc_mk]
   simp only [AV.cells, RepC] at hr ⊢
   obtain ⟨h1, h2, h3, ⟨u, q1, q2, q3, q4⟩, _⟩ := hr
   exact ⟨h1, h2, h3, ⟨u, q1, q2, q3, rep_decS y l hl u q4⟩, trivial⟩
  ·cases h
 ·cases h
termination_by SizeOf.sizeOf cs
theorem rep_decS : ∀ (x : AV) (l : List Tm), decS x = some l -> ∀ v, Rep E A G w x v -> Rep E A G w (.sl 4 (l.map enc)) v
 | .sl sz l, ts, h, v, hr => by
  simp only [decS] at h
  split at h
  ·rename_i hb
   have := Nat.eq_of_beq_eq_true hb
   subst this
   simp only [Rep] at hr ⊢
   obtain ⟨p, n, c, rfl, h1, h2, h3, hr⟩ := hr
   have hlen := decs_length l ts h
   refine ⟨p, n, c, rfl, by rw [h1, List.length_map, hlen], h2, h3, ?_⟩
   rcases hr with hr | ⟨b, o, hp, hr⟩
   ·subst hr; simp only [decs, Option.some.injEq] at h; subst h; exact .inl rfl
   ·exact .inr ⟨b, o, hp, repL_decs l ts h b o hr⟩
  ·cases h
 | .own k sz l, ts, h, v, hr => by
  simp only [decS] at h
  split at h
  ·rename_i hb
   have := Nat.eq_of_beq_eq_true hb
   subst this
   simp only [Rep] at hr ⊢
   obtain ⟨_, _, p, n, c, rfl, h1, h2, h3, hr⟩ := hr
   have hlen := decs_length l ts h
   refine ⟨p, n, c, rfl, by rw [h1, List.length_map, hlen], h2, h3, ?_⟩
   rcases hr with hr | ⟨b, o, hp, hr⟩
   ·subst hr; simp only [decs, Option.some.injEq] at h; subst h; exact .inl rfl
   ·exact .inr ⟨b, o, hp, repL_decs l ts h b o hr⟩
  ·cases h
 | .v y, ts, h, v, hr => by
  unfold decS at h
  split at h
  ·simp_all
  ·simp_all
  ·rename_i he
   cases h
   cases he
   simp only [Rep] at hr ⊢
   exact ⟨none, 0, 0, hr, rfl, Nat.le_refl _, by decide, .inl rfl⟩
  ·cases h
 | .any, _, h, _, _ | .str _, _, h, _, _ | .agg _, _, h, _, _ | .tup _, _, h, _, _ | .pel _, _, h, _, _ | .ref _ _, _, h, _, _ | .eref _ _ _, _, h, _, _ | .vec _ _ _, _, h, _, _ | .view _ _ _ _, _, h, _, _ | .mp _, _, h, _, _
 | .imp _ _, _, h, _, _ | .fn _ _ _, _, h, _, _ | .yld _, _, h, _, _ | .iface _ _, _, h, _, _ => by simp [decS] at h
termination_by x => SizeOf.sizeOf x
theorem repL_decs : ∀ (l : List AV) (ts : List Tm), decs l = some ts -> ∀ b o, RepL E A G w 4 b o l -> RepL E A G w 4 b o (ts.map enc)
 | [], ts, h, b, o, _ => by simp only [decs, Option.some.injEq] at h; subst h; simp [RepL]
 | x :: r, ts, h, b, o, hr => by
  simp only [decs] at h
  split at h
  ·rename_i t l h1 h2
   cases h
   rw [bY] at hr
   rw [List.map_cons, bY]
   refine ⟨by rw [enc_cells]; rfl, ?_, repL_decs r l h2 b _ hr.2.2⟩
   cases x <;> simp only [dec, reduceCtorEq] at h1
   exact repC_dec _ t h1 b o hr.2.1
  ·cases h
termination_by l => SizeOf.sizeOf l
end
theorem reps_dec : ∀ (cs : List AV) (t : Tm), decC cs = some t -> ∀ vs, Reps E A G w cs vs -> Reps E A G w (enc t).cells vs := fun cs t h vs hr => by
 unfold decC at h
 split at h
 ·rename_i k n s y
  split at h
  ·rename_i l hl
   cases h
   rw [enc_mk]
   simp only [AV.cells, Reps] at hr ⊢
   obtain ⟨u1, us1, rfl, h1, u2, us2, rfl, h2, u3, us3, rfl, h3, u4, us4, rfl, h4, rfl⟩ := hr
   exact ⟨u1, _, rfl, h1, u2, _, rfl, h2, u3, _, rfl, h3, u4, _, rfl, rep_decS y l hl u4 h4, rfl⟩
  ·cases h
 ·cases h
theorem rep_dec : ∀ (x : AV) (t : Tm), dec x = some t -> ∀ v, Rep E A G w x v -> Rep E A G w (enc t) v
 | .agg cs, t, h, v, hr => by
  simp only [dec] at h
  simp only [Rep] at hr
  obtain ⟨vs, rfl, h1, h2⟩ := hr
  have := reps_dec cs t h _ h2
  rw [enc_eq]
  simp only [Rep]
  exact ⟨vs, rfl, h1, by rw [enc_cells] at this; exact this⟩
 | .any, _, h, _, _ | .str _, _, h, _, _ | .v _, _, h, _, _ | .tup _, _, h, _, _ | .pel _, _, h, _, _ | .ref _ _, _, h, _, _ | .eref _ _ _, _, h, _, _ | .vec _ _ _, _, h, _, _ | .view _ _ _ _, _, h, _, _ | .mp _, _, h, _, _
 | .imp _ _, _, h, _, _ | .fn _ _ _, _, h, _, _ | .yld _, _, h, _, _ | .iface _ _, _, h, _, _ | .sl _ _, _, h, _, _ | .own _ _ _, _, h, _, _ => by simp [dec] at h
end
end Go.Rip
namespace Go.Rip
open Go Go.Proofs
variable {GL : Glob}
def natF : CallF := fun f args h => match f, args with
 | .fn 25, [.agg [.str s, .v (.int .i64 n)]] => some (.val (.v (.bool (Sym.res ⟨s, n⟩))), h)
 | .fn 183, [x] => match dec x with
  | some t => some (.val (.v (.int .i64 (Tm.gkind t))), h)
  | none => none
 | _, _ => none
theorem bM : SoundC Tryz.prog GL natF := by
 intro f args h r h' he R hR
 unfold natF at he
 split at he
 ·simp only [Option.some.injEq, Prod.mk.injEq] at he
  obtain ⟨rfl, rfl⟩ := he
  exact aC hC (h25 _) hR
 ·split at he
  ·rename_i x t ht
   simp only [Option.some.injEq, Prod.mk.injEq] at he
   obtain ⟨rfl, rfl⟩ := he
   have h1 : ACall Tryz.prog GL 183 [enc t] h R := aC (C := PC GL) hC (h183 t) hR
   intro E A G w vs hW ha
   refine h1 E A G w vs hW ?_
   simp only [Reps] at ha ⊢
   obtain ⟨u, us, rfl, h2, rfl⟩ := ha
   exact ⟨u, [], rfl, rep_dec _ _ ht _ h2, rfl⟩
  ·cases he
 ·cases he
def GLs : Glob := [(0, [.str [43], .str [45], .str [42], .str [47], .str [109, 111, 100], .str [45]])]
end Go.Rip
namespace Go.Rip
open Go
theorem cQ {GL : Glob} {C : Calling} {m : Nat} {Pn : AV -> List AObj -> Prop} {s : List Fr} {Q : Post} {τ : List (Nat × AV)} {h : List AObj} {b : ACode} (hC : C.Mono) (Inv : Nat -> Prop) (S : Nat -> List (Nat × AV)) (live : List Nat) (N : Nat)
  (hi : Inv 0) (h0 : Wk GL m τ h (S 0 ++ sel live τ) h) (hs : ∀ j, j <= N -> Inv j -> wpA GL C m b (pst GL C m Pn (.lp (fun τ' h' => j < N /\ Inv (j + 1) /\ Wk GL m τ' h' (S (j + 1) ++ sel live τ) h) :: s) Q) Pn (S j ++ sel live τ) h) :
  wpA GL C m (.loop b) (pst GL C m Pn s Q) Pn τ h := s_for hC Inv (fun j => S j ++ sel live τ) (fun _ => h) N hi h0 hs
theorem Wk.slots {GL : Glob} {m : Nat} {τ τ' : List (Nat × AV)} {h h' : List AObj} (hm : m <= h'.length) (hs : SlotsOk τ (fun k => k) h'.length τ') (ho : ObjsOk h (fun k => k) h'.length 0 h') : Wk GL m τ h τ' h' :=
 Wk.ren (fun k => k) hm (fun _ _ => rfl) (fun _ _ _ _ e => e) hs ho
mutual
def Tm.size : Tm -> Nat
 | .mk _ _ _ l => sizes l + 1
def sizes : List Tm -> Nat
 | [] => 0
 | t :: r => t.size + sizes r
end
mutual
def Tm.deep : Tm -> Nat
 | .mk _ _ _ l => deeps l + 1
def deeps : List Tm -> Nat
 | [] => 0
 | t :: r => max t.deep (deeps r)
end
theorem size_eq (t : Tm) : t.size = sizes t.l + 1 := by cases t; rfl
theorem deep_eq (t : Tm) : t.deep = deeps t.l + 1 := by cases t; rfl
theorem sizes_app : ∀ a b, sizes (a ++ b) = sizes a + sizes b
 | [], b => by simp [sizes]
 | x :: r, b => by simp only [List.cons_append, sizes, sizes_app r b]; omega
theorem deeps_app : ∀ a b, deeps (a ++ b) = max (deeps a) (deeps b)
 | [], b => by simp [deeps]
 | x :: r, b => by simp only [List.cons_append, deeps, deeps_app r b]; omega
theorem size_pos (t : Tm) : 0 < t.size := by rw [size_eq]; omega
theorem aW : ∀ l : List Tm, l.length <= sizes l
 | [] => Nat.le_refl _
 | t :: r => by have := aW r; have := size_pos t; simp only [List.length_cons, sizes]; omega
mutual
theorem deep_size : ∀ t : Tm, t.deep <= t.size
 | .mk _ _ _ l => by simp only [Tm.deep, Tm.size]; have := deeps_sizes l; omega
theorem deeps_sizes : ∀ l : List Tm, deeps l <= sizes l
 | [] => Nat.le_refl _
 | t :: r => by simp only [deeps, sizes]; have := deep_size t; have := deeps_sizes r; omega
end
theorem bO (l : List Tm) (j : Nat) : sizes (l.take j) <= sizes l := by
 conv => rhs; rw [<- List.take_append_drop j l, sizes_app]
 omega
theorem bP {l : List Tm} {j : Nat} (h : j < l.length) : sizes (l.take (j + 1)) = sizes (l.take j) + l[j].size := by
 rw [bB h, sizes_app]; simp [sizes]
theorem cL {l : List Tm} {j : Nat} (h : j < l.length) : deeps (l.take (j + 1)) = max (deeps (l.take j)) l[j].deep := by
 rw [bB h, deeps_app]; simp [deeps]
theorem bQ {l : List Tm} {j : Nat} (h : j < l.length) : l[j].size <= sizes l := by
 have h1 := bP h
 have h2 := bO l (j + 1)
 omega
theorem size_lt {t : Tm} {x : Tm} (h : x ∈ t.l) : x.size < t.size := by
 obtain ⟨j, hj, rfl⟩ := List.mem_iff_getElem.1 h
 have := bQ hj
 have := size_eq t
 omega
theorem tm_ind {p : Tm -> Prop} (h : ∀ t, (∀ x ∈ t.l, p x) -> p t) : ∀ t, p t := by
 intro t
 generalize hn : t.size = n
 induction n using Nat.strongRecOn generalizing t with
 | _ n ih => exact h t fun x hx => ih x.size (by rw [<- hn]; exact size_lt hx) x rfl
theorem aI {a b : Nat} (h : decide ((a : Int) < b) = true) : a < b := by simpa using h
theorem aL {a b : Nat} (h : decide ((a : Int) < b) = false) : b <= a := by simpa using h
theorem aU {α : Type} {l : List α} {j : Nat} (h : l.length <= j) : l.take j = l := List.take_of_length_le h
theorem imax_nat (a b : Nat) : imax (a : Int) b = (max a b : Nat) := by simp only [imax]; split <;> omega
end Go.Rip
namespace Go.Rip
open Go Go.Proofs
variable {GL : Glob}
end Go.Rip
namespace Go.Rip
open Go
def nxO (t : Bool) (GL : Glob) (C : Calling) (d : Option Nat) (s : ByteArray) (pos k : Nat) (os : List AEnt) (τ : List (Nat × AV)) (h : List AObj) (K : List (Nat × AV) -> List AObj -> Prop) (Pn : AV -> List AObj -> Prop) : Prop :=
 condP t (opsA GL C os (aput τ d (.tup [.v (.bool true), .v (.int .i64 pos), .v (.int .i32 (Utf8.decode s pos).1)])) (h.set k (.siter s (pos + (Utf8.decode s pos).2))) K Pn) (opsA GL C os (aput τ d (.tup [.v (.bool false)])) h K Pn)
section
variable {GL : Glob} {C : Calling} {os : List AEnt} {τ : List (Nat × AV)} {h : List AObj} {K : List (Nat × AV) -> List AObj -> Prop} {Pn : AV -> List AObj -> Prop} {d : Option Nat} {s : ByteArray} {pos k : Nat} {t : Bool}
theorem g_nextStr {x : AOpd} : opsA GL C ((d, none, .nextStr x) :: os) τ h K Pn = (match aeval GL τ x with
  | .ref k 0 => match h[k]? with
   | some (.siter s pos) => nxO (Nat.blt pos s.size) GL C d s pos k os τ h K Pn
   | _ => False
  | _ => False) := rfl
theorem nxO_true : nxO true GL C d s pos k os τ h K Pn = opsA GL C os (aput τ d (.tup [.v (.bool true), .v (.int .i64 pos), .v (.int .i32 (Utf8.decode s pos).1)])) (h.set k (.siter s (pos + (Utf8.decode s pos).2))) K Pn := condP_true _ _
theorem nxO_false : nxO false GL C d s pos k os τ h K Pn = opsA GL C os (aput τ d (.tup [.v (.bool false)])) h K Pn := condP_false _ _
theorem nxO_and (h1 : t = true -> nxO true GL C d s pos k os τ h K Pn) (h2 : t = false -> nxO false GL C d s pos k os τ h K Pn) : nxO t GL C d s pos k os τ h K Pn := by cases t; exact h2 rfl; exact h1 rfl
end
attribute [go_sem ↓] g_nextStr nxO_true nxO_false
def byteOk (b : UInt8) : Bool := decide (32 <= b.toNat) && decide (b.toNat <= 126)
def nameOk (s : List UInt8) : Bool := decide (1 <= s.length) && (decide (s.length <= 32) && s.all byteOk)
theorem decode_ok {l : List UInt8} {j : Nat} (h : j < l.length) (hb : byteOk l[j] = true) : Utf8.decode ⟨l.toArray⟩ j = (l[j].toNat, 1) := by
 have hs : j < (ByteArray.mk l.toArray).size := by show j < l.toArray.size; simpa using h
 have hg : ((ByteArray.mk l.toArray)[j]'hs) = l[j] := by show l.toArray[j] = l[j]; simp
 simp only [byteOk, Bool.and_eq_true, decide_eq_true_eq] at hb
 rw [decode_ascii _ j hs (by rw [hg]; omega), hg]
theorem decode_bad {l : List UInt8} {j : Nat} (h : j < l.length) (hb : byteOk l[j] = false) : (Utf8.decode ⟨l.toArray⟩ j).1 < 32 ∨ 126 < (Utf8.decode ⟨l.toArray⟩ j).1 := by
 have hs : j < (ByteArray.mk l.toArray).size := by show j < l.toArray.size; simpa using h
 have hg : ((ByteArray.mk l.toArray)[j]'hs) = l[j] := by show l.toArray[j] = l[j]; simp
 by_cases h128 : l[j].toNat < 128
 ·rw [decode_ascii _ j hs (by rw [hg]; exact h128), hg]
  simp only [byteOk, Bool.and_eq_false_iff, decide_eq_false_iff_not] at hb
  show l[j].toNat < 32 ∨ 126 < l[j].toNat
  omega
 ·have := (decode_high _ j hs (by rw [hg]; omega)).1
  right; omega
def firstBad (s : List UInt8) : Int := match s.findIdx? (fun b => !byteOk b) with
 | some i => i
 | none => -1
theorem firstBad_none {s : List UInt8} (h : s.all byteOk = true) : firstBad s = -1 := by
 have : s.findIdx? (fun b => !byteOk b) = none := by
  rw [List.findIdx?_eq_none_iff]
  intro x hx
  simp [List.all_eq_true.1 h x hx]
 rw [firstBad, this]
theorem firstBad_some {s : List UInt8} {j : Nat} (hj : j < s.length) (h1 : (s.take j).all byteOk = true) (h2 : byteOk s[j] = false) : firstBad s = j := by
 have : s.findIdx? (fun b => !byteOk b) = some j := by
  rw [List.findIdx?_eq_some_iff_getElem]
  refine ⟨hj, by simp [h2], fun i hi => ?_⟩
  have : s[i] ∈ s.take j := by rw [List.mem_iff_getElem]; exact ⟨i, by simp; omega, by simp⟩
  simp [List.all_eq_true.1 h1 _ this]
 rw [firstBad, this]
theorem firstBad_neg (s : List UInt8) : decide (firstBad s < 0) = s.all byteOk := by
 unfold firstBad
 cases h : s.findIdx? (fun b => !byteOk b) with
 | none =>
  rw [List.findIdx?_eq_none_iff] at h
  have : s.all byteOk = true := List.all_eq_true.2 fun x hx => by simpa using h x hx
  rw [this]; rfl
 | some i =>
  rw [List.findIdx?_eq_some_iff_getElem] at h
  obtain ⟨hi, h1, _⟩ := h
  have : s.all byteOk = false := by
   rw [Bool.eq_false_iff]
   intro ha
   have := List.all_eq_true.1 ha _ (List.getElem_mem hi)
   rw [this] at h1; cases h1
  rw [this]
  simp
theorem all_snoc {α : Type} {l : List α} {j : Nat} (h : j < l.length) (p : α -> Bool) : (l.take (j + 1)).all p = ((l.take j).all p && p l[j]) := by rw [bB h, List.all_append]; simp
theorem size_mk (l : List UInt8) : (ByteArray.mk l.toArray).size = l.length := by show l.toArray.size = _; simp
end Go.Rip
namespace Go.Rip
open Go Go.Proofs
variable {GL : Glob}
theorem dge (n : Nat) : decide ((n : Int) >= 1) = decide (1 <= n) := by simp only [decide_eq_decide]; omega
theorem dle (n : Nat) : decide ((n : Int) <= 32) = decide (n <= 32) := by simp only [decide_eq_decide]; omega
theorem h311 (r : Int) : Pure (PC GL) 311 [.v (.int .i32 r)] (.b (decide (r < 32) || decide (126 < r))) := by
 refine k311.pure (by simp) (by simp [go_sem]) (by simp [go_sem]) ?_
 simp -implicitDefEqProofs only [c311, r311, go_sem]
 repeat' (first | simp -implicitDefEqProofs only [go_sem, *] | with_reducible refine aX (fun _ => ?_) (fun _ => ?_) | with_reducible refine aY (fun _ => ?_) (fun _ => ?_) | with_reducible refine aG (fun _ => ?_) (fun _ => ?_) | with_reducible refine aF ?_ ?_ | ((with_reducible refine And.intro ?bnd ?_); (case bnd => decide)) | fail)
 all_goals simp_all
theorem h315 (s : List UInt8) (_hs : s.length < 2 ^ 30) : Pure (PC GL) 315 [.str s, .fn (.func 311) [] [], .b true] (.i (firstBad s)) := by
 refine k315.pure (by simp) (by simp [go_sem]) (by simp [go_sem]) ?_
 simp -implicitDefEqProofs only [c315, r315, go_sem]
 refine s_for hC (fun j => (s.take j).all byteOk = true) (fun _ => [(10, .ref 0 0), (0, .str s), (1, .fn (.func 311) [] []), (2, .b true)]) (fun j => [.siter ⟨s.toArray⟩ j]) s.length (by simp) ?_ ?_
 ·refine Wk.slots (by simp) ?_ ?_ <;> simp [go_sem]
 ·intro j hj hI
  simp -implicitDefEqProofs only [go_sem]
  refine nxO_and (fun hlt => ?_) (fun hlt => ?_)
  ·rw [size_mk] at hlt
   have hlt : j < s.length := Nat.le_of_ble_eq_true hlt
   by_cases hb : byteOk s[j] = true
   ·simp -implicitDefEqProofs only [go_sem, decode_ok hlt hb]
    refine aC hC (h311 _) ?_
    have hb' := hb
    simp only [byteOk, Bool.and_eq_true, decide_eq_true_eq] at hb'
    have e : (decide (((s[j]).toNat : Int) < 32) || decide (126 < ((s[j]).toNat : Int))) = false := by simp; omega
    simp -implicitDefEqProofs only [go_sem, e]
    refine ⟨hlt, by rw [all_snoc hlt, hI, hb]; rfl, Wk.slots (by simp) ?_ ?_⟩ <;> simp [go_sem]
   ·have hb : byteOk s[j] = false := by simpa using hb
    have hd := decode_bad hlt hb
    simp -implicitDefEqProofs only [go_sem]
    refine aC hC (h311 _) ?_
    have e : (decide (((Utf8.decode ⟨s.toArray⟩ j).1 : Int) < 32) || decide (126 < ((Utf8.decode ⟨s.toArray⟩ j).1 : Int))) = true := by simp; omega
    simp -implicitDefEqProofs only [go_sem, e]
    refine aF ?_ ?_ <;> simp [go_sem, firstBad_some hlt hI hb]
  ·rw [size_mk] at hlt
   have hge : s.length <= j := by
    rcases Nat.lt_or_ge j s.length with h | h
    ·rw [show Nat.blt j s.length = true from Nat.ble_eq_true_of_le h] at hlt; cases hlt
    ·exact h
   rw [aU hge] at hI
   simp -implicitDefEqProofs only [go_sem]
   refine aF ?_ ?_ <;> simp [go_sem, firstBad_none hI]
theorem h301 (s : List UInt8) (hs : s.length < 2 ^ 30) : Pure (PC GL) 301 [.str s, .fn (.func 311) [] []] (.i (firstBad s)) := by
 refine k301.pure (by simp) (by simp [go_sem]) (by simp [go_sem]) ?_
 simp -implicitDefEqProofs only [c301, r301, go_sem]
 repeat' (first | simp -implicitDefEqProofs only [go_sem, *] | with_reducible refine aX (fun _ => ?_) (fun _ => ?_) | with_reducible refine aY (fun _ => ?_) (fun _ => ?_) | with_reducible refine aG (fun _ => ?_) (fun _ => ?_) | with_reducible refine aF ?_ ?_ | (refine aC hC (h315 _ hs) ?_) | ((with_reducible refine And.intro ?bnd ?_); (case bnd => decide)) | fail)
 all_goals simp_all [go_sem]
theorem h286 (s : List UInt8) (hs : s.length < 2 ^ 30) : Pure (PC GL) 286 [.str s] (.b (nameOk s)) := by
 refine k286.pure (by simp) (by simp [go_sem]) (by simp [go_sem]) ?_
 simp -implicitDefEqProofs only [c286, r286, go_sem]
 simp -implicitDefEqProofs only [go_sem, dge]
 repeat' (first | simp -implicitDefEqProofs only [go_sem, *, dle, firstBad_neg] | with_reducible refine aX (fun _ => ?_) (fun _ => ?_) | with_reducible refine aY (fun _ => ?_) (fun _ => ?_) | with_reducible refine aG (fun _ => ?_) (fun _ => ?_) | with_reducible refine aF ?_ ?_ | (refine aC hC (h301 _ hs) ?_) | ((with_reducible refine And.intro ?bnd ?_); (case bnd => decide)) | fail)
 all_goals simp_all [go_sem, nameOk]
 all_goals (intros; omega)
def Tm.bare (t : Tm) (n s l : Bool) : Bool := (n || t.n == 0) && ((s || t.s == []) && (l || (t.l.length : Int) == 0))
def Tm.nodeOk (t : Tm) : Bool :=
 if t.kind = 1 then t.bare true false false && (decide (0 <= t.n) && decide (t.n < 100000))
 else if t.kind = 2 then t.bare true false false && (decide (-2147483647 <= t.n) && decide (t.n <= 2147483647))
 else if t.kind = 3 then t.bare false true false && nameOk t.s
 else if t.kind = 4 then t.bare false true false && decide ((t.s.length : Int) <= 255)
 else if t.kind = 5 then t.bare false true true && (nameOk t.s && (decide (1 <= (t.l.length : Int)) && decide ((t.l.length : Int) <= 16)))
 else if t.kind = 6 then t.bare false false true && decide ((t.l.length : Int) <= 64)
 else false
mutual
def Tm.nodesOk : Tm -> Bool
 | .mk k n s l => (Tm.mk k n s l).nodeOk && nodesOks l
def nodesOks : List Tm -> Bool
 | [] => true
 | t :: r => t.nodesOk && nodesOks r
end
theorem bC (t : Tm) : t.nodesOk = (t.nodeOk && nodesOks t.l) := by cases t; rfl
theorem nodesOks_app : ∀ a b, nodesOks (a ++ b) = (nodesOks a && nodesOks b)
 | [], b => by simp [nodesOks]
 | x :: r, b => by simp only [List.cons_append, nodesOks, nodesOks_app r b, Bool.and_assoc]
theorem cC {l : List Tm} {j : Nat} (h : j < l.length) : nodesOks (l.take (j + 1)) = (nodesOks (l.take j) && l[j].nodesOk) := by
 rw [bB h, nodesOks_app]; simp [nodesOks]
theorem cF {l : List Tm} (h : nodesOks l = true) {x : Tm} (hx : x ∈ l) : x.nodesOk = true := by
 induction l with
 | nil => cases hx
 | cons y r ih =>
  simp only [nodesOks, Bool.and_eq_true] at h
  rcases List.mem_cons.1 hx with rfl | hx
  ·exact h.1
  ·exact ih h.2 hx
theorem deeps_mem {l : List Tm} {x : Tm} (hx : x ∈ l) : x.deep <= deeps l := by
 induction l with
 | nil => cases hx
 | cons y r ih =>
  simp only [deeps]
  rcases List.mem_cons.1 hx with rfl | hx
  ·omega
  ·have := ih hx; omega
mutual
def Tm.strs : Tm -> Prop
 | .mk _ _ s l => s.length < 2 ^ 30 /\ strss l
def strss : List Tm -> Prop
 | [] => True
 | t :: r => t.strs /\ strss r
end
theorem strs_eq (t : Tm) : t.strs ↔ t.s.length < 2 ^ 30 /\ strss t.l := by cases t; rfl
theorem cV : ∀ {l : List Tm}, strss l -> ∀ x ∈ l, x.strs
 | y :: r, h, x, hx => by
  rcases List.mem_cons.1 hx with rfl | hx
  ·exact h.1
  ·exact cV h.2 x hx
def Tm.ok (t : Tm) : Bool := decide (t.size <= 4000) && (decide (t.deep <= 600) && t.nodesOk)
theorem h282 (t : Tm) (n s l : Bool) : Pure (PC GL) 282 [enc t, .b n, .b s, .b l] (.b (t.bare n s l)) := by
 refine k282.pure (by simp) (by simp [go_sem]) (by simp [go_sem]) ?_
 simp -implicitDefEqProofs only [c282, r282, go_sem]
 repeat' (first | simp -implicitDefEqProofs only [go_sem, *] | with_reducible refine aX (fun _ => ?_) (fun _ => ?_) | with_reducible refine aY (fun _ => ?_) (fun _ => ?_) | with_reducible refine aG (fun _ => ?_) (fun _ => ?_) | with_reducible refine aF ?_ ?_ | ((with_reducible refine And.intro ?bnd ?_); (case bnd => decide)) | fail)
 all_goals simp_all [go_sem, Tm.bare]
def frmH : List AObj := [.cells 287 [.fn (.func 282) [] []]]
def frmV (k : Nat) : AV := .agg [.v .nilFunc, .fn (.func 283) [] [.ref k 0], .fn (.func 284) [] [.ref k 0], .fn (.func 285) [] [.ref k 0], .fn (.func 287) [] [.ref k 0], .fn (.func 288) [] [.ref k 0], .fn (.func 289) [] [.ref k 0]]
theorem cP : ∀ (i : Nat) (x : AObj), frmH[i]? = some x -> bdO frmH.length x := by
 intro i x hx
 cases i with
 | zero => simp [frmH] at hx; subst hx; simp [bdO, bds, bd]
 | succ i => simp [frmH] at hx
theorem bG {GL : Glob} {x v : AV} {h h1 : List AObj} (hw : wkr x v) (hb : bd 0 v) (hh : Wk GL h1.length [] h [] h1) : ∃ y h', Wk GL h1.length [(0, x)] h [(0, y)] h' /\ h' = h1 /\ ARes.val y = ARes.val v := by
 refine ⟨v, h1, fun E A G w f hW hf => ?_, rfl, rfl⟩
 obtain ⟨E', A', G', g1, g2, g3, g4, g5⟩ := hh E A G w (fun _ => undef) hW (fun i => by simp [tget, Rep])
 refine ⟨E', A', G', g1, fun i => ?_, g3, g4, g5⟩
 simp only [tget]
 split
 ·rename_i hi
  have := hf i
  simp only [tget, hi] at this
  have h6 := Rep.wk _ _ _ hw this
  have h7 : Rep E' A G w v (f i) := Rep.ren (κ := fun k => k) (E := E) (E' := E') (fun k hk hk' => g5 k (by rw [<- g1.n]; exact hk)) _ _ (bd_mono (Nat.zero_le _) v hb) (by rw [ren_id]; exact h6)
  exact h7.mono (Env.le_refl _) g3
 ·simp [Rep]
theorem bK {GL : Glob} {ex : List AObj} : Wk GL frmH.length [] (frmH ++ ex) [] frmH := Wk.slots (Nat.le_refl _) (by simp [SlotsOk]) (by simp [frmH, ObjsOk, renO, rens, ren, wkO, wkrs, wkr, bdO, bds, bd])
theorem h283 (t : Tm) : PureOn (PC GL) 283 [enc t, .ref 0 0] (.b (t.bare true false false && (decide (0 <= t.n) && decide (t.n < 100000)))) frmH := by
 refine k283.call (by simp) ?_
 simp -implicitDefEqProofs only [go_sem, c283, r283, frmH]
 refine aC hC (h282 _ _ _ _) ?_
 repeat' (first | simp -implicitDefEqProofs only [go_sem, *] | with_reducible refine aX (fun _ => ?_) (fun _ => ?_) | with_reducible refine aY (fun _ => ?_) (fun _ => ?_) | with_reducible refine aG (fun _ => ?_) (fun _ => ?_) | with_reducible refine aF ?_ ?_ | ((with_reducible refine And.intro ?bnd ?_); (case bnd => decide)) | fail)
 all_goals (refine bG (h1 := frmH) ?_ ?_ bK <;> simp_all [go_sem])
theorem h284 (t : Tm) : PureOn (PC GL) 284 [enc t, .ref 0 0] (.b (t.bare true false false && (decide (-2147483647 <= t.n) && decide (t.n <= 2147483647)))) frmH := by
 refine k284.call (by simp) ?_
 simp -implicitDefEqProofs only [go_sem, c284, r284, frmH]
 refine aC hC (h282 _ _ _ _) ?_
 repeat' (first | simp -implicitDefEqProofs only [go_sem, *] | with_reducible refine aX (fun _ => ?_) (fun _ => ?_) | with_reducible refine aY (fun _ => ?_) (fun _ => ?_) | with_reducible refine aG (fun _ => ?_) (fun _ => ?_) | with_reducible refine aF ?_ ?_ | ((with_reducible refine And.intro ?bnd ?_); (case bnd => decide)) | fail)
 all_goals (refine bG (h1 := frmH) ?_ ?_ bK <;> simp_all [go_sem])
theorem h285 (t : Tm) (hs : t.s.length < 2 ^ 30) : PureOn (PC GL) 285 [enc t, .ref 0 0] (.b (t.bare false true false && nameOk t.s)) frmH := by
 refine k285.call (by simp) ?_
 simp -implicitDefEqProofs only [go_sem, c285, r285, frmH]
 refine aC hC (h282 _ _ _ _) ?_
 repeat' (first | simp -implicitDefEqProofs only [go_sem, *] | with_reducible refine aX (fun _ => ?_) (fun _ => ?_) | with_reducible refine aY (fun _ => ?_) (fun _ => ?_) | with_reducible refine aG (fun _ => ?_) (fun _ => ?_) | with_reducible refine aF ?_ ?_ | (refine aC hC (h286 _ hs) ?_) | ((with_reducible refine And.intro ?bnd ?_); (case bnd => decide)) | fail)
 all_goals (refine bG (h1 := frmH) ?_ ?_ bK <;> simp_all [go_sem])
theorem h287 (t : Tm) : PureOn (PC GL) 287 [enc t, .ref 0 0] (.b (t.bare false true false && decide ((t.s.length : Int) <= 255))) frmH := by
 refine k287.call (by simp) ?_
 simp -implicitDefEqProofs only [go_sem, c287, r287, frmH]
 refine aC hC (h282 _ _ _ _) ?_
 repeat' (first | simp -implicitDefEqProofs only [go_sem, *] | with_reducible refine aX (fun _ => ?_) (fun _ => ?_) | with_reducible refine aY (fun _ => ?_) (fun _ => ?_) | with_reducible refine aG (fun _ => ?_) (fun _ => ?_) | with_reducible refine aF ?_ ?_ | ((with_reducible refine And.intro ?bnd ?_); (case bnd => decide)) | fail)
 all_goals (refine bG (h1 := frmH) ?_ ?_ bK <;> simp_all [go_sem])
theorem h288 (t : Tm) (hs : t.s.length < 2 ^ 30) : PureOn (PC GL) 288 [enc t, .ref 0 0] (.b (t.bare false true true && (nameOk t.s && (decide (1 <= (t.l.length : Int)) && decide ((t.l.length : Int) <= 16))))) frmH := by
 refine k288.call (by simp) ?_
 simp -implicitDefEqProofs only [go_sem, c288, r288, frmH]
 refine aC hC (h282 _ _ _ _) ?_
 repeat' (first | simp -implicitDefEqProofs only [go_sem, *] | with_reducible refine aX (fun _ => ?_) (fun _ => ?_) | with_reducible refine aY (fun _ => ?_) (fun _ => ?_) | with_reducible refine aG (fun _ => ?_) (fun _ => ?_) | with_reducible refine aF ?_ ?_ | (refine aC hC (h286 _ hs) ?_) | ((with_reducible refine And.intro ?bnd ?_); (case bnd => decide)) | fail)
 all_goals (refine bG (h1 := frmH) ?_ ?_ bK <;> simp_all [go_sem])
theorem h289 (t : Tm) : PureOn (PC GL) 289 [enc t, .ref 0 0] (.b (t.bare false false true && decide ((t.l.length : Int) <= 64))) frmH := by
 refine k289.call (by simp) ?_
 simp -implicitDefEqProofs only [go_sem, c289, r289, frmH]
 refine aC hC (h282 _ _ _ _) ?_
 repeat' (first | simp -implicitDefEqProofs only [go_sem, *] | with_reducible refine aX (fun _ => ?_) (fun _ => ?_) | with_reducible refine aY (fun _ => ?_) (fun _ => ?_) | with_reducible refine aG (fun _ => ?_) (fun _ => ?_) | with_reducible refine aF ?_ ?_ | ((with_reducible refine And.intro ?bnd ?_); (case bnd => decide)) | fail)
 all_goals (refine bG (h1 := frmH) ?_ ?_ bK <;> simp_all [go_sem])
theorem e243 : (match evCall GL (mkT Tryz.prog) (mkKC Tryz.prog) (withD Tryz.prog GL NoN) 30 (.fn 243) [] [] with
 | some (.val x, h) => beqAV x (frmV 0) && (match h with | [.cells T l] => Nat.beq T 287 && beqAVs l [.fn (.func 282) [] []] | _ => false)
 | _ => false) = true := by kernel_rfl
theorem h243 (h : List AObj) {R : ARes -> List AObj -> Prop} (hR : R (.val (frmV h.length)) (h ++ frmH)) : PC GL (.fn 243) [] h R := by
 have h0 : ACall Tryz.prog GL 243 [] [] fun r h' => r = .val (frmV 0) /\ h' = frmH := by
  have he := e243 (GL := GL)
  split at he
  ·rename_i x h1 hx
   simp only [Bool.and_eq_true] at he
   have h2 := beqAV_eq he.1
   have h3 := he.2
   split at h3
   ·simp only [Bool.and_eq_true] at h3
    exact reckon NoN_ok hx ⟨by rw [h2], by rw [frmH, Nat.eq_of_beq_eq_true h3.1, bI h3.2]⟩
   ·cases h3
  ·cases he
 have h1 := frame (h := h) (by simp [bds]) h0
 refine ACall.mono _ _ _ _ _ ?_ h1
 rintro r h' ⟨r0, h0, ⟨rfl, rfl⟩, rfl, rfl⟩
 have e : frmH.map (renO (· + h.length)) = frmH := by simp [frmH, renO, rens, ren]
 rw [e]
 simpa [renR, ren, rens, frmV] using hR
end Go.Rip
