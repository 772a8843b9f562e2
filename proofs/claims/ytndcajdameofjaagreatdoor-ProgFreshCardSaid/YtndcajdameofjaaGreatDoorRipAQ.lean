/- ProgGoals. -/
import Derived.Test.YtndcajdameofjaaGreatDoorRipAO
import Derived.Test.YtndcajdameofjaaGreatDoorRipAP

namespace Go.Rip
open Go Go.Proofs
variable {GL : Glob}
attribute [local irreducible] Pure
theorem goal_size (t : Tm) : t.goalR.2.2.size ≤ t.size := by
  have hp := size_pos t
  have hz : Tm.size .zero = 1 := by simp [Tm.zero, Tm.size, sizes]
  unfold Tm.goalR
  split
  · unfold Tm.goal
    split
    · rename_i g p h1 h2
      split
      · simp only [hz]; omega
      · have := size_lt (t := t) (x := g) (by rw [h2]; simp)
        simp only; omega
    · simp only [hz]; omega
    · split
      · simp only [hz]; omega
      · exact Nat.le_refl _
  · simp only [hz]; omega
theorem h3 (t : Tm) (s : Sym) (hw : t.wid) : Pure (PC GLs) 3 [enc t, encSym s] (.b true) := by
  have f1 := h17 (GL := GLs) [[t]] 2000 (by simp [wids, hw]) (by simp) (by omega)
  obtain ⟨a, n⟩ := s
  refine k3.pure (by simp) (by simp [go_sem, encSym]) (by simp [go_sem]) ?_
  simp -implicitDefEqProofs only [go_sem, c3, r3, encSym]
  refine call_pure hC sane_ok ?_
  simp -implicitDefEqProofs only [go_sem, blt01, Bool.not_true]
  refine call_fz f1 ?_ ?_
  · simp [fzs, fzGs, fzG, fzG_enc, encL]
  rcases hc : cnts [[t]].flatten 2000 1 with ⟨_ | _, x⟩
  · simp -implicitDefEqProofs only [go_sem, Bool.not_false]
    refine fin_pure ?_ ?_ <;> simp [go_sem]
  · have hx := (cnts_true [t] 2000 1 x (by omega) (by simpa using hc))
    simp only [sizes, strss] at hx
    obtain ⟨x0, x1, x2, -⟩ := hx
    have hs : t.size < 2 ^ 30 := by omega
    have f2 := h18 (GL := GLs) t hs x2
    have f3 := h19 (GL := GLs) t hs x2
    have f4 := h20 t hs x2
    have f5 := h21 (GL := GLs) t hs x2
    have f6 := h22 t hs x2
    have f7 := h23 (GL := GLs) t hs x2
    have f8 := h24 (GL := GLs) t.goalR.2.2 (by have := goal_size t; omega) t.goalR.2.2
    have f9 := h25 (GL := GLs) ⟨a, n⟩
    have f10 := h26 (GL := GLs) ⟨a, n⟩
    rw [same_refl] at f8
    simp only [encG] at f2 f3
    simp -implicitDefEqProofs only [go_sem, Bool.not_true]
    repeat' (first | simp -implicitDefEqProofs only [go_sem, *, beq_self_eq_true] | with_reducible refine gdO_and (fun _ => ?_) (fun _ => ?_) | with_reducible refine pkO_and (fun _ => ?_) (fun _ => ?_) | with_reducible refine cdO_and (fun _ => ?_) (fun _ => ?_) | with_reducible refine fin_pure ?_ ?_ | ((with_reducible apply call_pure hC); (exact f2)) | ((with_reducible apply call_pure hC); (exact f3)) | ((with_reducible apply call_pure hC); (exact f4)) | ((with_reducible apply call_pure hC); (exact f5)) | ((with_reducible apply call_pure hC); (exact f6)) | ((with_reducible apply call_pure hC); (exact f7)) | ((with_reducible apply call_pure hC); (exact f8)) | ((with_reducible apply call_pure hC); (exact f9)) | ((with_reducible apply call_pure hC); (exact f10)) | ((with_reducible refine And.intro ?bnd ?_); (case bnd => decide)) | fail)
    all_goals simp_all [go_sem]
end Go.Rip

/- Arguments that are clauses, procedures, programs, queries, numbers: their readings. -/
namespace Go.Rip
open Go
section
variable {H : Type} {enc' : TypeId × Value → H} {P : Program} {W : World} {sp : Nat → Bool} {held : Bool}

/-- A struct's layout: a cell for each field. -/
structure StTy (P : Program) (t : TypeId) (ts : List TypeId) : Prop where
  s : ∃ fs, P.underlying t = some (.struct fs) ∧ (P.cellsOf t == fs.size && (List.range fs.size).all fun i => fs[i]?.all fun (f : Field) => f.offset == i && P.cellsOf f.type == 1) = true ∧ fs.toList.map (·.type) = ts
/-- A cell's reading. -/
def CellOk (enc' : TypeId × Value → H) (P : Program) (W : World) (sp : Nat → Bool) (held : Bool) (n : Nat) (t : TypeId) (c : Value) : Prop := ∃ y, DataW.trod enc' P W 0 sp held n t [c] = some y ∧ ∀ v ∈ y.1.weights P t, v ≤ reachBytes
/-- A struct's cells stand for a list of values, each read by its field. -/
theorem struct_reps {fuel : Nat} {t : TypeId} {ts : List TypeId} {cs : List Value} {x : DataW H × List MemPlace} (hS : StTy P t ts) (h : DataW.trod enc' P W 0 sp held fuel t cs = some x) (hw : ∀ y ∈ x.1.weights P t, y ≤ reachBytes) (Q : Nat → AV → Prop)
    (hr : ∀ (i : Nat) (tf : TypeId), ts[i]? = some tf → ∀ n c, fuel = n + 1 → CellOk enc' P W sp held n tf c → ∃ a, Q i a ∧ Rep env0 (allA W) (allG W) W a c) :
    ∃ l : List AV, l.length = ts.length ∧ (∀ (i : Nat) (a : AV), l[i]? = some a → Q i a) ∧ Reps env0 (allA W) (allG W) W l cs := by
  obtain ⟨fs, h1, h2, h3⟩ := hS.s
  obtain ⟨n, rfl, h4, h5⟩ := struct_cells h1 h2 h hw
  have hlen : ts.length = cs.length := by rw [h4, ← h3]; simp
  have step : ∀ m, m ≤ cs.length → ∃ l : List AV, l.length = m ∧ (∀ (i : Nat) (a : AV), l[i]? = some a → Q i a) ∧ Reps env0 (allA W) (allG W) W l (cs.take m) := by
    intro m
    induction m with
    | zero => intro _; exact ⟨[], rfl, fun i a h => by simp at h, by simp [Reps]⟩
    | succ m ih =>
      intro hm
      obtain ⟨l, l1, l2, l3⟩ := ih (by omega)
      have hmt : m < ts.length := by omega
      obtain ⟨f, f1, f2⟩ := field_at h3 (i := m) (List.getElem?_eq_getElem hmt)
      obtain ⟨c, y, c1, c2, c3⟩ := h5 m f f1
      rw [f2] at c2 c3
      obtain ⟨a, a1, a2⟩ := hr m _ (List.getElem?_eq_getElem hmt) n c rfl ⟨y, c2, c3⟩
      have ec : cs[m] = c := by
        rw [List.getElem?_eq_getElem (by omega)] at c1
        exact Option.some.inj c1
      refine ⟨l ++ [a], by simp [l1], fun i b hb => ?_, ?_⟩
      · rw [List.getElem?_append] at hb
        split at hb
        · exact l2 i b hb
        · rename_i hi
          have := (List.getElem?_eq_some_iff.1 hb).1
          simp at this
          have hi' : i = m := by omega
          subst hi'
          simp [l1] at hb
          subst hb
          exact a1
      · rw [List.take_succ_eq_append_getElem (by omega), ec]
        exact l3.append (Reps.one a2)
  obtain ⟨l, l1, l2, l3⟩ := step cs.length (Nat.le_refl _)
  rw [List.take_length] at l3
  exact ⟨l, by rw [l1, hlen], l2, l3⟩

theorem cell_int {n : Nat} {t : TypeId} {c : Value} (ht : P.underlying t = some (.int .i64)) (h : CellOk enc' P W sp held n t c) : ∃ a, (∃ k, a = .i k) ∧ Rep env0 (allA W) (allG W) W a c := by
  obtain ⟨y, h, -⟩ := h
  obtain ⟨k, rfl⟩ := int_cell ht h
  exact ⟨.i k, ⟨k, rfl⟩, by simp [Rep]⟩
theorem cell_str {n : Nat} {t : TypeId} {c : Value} (ht : P.underlying t = some .string) (h : CellOk enc' P W sp held n t c) : ∃ a, (∃ s : List UInt8, a = .str s ∧ s.length ≤ 2 ^ 47) ∧ Rep env0 (allA W) (allG W) W a c := by
  obtain ⟨y, h, hw⟩ := h
  obtain ⟨s, rfl, hs⟩ := str_cell ht h hw
  exact ⟨.str s, ⟨s, rfl, hs⟩, by simp [Rep]⟩
/-- The type of a slice. -/
structure SlTy (P : Program) (t e : TypeId) (z : Nat) : Prop where
  t : P.underlying t = some (.slice e)
  c : P.cellsOf e = z
  z : 0 < z
  b : 1 ≤ P.bytesOf e
theorem cell_sl {n : Nat} {t e : TypeId} {z : Nat} {c : Value} (hS : SlTy P t e z) (h : CellOk enc' P W sp held n t c) {α : Type} (f : α → AV) (Q : α → Prop) (hagg : ∀ a, ∃ l, f a = .agg l ∧ l.length = z ∧ l.all AV.one = true)
    (hk : ∀ n' ci y, DataW.trod enc' P W 0 sp held n' e ci = some y → (∀ v ∈ y.1.weights P e, v ≤ reachBytes) → ∃ a, Q a ∧ Reps env0 (allA W) (allG W) W (f a).cells ci) :
    ∃ a, (∃ l : List α, a = .sl z (l.map f) ∧ (∀ x ∈ l, Q x) ∧ l.length ≤ 2 ^ 47) ∧ Rep env0 (allA W) (allG W) W a c := by
  obtain ⟨y, h, hw⟩ := h
  obtain ⟨c', l, hc, hr, hq, hl⟩ := rep_slice hS.t hS.c hS.z hS.b h hw f Q hagg fun n' ci y _ hy hwy => hk n' ci y hy hwy
  obtain rfl : c = c' := by simpa using hc
  exact ⟨_, ⟨l, rfl, hq, hl⟩, hr⟩

def Cl.wid (c : Cl) : Prop := (wids c.head ∧ c.head.length ≤ 2 ^ 47) ∧ (wids c.guard ∧ c.guard.length ≤ 2 ^ 47) ∧ wids c.body ∧ c.body.length ≤ 2 ^ 47
def Pr.wid (p : Pr) : Prop := p.name.length ≤ 2 ^ 47 ∧ (∀ c ∈ p.clauses, c.wid) ∧ p.clauses.length ≤ 2 ^ 47
def Pg.wid (p : Pg) : Prop := (∀ q ∈ p.procs, q.wid) ∧ p.procs.length ≤ 2 ^ 47
def Qy.wid (q : Qy) : Prop := wids q.goals ∧ q.goals.length ≤ 2 ^ 47
structure ClTy (P : Program) (tC tT tL tS tI : TypeId) : Prop where
  tm : TmTy P tT tL tS tI
  s : StTy P tC [tI, tI, tL, tL, tL]
structure PrTy (P : Program) (tP tLC tC tT tL tS tI : TypeId) : Prop where
  c : ClTy P tC tT tL tS tI
  l : SlTy P tLC tC 5
  s : StTy P tP [tS, tI, tLC]
structure PgTy (P : Program) (tG tLP tP tLC tC tT tL tS tI : TypeId) : Prop where
  p : PrTy P tP tLC tC tT tL tS tI
  l : SlTy P tLP tP 3
  s : StTy P tG [tLP]
structure QyTy (P : Program) (tQ tT tL tS tI : TypeId) : Prop where
  tm : TmTy P tT tL tS tI
  s : StTy P tQ [tI, tL]
variable {tG tLP tP tLC tC tT tL tS tI tQ : TypeId}
theorem TmTy.sl (hP : TmTy P tT tL tS tI) : SlTy P tL tT 4 := ⟨hP.l, hP.c, by omega, hP.b⟩
theorem cell_tms {n : Nat} {c : Value} (hP : TmTy P tT tL tS tI) (h : CellOk enc' P W sp held n tL c) : ∃ a, (∃ l : List Tm, a = .sl 4 (l.map enc) ∧ wids l ∧ l.length ≤ 2 ^ 47) ∧ Rep env0 (allA W) (allG W) W a c := by
  obtain ⟨a, ⟨l, h1, h2, h3⟩, hr⟩ := cell_sl hP.sl h enc Tm.wid enc_one fun n' ci y hy hwy => rep_tm hP n' ci y hy hwy
  exact ⟨a, ⟨l, h1, wids_of h2, h3⟩, hr⟩
theorem encCl_one (a : Cl) : ∃ l, encCl a = .agg l ∧ l.length = 5 ∧ l.all AV.one = true := ⟨_, rfl, rfl, rfl⟩
theorem encPr_one (a : Pr) : ∃ l, encPr a = .agg l ∧ l.length = 3 ∧ l.all AV.one = true := ⟨_, rfl, rfl, rfl⟩
theorem rep_cl (hP : ClTy P tC tT tL tS tI) (fuel : Nat) (cs : List Value) (x : DataW H × List MemPlace) (h : DataW.trod enc' P W 0 sp held fuel tC cs = some x) (hw : ∀ y ∈ x.1.weights P tC, y ≤ reachBytes) :
    ∃ c : Cl, c.wid ∧ Reps env0 (allA W) (allG W) W (encCl c).cells cs := by
  obtain ⟨l, h1, h2, h3⟩ := struct_reps hP.s h hw (fun i a => (i < 2 → ∃ k, a = .i k) ∧ (2 ≤ i → ∃ l : List Tm, a = .sl 4 (l.map enc) ∧ wids l ∧ l.length ≤ 2 ^ 47)) fun i tf hi n c _ hc => by
    match i, hi with
    | 0, hi => cases hi; obtain ⟨a, q, r⟩ := cell_int hP.tm.i hc; exact ⟨a, ⟨fun _ => q, fun h => absurd h (by omega)⟩, r⟩
    | 1, hi => cases hi; obtain ⟨a, q, r⟩ := cell_int hP.tm.i hc; exact ⟨a, ⟨fun _ => q, fun h => absurd h (by omega)⟩, r⟩
    | 2, hi => cases hi; obtain ⟨a, q, r⟩ := cell_tms hP.tm hc; exact ⟨a, ⟨fun h => absurd h (by omega), fun _ => q⟩, r⟩
    | 3, hi => cases hi; obtain ⟨a, q, r⟩ := cell_tms hP.tm hc; exact ⟨a, ⟨fun h => absurd h (by omega), fun _ => q⟩, r⟩
    | 4, hi => cases hi; obtain ⟨a, q, r⟩ := cell_tms hP.tm hc; exact ⟨a, ⟨fun h => absurd h (by omega), fun _ => q⟩, r⟩
    | i + 5, hi => simp at hi
  match l, h1 with
  | [a0, a1, a2, a3, a4], _ =>
    obtain ⟨k0, rfl⟩ := (h2 0 a0 rfl).1 (by omega)
    obtain ⟨k1, rfl⟩ := (h2 1 a1 rfl).1 (by omega)
    obtain ⟨l2, rfl, w2⟩ := (h2 2 a2 rfl).2 (by omega)
    obtain ⟨l3, rfl, w3⟩ := (h2 3 a3 rfl).2 (by omega)
    obtain ⟨l4, rfl, w4⟩ := (h2 4 a4 rfl).2 (by omega)
    exact ⟨⟨k0, k1, l2, l3, l4⟩, ⟨w2, w3, w4⟩, h3⟩
theorem rep_pr (hP : PrTy P tP tLC tC tT tL tS tI) (fuel : Nat) (cs : List Value) (x : DataW H × List MemPlace) (h : DataW.trod enc' P W 0 sp held fuel tP cs = some x) (hw : ∀ y ∈ x.1.weights P tP, y ≤ reachBytes) :
    ∃ p : Pr, p.wid ∧ Reps env0 (allA W) (allG W) W (encPr p).cells cs := by
  obtain ⟨l, h1, h2, h3⟩ := struct_reps hP.s h hw (fun i a => (i = 0 → ∃ s : List UInt8, a = .str s ∧ s.length ≤ 2 ^ 47) ∧ (i = 1 → ∃ k, a = .i k) ∧ (i = 2 → ∃ l : List Cl, a = .sl 5 (l.map encCl) ∧ (∀ x ∈ l, x.wid) ∧ l.length ≤ 2 ^ 47)) fun i tf hi n c _ hc => by
    match i, hi with
    | 0, hi => cases hi; obtain ⟨a, q, r⟩ := cell_str hP.c.tm.s hc; exact ⟨a, ⟨fun _ => q, fun h => absurd h (by omega), fun h => absurd h (by omega)⟩, r⟩
    | 1, hi => cases hi; obtain ⟨a, q, r⟩ := cell_int hP.c.tm.i hc; exact ⟨a, ⟨fun h => absurd h (by omega), fun _ => q, fun h => absurd h (by omega)⟩, r⟩
    | 2, hi => cases hi; obtain ⟨a, q, r⟩ := cell_sl hP.l hc encCl Cl.wid encCl_one fun n' ci y hy hwy => rep_cl hP.c n' ci y hy hwy; exact ⟨a, ⟨fun h => absurd h (by omega), fun h => absurd h (by omega), fun _ => q⟩, r⟩
    | i + 3, hi => simp at hi
  match l, h1 with
  | [a0, a1, a2], _ =>
    obtain ⟨s, rfl, ws⟩ := (h2 0 a0 rfl).1 rfl
    obtain ⟨k1, rfl⟩ := (h2 1 a1 rfl).2.1 rfl
    obtain ⟨l2, rfl, w2⟩ := (h2 2 a2 rfl).2.2 rfl
    exact ⟨⟨s, k1, l2⟩, ⟨ws, w2⟩, h3⟩
theorem rep_pg (hP : PgTy P tG tLP tP tLC tC tT tL tS tI) (fuel : Nat) (cs : List Value) (x : DataW H × List MemPlace) (h : DataW.trod enc' P W 0 sp held fuel tG cs = some x) (hw : ∀ y ∈ x.1.weights P tG, y ≤ reachBytes) :
    ∃ p : Pg, p.wid ∧ Reps env0 (allA W) (allG W) W (encPg p).cells cs := by
  obtain ⟨l, h1, h2, h3⟩ := struct_reps hP.s h hw (fun i a => ∃ l : List Pr, a = .sl 3 (l.map encPr) ∧ (∀ x ∈ l, x.wid) ∧ l.length ≤ 2 ^ 47) fun i tf hi n c _ hc => by
    match i, hi with
    | 0, hi => cases hi; exact cell_sl hP.l hc encPr Pr.wid encPr_one fun n' ci y hy hwy => rep_pr hP.p n' ci y hy hwy
    | i + 1, hi => simp at hi
  match l, h1 with
  | [a0], _ =>
    obtain ⟨l, rfl, w⟩ := h2 0 a0 rfl
    exact ⟨⟨l⟩, w, h3⟩
theorem rep_qy (hP : QyTy P tQ tT tL tS tI) (fuel : Nat) (cs : List Value) (x : DataW H × List MemPlace) (h : DataW.trod enc' P W 0 sp held fuel tQ cs = some x) (hw : ∀ y ∈ x.1.weights P tQ, y ≤ reachBytes) :
    ∃ q : Qy, q.wid ∧ Reps env0 (allA W) (allG W) W (encQy q).cells cs := by
  obtain ⟨l, h1, h2, h3⟩ := struct_reps hP.s h hw (fun i a => (i = 0 → ∃ k, a = .i k) ∧ (i = 1 → ∃ l : List Tm, a = .sl 4 (l.map enc) ∧ wids l ∧ l.length ≤ 2 ^ 47)) fun i tf hi n c _ hc => by
    match i, hi with
    | 0, hi => cases hi; obtain ⟨a, q, r⟩ := cell_int hP.tm.i hc; exact ⟨a, ⟨fun _ => q, fun h => absurd h (by omega)⟩, r⟩
    | 1, hi => cases hi; obtain ⟨a, q, r⟩ := cell_tms hP.tm hc; exact ⟨a, ⟨fun h => absurd h (by omega), fun _ => q⟩, r⟩
    | i + 2, hi => simp at hi
  match l, h1 with
  | [a0, a1], _ =>
    obtain ⟨k0, rfl⟩ := (h2 0 a0 rfl).1 rfl
    obtain ⟨l1, rfl, w1⟩ := (h2 1 a1 rfl).2 rfl
    exact ⟨⟨k0, l1⟩, w1, h3⟩

variable {base : Nat} {r : Reach} {v : Value} {d : DataW H} {p : List MemPlace}
theorem arg_int (ht : P.underlying tI = some (.int .i64)) (hv : Value.okWide P W r base tI v) : ∃ k : Int, Rep env0 (allA W) (allG W) W (.i k) v := by
  obtain ⟨k, rfl⟩ := WideShapes.okWide_int ht hv
  exact ⟨k, by simp [Rep]⟩
/-- An argument that is a struct. -/
theorem arg_st {t : TypeId} {ts : List TypeId} (hS : StTy P t ts) (hv : Value.okWide P W r base t v) (h : DataW.Trod enc' P W 0 sp held t v d p) (hw : ∀ y ∈ d.weights P t, y ≤ reachBytes) {α : Type} {f : α → AV} {Q : α → Prop} (hagg : ∀ a, ∃ l, f a = .agg l ∧ l.all AV.one = true)
    (hk : ∀ n' ci y, DataW.trod enc' P W 0 sp held n' t ci = some y → (∀ v ∈ y.1.weights P t, v ≤ reachBytes) → ∃ a, Q a ∧ Reps env0 (allA W) (allG W) W (f a).cells ci) : ∃ a, Q a ∧ Rep env0 (allA W) (allG W) W (f a) v := by
  obtain ⟨fs, h1, -, -⟩ := hS.s
  obtain ⟨cs, rfl, -⟩ := WideShapes.okWide_struct h1 hv
  obtain ⟨fuel, h⟩ := h
  obtain ⟨a, h2, h3⟩ := hk fuel _ _ h hw
  refine ⟨a, h2, ?_⟩
  obtain ⟨l, h4, h5⟩ := hagg a
  rw [h4] at h3 ⊢
  exact rep_agg h5 h3
theorem arg_cl (hP : ClTy P tC tT tL tS tI) (hv : Value.okWide P W r base tC v) (h : DataW.Trod enc' P W 0 sp held tC v d p) (hw : ∀ y ∈ d.weights P tC, y ≤ reachBytes) : ∃ c : Cl, c.wid ∧ Rep env0 (allA W) (allG W) W (encCl c) v :=
  arg_st hP.s hv h hw (fun _ => ⟨_, rfl, rfl⟩) fun n' ci y hy hwy => rep_cl hP n' ci y hy hwy
theorem arg_pg (hP : PgTy P tG tLP tP tLC tC tT tL tS tI) (hv : Value.okWide P W r base tG v) (h : DataW.Trod enc' P W 0 sp held tG v d p) (hw : ∀ y ∈ d.weights P tG, y ≤ reachBytes) : ∃ c : Pg, c.wid ∧ Rep env0 (allA W) (allG W) W (encPg c) v :=
  arg_st hP.s hv h hw (fun _ => ⟨_, rfl, rfl⟩) fun n' ci y hy hwy => rep_pg hP n' ci y hy hwy
theorem arg_qy (hP : QyTy P tQ tT tL tS tI) (hv : Value.okWide P W r base tQ v) (h : DataW.Trod enc' P W 0 sp held tQ v d p) (hw : ∀ y ∈ d.weights P tQ, y ≤ reachBytes) : ∃ c : Qy, c.wid ∧ Rep env0 (allA W) (allG W) W (encQy c) v :=
  arg_st hP.s hv h hw (fun _ => ⟨_, rfl, rfl⟩) fun n' ci y hy hwy => rep_qy hP n' ci y hy hwy
end
end Go.Rip
