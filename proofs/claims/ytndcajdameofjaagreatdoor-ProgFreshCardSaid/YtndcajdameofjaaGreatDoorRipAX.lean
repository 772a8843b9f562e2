/- Terms numbered anew. -/
import Derived.Test.YtndcajdameofjaaGreatDoorRipAW
import Derived.Test.YtndcajdameofjaaGreatDoorRipAQ

namespace Go.Rip
open Go
set_option maxRecDepth 100000
variable {GL : Glob}
theorem idxI_not : ∀ {l : List Int} {v : Int}, v ∉ l → idxI v l = none
  | [], _, _ => rfl
  | x :: r, v, h => by
    simp only [List.mem_cons, not_or] at h
    simp [idxI, h.1, idxI_not h.2]
theorem nodup_ins : ∀ (vs l : List Int), l.Nodup → (vs.foldl ins l).Nodup
  | [], l, h => h
  | v :: r, l, h => by
    rw [List.foldl_cons]
    refine nodup_ins r _ ?_
    rw [ins]
    split
    · rename_i hv
      rw [List.nodup_append]
      refine ⟨h, by simp, fun a ha b hb => ?_⟩
      simp only [List.mem_singleton] at hb
      subst hb
      rintro rfl
      simp only [List.any_eq_false, beq_iff_eq] at hv
      exact hv a ha rfl
    · exact h
theorem nodup_varsOf (l : List Tm) : (varsOf l).Nodup := by rw [varsOf_occ]; exact nodup_ins _ _ List.nodup_nil
theorem not_before {l : List Int} (hn : l.Nodup) {j : Nat} (hj : j < l.length) : l[j] ∉ l.take j := fun hm => by
  obtain ⟨i, hi, he⟩ := List.mem_take_iff_getElem.1 hm
  exact List.pairwise_iff_getElem.1 hn i j (by omega) hj (by omega) he
theorem termsOk_ok {l : List Tm} (h : termsOk l = true) : ∀ t ∈ l, t.ok = true := fun t ht => by
  simp only [termsOk, Bool.and_eq_true, decide_eq_true_eq] at h
  simp only [Tm.ok, Bool.and_eq_true, decide_eq_true_eq]
  obtain ⟨i, hi, rfl⟩ := List.getElem_of_mem ht
  have := size_mem hi
  have := deeps_mem ht
  exact ⟨by omega, by omega, nodesOks_all h.1 _ ht⟩
theorem h128 (l : List Tm) (hl : sizes l < 2 ^ 30) (hs : strss l) (hok : termsOk l = true) : Pure (PC GL) 128 [.sl 4 (l.map enc)] (.tup [.sl 4 ((l.map (Tm.sub (varF (idx0 (varsOf l))))).map enc), .sl 1 ((varsOf l).map encI), .i 0]) := by
  have h4 := length_sizes l
  have q211 := h211v (GL := GL) l hl hs hok
  have hvl := varsOf_len l
  have hnd := nodup_varsOf l
  have hoks := termsOk_ok hok
  have h40 : sizes l ≤ 4000 := by simp only [termsOk, Bool.and_eq_true, decide_eq_true_eq] at hok; exact hok.2.2
  generalize hvs : varsOf l = vs at *
  refine k128.pure (by simp) (by simp [go_sem]) (by simp [go_sem, -List.map_map]) ?_
  simp -implicitDefEqProofs only [go_sem, c128, r128]
  refine call_pure hC q211 ?_
  simp -implicitDefEqProofs only [go_sem, ne00]
  refine s_forP hC (fun j _ => [(26, .i j), (24, .sl 1 (vs.map encI)), (25, .i vs.length), (7, .ref 1 0), (0, .sl 4 (l.map enc)), (5, .sl 1 (vs.map encI))]) (fun j (_ : Unit) h => h = [.map ((vs.take j).map encI) ((List.range j).map fun i => AV.i (i : Nat)), .cells 230 [.mp 0]]) vs.length ?_ fun j _ h hj hh => ?_
  · exact ⟨(), _, Wk.pick (Nat.zero_le _) (by simp [go_sem]), by simp⟩
  subst hh
  simp -implicitDefEqProofs only [go_sem]
  refine cdO_and (fun hlt => ?_) (fun hlt => ?_)
  · have hlt := lt_of_decide hlt
    have w5 : IntKind.i64.wrap ((j : Int) + 1) = (j : Int) + 1 := wrap_ok _ (by omega)
    have hi := idxI_not (not_before hnd hlt)
    simp -implicitDefEqProofs only [go_sem, hlt, getD_map, encI, find_int, hi]
    refine ⟨(), _, Wk.pick (Nat.zero_le _) (by simp [go_sem, w5]), ?_⟩
    simp [take_snoc_map hlt, encI]
  have hge := ge_of_decide hlt
  simp -implicitDefEqProofs only [go_sem, hlt, take_all_map hge]
  have hjl : j = vs.length := by omega
  subst hjl
  refine s_forP hC (fun j a => [(37, .i j), (10, .own a 4 ((l.take j).map fun t => enc (t.sub (varF (idx0 vs))))), (35, .sl 4 (l.map enc)), (36, .i l.length), (7, .ref 1 0), (5, .sl 1 (vs.map encI))]) (fun j a h => h[a]? = some (.spare 24 4) ∧ h[0]? = some (.map (vs.map encI) ((List.range vs.length).map fun i => AV.i (i : Nat))) ∧ h[1]? = some (.cells 230 [.mp 0])) l.length ?_ fun j a h hj ⟨ha, hm, hk⟩ => ?_
  · refine ⟨2, _, (Wk.own_nil 24 4 10 (by simp [go_sem]) (by simp)).trans (Wk.pick (by simp) (by simp [go_sem])), rfl, rfl, rfl⟩
  have ha_g := fun l => get_before (l := l) ha
  have ha_s := fun o l => set_before (l := l) ha o
  have ha_e := fun o l => get_set_app (o := o) (l := l) ha
  have ha_h := fun o => get_set (o := o) ha
  have hm_g := fun l => get_before (l := l) hm
  have hm_s := fun o l => set_before (l := l) hm o
  have hm_e := fun o l => get_set_app (o := o) (l := l) hm
  have hm_h := fun o => get_set (o := o) hm
  have hk_g := fun l => get_before (l := l) hk
  have hk_s := fun o l => set_before (l := l) hk o
  have hk_e := fun o l => get_set_app (o := o) (l := l) hk
  have hk_h := fun o => get_set (o := o) hk
  simp -implicitDefEqProofs only [go_sem]
  refine cdO_and (fun hlt => ?_) (fun hlt => ?_)
  · have hlt := lt_of_decide hlt
    have g1 := size_mem hlt
    have w5 : IntKind.i64.wrap ((j : Int) + 1) = (j : Int) + 1 := wrap_ok _ (by omega)
    have hm1 := List.getElem_mem hlt
    have g2 := size_sub (idx0 vs) l[j]
    have g3 := ok_sub (idx0 vs) l[j] (hoks _ hm1) fun v _ => by have := idx0_bound vs v; omega
    simp -implicitDefEqProofs only [go_sem, hlt, getD_map]
    refine call_gives hC (h212 213 [.ref 1 0] (varF (idx0 vs)) (fun v => by rw [varF, size_eq, Tm.l_mk]; simp only [sizes]; omega) l[j] _ (by omega) (by omega) (strs_sub _ _ (strss_mem hs _ hm1)) fun v h' hk' => h213 v vs 1 0 h' (hk'.got (hk_g _)) (hk'.got (hm_g _))) fun x h3 ⟨hx, hk3⟩ => ?_
    subst hx
    have a3 := hk3.got (ha_g _)
    have m3 := hk3.got (hm_g _)
    have k3 := hk3.got (hk_g _)
    have a3_g := fun l => get_before (l := l) a3
    have a3_s := fun o l => set_before (l := l) a3 o
    have a3_e := fun o l => get_set_app (o := o) (l := l) a3
    have a3_h := fun o => get_set (o := o) a3
    rw [if_pos g3, if_pos g3]
    simp -implicitDefEqProofs only [go_sem, List.append_assoc, a3_g, a3_s]
    refine ⟨by simp; omega, ?_⟩
    refine ⟨h3.length + 2, _, Wk.pick (Nat.zero_le _) (by simp [go_sem, w5, take_snoc_map hlt]), ?_, ?_, ?_⟩
    · rw [get_ge (by simp)]; simp
    · exact get_beside m3 a3 (by simp)
    · exact get_beside k3 a3 (by simp)
  · have hge := ge_of_decide hlt
    simp -implicitDefEqProofs only [go_sem, hlt, take_all_map hge]
    refine fin_pure ?_ (by simp [go_sem, -List.map_map])
    simp [go_sem]
end Go.Rip

/- Clauses numbered anew, and from a number on. -/
namespace Go.Rip
open Go
set_option maxRecDepth 100000
variable {GL : Glob}
theorem h207 : ∀ (n : Nat) (l : List Tm), sizes l ≤ n → n < 2 ^ 30 → Pure (PC GL) 207 [.sl 4 (l.map enc)] (.sl 4 (l.map enc)) := by
  intro n
  induction n with
  | zero =>
    intro l hl _
    have h4 := length_sizes l
    have : l = [] := List.length_eq_zero_iff.1 (by omega)
    subst this
    refine k207.pure (by simp) (by simp [go_sem]) (by simp [go_sem]) ?_
    simp -implicitDefEqProofs only [c207, r207, go_sem]
    refine s_forP hC (fun j (_ : Unit) => [(8, .i j), (7, .i (0 : Nat)), (3, .v (.slice none 0 0))]) (fun j (_ : Unit) h => True) 0 ⟨(), _, Wk.pick (Nat.zero_le _) (by simp [go_sem]), trivial⟩ fun j _ h hj _ => ?_
    have : j = 0 := by omega
    subst this
    simp -implicitDefEqProofs only [go_sem, show decide (((0 : Nat) : Int) < ((0 : Nat) : Int)) = false from rfl]
    refine fin_pure ?_ (by simp [go_sem])
    simp [go_sem]
  | succ n ih =>
  intro l hl hn
  have h4 := length_sizes l
  refine k207.pure (by simp) (by simp [go_sem]) (by simp [go_sem]) ?_
  simp -implicitDefEqProofs only [c207, r207, go_sem]
  refine s_forP hC (fun j a => [(8, .i j), (3, .own a 4 ((l.take j).map enc)), (6, .sl 4 (l.map enc)), (7, .i l.length)]) (fun j a h => h[a]? = some (.spare 24 4)) l.length ?_ fun j a h hj ha => ?_
  · refine ⟨0, _, (Wk.own_nil (h := []) 24 4 3 (by simp [go_sem]) (Nat.zero_le _)).trans (Wk.pick (by simp) (by simp [go_sem])), rfl⟩
  have ha_g := fun l => get_before (l := l) ha
  have ha_s := fun o l => set_before (l := l) ha o
  have ha_e := fun o l => get_set_app (o := o) (l := l) ha
  have ha_h := fun o => get_set (o := o) ha
  simp -implicitDefEqProofs only [go_sem]
  refine cdO_and (fun hlt => ?_) (fun hlt => ?_)
  · have hlt := lt_of_decide hlt
    have g1 := size_mem hlt
    have g2 := size_eq l[j]
    have w5 : IntKind.i64.wrap ((j : Int) + 1) = (j : Int) + 1 := wrap_ok _ (by omega)
    simp -implicitDefEqProofs only [go_sem, hlt, getD_map]
    refine call_pure hC (ih l[j].l (by omega) (by omega)) ?_
    simp -implicitDefEqProofs only [go_sem, List.append_assoc, ha_g, ha_s]
    refine ⟨by simp; omega, ?_⟩
    refine ⟨h.length + 2, _, Wk.pick (Nat.zero_le _) (by simp [go_sem, w5, take_snoc_map hlt]), ?_⟩
    rw [get_ge (by simp)]; simp
  · have hge := ge_of_decide hlt
    simp -implicitDefEqProofs only [go_sem, hlt, take_all_map hge]
    refine fin_pure ?_ (by simp [go_sem])
    simp [go_sem]
theorem sizes_drop (l : List Tm) (j : Nat) : sizes (l.drop j) ≤ sizes l := by
  conv => rhs; rw [← List.take_append_drop j l, sizes_app]
  omega
/-- The parts of a clause with as many tests and goals as another one. -/
def Cl.cut (c : Cl) (l : List Tm) (vars : Int) : Cl := ⟨c.mark, vars, l.take c.head.length, (l.drop c.head.length).take c.guard.length, l.drop (c.head.length + c.guard.length)⟩
theorem h141 (c : Cl) (l : List Tm) (vars : Int) (hl : sizes l < 2 ^ 30) (hab : c.head.length + c.guard.length ≤ l.length) : Pure (PC GL) 141 [encCl c, .sl 4 (l.map enc), .i vars] (encCl (c.cut l vars)) := by
  have h4 := length_sizes l
  have w : IntKind.i64.wrap ((c.head.length : Int) + (c.guard.length : Int)) = ((c.head.length + c.guard.length : Nat) : Int) := by rw [wrap_ok _ (by omega)]; simp
  have e1 : ((l.map enc).drop (Int.toNat 0)).take (c.head.length - Int.toNat 0) = (l.take c.head.length).map enc := by simp
  have e2 : ((l.map enc).drop c.head.length).take (c.head.length + c.guard.length - c.head.length) = ((l.drop c.head.length).take c.guard.length).map enc := by rw [Nat.add_sub_cancel_left, List.map_take, List.map_drop]
  have e3 : ((l.map enc).drop (c.head.length + c.guard.length)).take (l.length - (c.head.length + c.guard.length)) = (l.drop (c.head.length + c.guard.length)).map enc := by rw [List.map_drop, List.take_of_length_le (by simp)]
  have q1 := h207 (GL := GL) (sizes l) (l.take c.head.length) (sizes_take _ _) hl
  have q2 := h207 (GL := GL) (sizes l) ((l.drop c.head.length).take c.guard.length) (Nat.le_trans (sizes_take _ _) (sizes_drop _ _)) hl
  have q3 := h207 (GL := GL) (sizes l) (l.drop (c.head.length + c.guard.length)) (sizes_drop _ _) hl
  refine k141.pure (by simp) (by simp [go_sem]) (by simp [go_sem]) ?_
  simp -implicitDefEqProofs only [go_sem, c141, r141, encCl, w, Int.toNat_natCast, e1, e2, e3]
  refine ⟨by omega, by omega, by omega, ?_⟩
  refine call_pure hC q1 ?_
  simp -implicitDefEqProofs only [go_sem]
  refine call_pure hC q2 ?_
  simp -implicitDefEqProofs only [go_sem]
  refine call_pure hC q3 ?_
  simp -implicitDefEqProofs only [go_sem]
  refine fin_pure ?_ ?_ <;> simp [go_sem, Cl.cut, -List.map_take, -List.map_drop]
end Go.Rip

/- A clause numbered anew. -/
namespace Go.Rip
open Go
set_option maxRecDepth 100000
theorem sizes_sub (g : Int → Int) (l : List Tm) : sizes (l.map (Tm.sub (varF g))) ≤ sizes l := sizes_map_le fun x _ => size_sub g x
/-- A clause whose terms are numbered anew. -/
def Cl.normal (c : Cl) : Cl := c.cut (c.parts.map (Tm.sub (varF (idx0 (varsOf c.parts))))) (varsOf c.parts).length
theorem shaped_terms {c : Cl} {ar : Int} (h : c.shaped ar = true) : termsOk c.parts = true := by
  simp only [Cl.shaped, Bool.and_eq_true] at h
  exact h.2.1
theorem h47ok (c : Cl) (ht : sizes c.parts < 2 ^ 30) (hs : strss c.parts) (h16 : c.head.length ≤ 16) (hsh : c.shaped c.head.length = true) : Pure (PC GLs) 47 [encCl c] (.tup [encCl c.normal, .i 0]) := by
  have hok := shaped_terms hsh
  have h4 := length_sizes c.parts
  have q139 := h139 c c.head.length ht hs
  rw [hsh] at q139
  have q140 := h140 (GL := GLs) c (by omega)
  have q128 := h128 (GL := GLs) c.parts ht hs hok
  have q141 := h141 (GL := GLs) c (c.parts.map (Tm.sub (varF (idx0 (varsOf c.parts))))) (varsOf c.parts).length (by have := sizes_sub (idx0 (varsOf c.parts)) c.parts; omega) (by simp [Cl.parts])
  have e16 : decide ((c.head.length : Int) > 16) = false := decide_eq_false (by omega)
  simp only [encCl] at q139 q140 q141
  refine k47.pure (by simp) (by simp [go_sem]) (by simp [go_sem]) ?_
  simp -implicitDefEqProofs only [go_sem, c47, r47, encCl, e16]
  refine call_pure hC q139 ?_
  simp -implicitDefEqProofs only [go_sem, Bool.not_true]
  refine call_pure hC q140 ?_
  simp -implicitDefEqProofs only [go_sem]
  refine call_pure hC q128 ?_
  simp -implicitDefEqProofs only [go_sem, ne00]
  refine call_pure hC q141 ?_
  simp -implicitDefEqProofs only [go_sem]
  refine fin_pure ?_ ?_ <;> simp [go_sem, Cl.normal]
end Go.Rip

/- Terms from a number on. -/
namespace Go.Rip
open Go Go.Proofs
set_option maxRecDepth 100000
variable {GL : Glob}
theorem h257p {Φ : List Tm → List AObj → Prop} {K : Nat → AObj → Prop} {p : Tm → Prop} (happ : ∀ v h l, Φ v h → Φ v (h ++ l)) (hK : ∀ v h, Φ v h → ∀ i cs, h.length ≤ i → ¬ K i (.cells 24 cs)) (k N : Nat)
    (hY : ∀ v x h, p x → v.length < N → Φ v h → PC GL (.yld k) [enc x] h fun r h' => r = .val (.b true) ∧ Φ (v ++ [x]) h' ∧ Keep K h h') (t : Tm) (ht : t.size < 2 ^ 30) (hp : ∀ x ∈ t.pre, p x) :
    ∀ v h, v.length + t.size ≤ N → Φ v h → Gives (PC GL) 257 [enc t, .yld k] h fun x h' => x = .b true ∧ Φ (v ++ t.pre) h' ∧ Keep K h h' := by
  induction t using tm_ind with
  | _ t ih =>
  intro v h hN hv
  have hs := size_eq t
  have h4 := length_sizes t.l
  have hpk : ∀ x ∈ t.l, ∀ y ∈ x.pre, p y := fun x hx y hy => hp y (by
    rw [pre_eq]
    obtain ⟨a, b, e⟩ := List.append_of_mem hx
    rw [e, pres_app]
    simp only [pres, List.mem_cons, List.mem_append]
    exact .inr (.inr (.inl hy)))
  refine k257.gives (by simp) ?_
  simp -implicitDefEqProofs only [go_sem, c257, r257]
  refine call_any hC (hY v t _ (hp t (by rw [pre_eq]; simp)) (by omega) (happ _ _ _ hv)) fun r h1 ⟨hr, hv1, hk1⟩ => ?_
  subst hr
  have hb : h1[h.length]? = some (.cells 24 (enc t).cells) := hk1.get (by simp [go_sem]) (hK v h hv _ _ (Nat.le_refl _))
  have hk0 : Keep K h h1 := hk1.left
  simp -implicitDefEqProofs only [go_sem, hb]
  refine s_forP hC (fun j _ => [(14, .i j), (12, .sl 4 (t.l.map enc)), (13, .i t.l.length), (1, .yld k)]) (fun j (_ : Unit) h' => Φ (v ++ (t :: pres (t.l.take j))) h' ∧ Keep K h h') t.l.length ?_ ?_
  · exact ⟨(), h1, Wk.pick hk0.1 (by simp [go_sem]), by simpa [pres] using hv1, hk0⟩
  · rintro j - h2 hj ⟨hv2, hk2⟩
    simp -implicitDefEqProofs only [go_sem]
    refine cdO_and (fun hlt => ?_) (fun hlt => ?_)
    · have hlt := lt_of_decide hlt
      have g1 := size_mem hlt
      have g2 := sizes_take t.l (j + 1)
      have g3 := sizes_snoc hlt
      have w5 : IntKind.i64.wrap ((j : Int) + 1) = (j : Int) + 1 := wrap_ok _ (by omega)
      simp -implicitDefEqProofs only [go_sem, hlt, getD_map]
      refine call_gives hC (ih _ (List.getElem_mem hlt) (by omega) (hpk _ (List.getElem_mem hlt)) (v ++ (t :: pres (t.l.take j))) _ (by simp only [List.length_append, List.length_cons, pres_length]; omega) (happ _ _ _ hv2)) fun x h3 ⟨hx, hv3, hk3⟩ => ?_
      subst hx
      have hk4 : Keep K h h3 := hk2.trans hk3.left
      simp -implicitDefEqProofs only [go_sem]
      exact ⟨(), h3, Wk.pick hk4.1 (by simp [go_sem, w5]), by rw [pres_snoc hlt]; simpa using hv3, hk4⟩
    · have hge := ge_of_decide hlt
      rw [take_all hge] at hv2
      simp -implicitDefEqProofs only [go_sem, hlt]
      exact fin_gives hk2.1 ⟨rfl, by rw [pre_eq]; exact hv2, hk2⟩
theorem g256p {Φ : List Tm → List AObj → Prop} {K : Nat → AObj → Prop} {p : Tm → Prop} (happ : ∀ v h l, Φ v h → Φ v (h ++ l)) (hK : ∀ v h, Φ v h → ∀ i cs, h.length ≤ i → ¬ K i (.cells 24 cs)) (k N : Nat)
    (hY : ∀ v x h, p x → v.length < N → Φ v h → PC GL (.yld k) [enc x] h fun r h' => r = .val (.b true) ∧ Φ (v ++ [x]) h' ∧ Keep K h h') (t : Tm) (ht : t.size < 2 ^ 30) (hp : ∀ x ∈ t.pre, p x)
    (v : List Tm) (h : List AObj) (b : Nat) (hN : v.length + t.size ≤ N) (hv : Φ v h) (hb : h[b]? = some (.cells 24 (enc t).cells)) : PC GL (.gen 256) [.yld k, .ref b 0] h fun r h' => (∃ x, r = .val x) ∧ Φ (v ++ t.pre) h' ∧ Keep K h h' := by
  refine k256.gen (by simp) ?_
  simp -implicitDefEqProofs only [go_sem, c256, r256, hb]
  refine call_gives hC (h257p happ hK k N hY t ht hp v _ hN hv) fun x h3 ⟨hx, hv3, hk3⟩ => ?_
  simp -implicitDefEqProofs only [go_sem]
  exact ⟨_, h3, Wk.refl hk3.1, ⟨_, rfl⟩, hv3, hk3⟩
/-- A round of Shift's look at the nodes: a node that may be shifted. -/
theorem y148 {τ : List (Nat × AV)} (h3 : tget τ 3 = .ref 1 0) (n : Int) (k : Nat) (x : Tm) (hx : x.kind = 1 → 0 ≤ x.n ∧ x.n < 100000 ∧ 0 ≤ x.n + n ∧ x.n + n < 100000) (h : List AObj) (h1 : h[1]? = some (.cells 3 [.v (.int .i64 n)]))
    (hl : h[k]? = some (.loop τ 40 [16] (rfAt Tryz.prog Tryz.f148 0).1 (rfAt Tryz.prog Tryz.f148 0).2 .ready none)) :
    PC GL (.yld k) [enc x] h fun r h' => r = .val (.b true) ∧ Keep All h h' := by
  refine ayieldP hl kra148_0 krb148_0 rfl rfl rfl rfl ?_
  have hl' := fun l => get_before (l := l) hl
  simp -implicitDefEqProofs only [go_sem, ra148_0, hl']
  rw [set_before hl]
  generalize hB : h.set k (AObj.loop τ 40 [16] (rfAt Tryz.prog Tryz.f148 0).1 (rfAt Tryz.prog Tryz.f148 0).2 LoopState.busy none) = hb
  have hne : k ≠ 1 := by rintro rfl; rw [hl] at h1; cases h1
  have q1 : hb[1]? = some (.cells 3 [.v (.int .i64 n)]) := by rw [← hB, get_set_ne hne]; exact h1
  have qk : hb[k]? = some (.loop τ 40 [16] (rfAt Tryz.prog Tryz.f148 0).1 (rfAt Tryz.prog Tryz.f148 0).2 .busy none) := by rw [← hB]; exact get_set hl
  have hlen : h.length = hb.length := by rw [← hB]; simp
  rw [hlen]
  have q1' := fun l => get_before (l := l) q1
  have qk' := fun l => get_before (l := l) qk
  have same : ∀ cs, ∃ h', Wk GL hb.length [] ((hb ++ [AObj.cells 24 cs]).set k (AObj.loop τ 40 [16] (rfAt Tryz.prog Tryz.f148 0).1 (rfAt Tryz.prog Tryz.f148 0).2 LoopState.ready none)) [] h' ∧ Keep All h h' := fun cs => by
    refine ⟨_, Wk.refl (by simp), ?_⟩
    rw [set_before qk, ← hB, set_back hl]
    exact Keep.app _ _ _
  by_cases hk : x.kind = 1
  · have e : (x.kind == 1) = true := by simpa using hk
    obtain ⟨a1, a2, a3, a4⟩ := hx hk
    have w1 : IntKind.i64.wrap (0 - x.n) = 0 - x.n := wrap_ok _ (by omega)
    have w2 : IntKind.i64.wrap (100000 - x.n) = 100000 - x.n := wrap_ok _ (by omega)
    have d1 : decide (n < 0 - x.n) = false := decide_eq_false (by omega)
    have d2 : decide (n ≥ 100000 - x.n) = false := decide_eq_false (by omega)
    simp -implicitDefEqProofs only [go_sem, rb148_0, e, h3, q1', w1, w2, d1, d2, qk', Bool.not_false]
    exact same _
  · have e : (x.kind == 1) = false := by simpa using hk
    simp -implicitDefEqProofs only [go_sem, rb148_0, e, qk']
    exact same _
theorem sub_congr {f g : Int → Int} (t : Tm) (hg : ∀ v ∈ occ [t], f v = g v) : t.sub (varF f) = t.sub (varF g) := by
  induction t using tm_ind with
  | _ t ih =>
  rw [sub_eq (varF f), sub_eq (varF g)]
  split
  · rename_i hk
    rw [varF, varF, hg t.n (by rw [occ_one, vn, if_pos hk]; simp)]
  · congr 1
    exact List.map_congr_left fun x hx => ih x hx fun v hv => hg v (occ_kid hx hv)
theorem occ_pre {t x : Tm} (hx : x ∈ t.pre) (hk : x.kind = 1) : x.n ∈ occ [t] := by
  simp only [occ, pres, List.append_nil, List.mem_filterMap]
  exact ⟨x, hx, by rw [vn, if_pos hk]⟩
theorem occ_bound {t : Tm} (h : t.nodesOk = true) : ∀ v ∈ occ [t], 0 ≤ v ∧ v < 100000 := by
  induction t using tm_ind with
  | _ t ih =>
  intro v hv
  rw [occ_one] at hv
  have hh := h
  rw [nodesOk_eq, Bool.and_eq_true] at h
  have kids : v ∈ occ t.l → 0 ≤ v ∧ v < 100000 := by
    have : ∀ l : List Tm, (∀ x ∈ l, ∀ v ∈ occ [x], 0 ≤ v ∧ v < 100000) → v ∈ occ l → 0 ≤ v ∧ v < 100000 := by
      intro l
      induction l with
      | nil => intro _ hv; simp [occ_nil] at hv
      | cons y r ihr =>
        intro hl hv
        rw [occ_cons, List.mem_append] at hv
        rcases hv with hv | hv
        · exact hl y (by simp) v hv
        · exact ihr (fun x hx => hl x (by simp [hx])) hv
    exact this t.l fun x hx => ih x hx (nodesOks_all h.2 x hx)
  by_cases hk : t.kind = 1
  · rw [vn, if_pos hk] at hv
    simp only [List.mem_cons] at hv
    rcases hv with rfl | hv
    · exact (var_leaf hh hk).2.2
    · exact kids hv
  · rw [vn, if_neg hk] at hv
    exact kids hv
theorem range148 {τ : List (Nat × AV)} (h3 : tget τ 3 = .ref 1 0) (n : Int) (t : Tm) (ht : t.size < 2 ^ 30) (hp : ∀ x ∈ t.pre, x.kind = 1 → 0 ≤ x.n ∧ x.n < 100000 ∧ 0 ≤ x.n + n ∧ x.n + n < 100000) (h : List AObj) {R : ARes → List AObj → Prop}
    (h0 : h = [.cells 24 [.v (.int .i64 t.kind), .v (.int .i64 t.n), .str t.s, .sl 4 (t.l.map enc)], .cells 3 [.v (.int .i64 n)], .cells 24 [.v (.int .i64 0), .v (.int .i64 0), .str [], .v (.slice none 0 0)], .cells 39 [.v (.int .i64 0)], .cells 24 [.v (.int .i64 t.kind), .v (.int .i64 t.n), .str t.s, .sl 4 (t.l.map enc)], .loop τ 40 [16] (rfAt Tryz.prog Tryz.f148 0).1 (rfAt Tryz.prog Tryz.f148 0).2 .ready none])
    {args : List AV} (ha : args = [.yld 5, .ref 4 0])
    (hR : ∀ x h', h'[0]? = some (.cells 24 [.v (.int .i64 t.kind), .v (.int .i64 t.n), .str t.s, .sl 4 (t.l.map enc)]) → h'[1]? = some (.cells 3 [.v (.int .i64 n)]) → h'[2]? = some (.cells 24 [.v (.int .i64 0), .v (.int .i64 0), .str [], .v (.slice none 0 0)]) → h'[3]? = some (.cells 39 [.v (.int .i64 0)]) → h'[5]? = some (.loop τ 40 [16] (rfAt Tryz.prog Tryz.f148 0).1 (rfAt Tryz.prog Tryz.f148 0).2 .ready none) → R (.val x) h') : PC GL (.gen 256) args h R := by
  subst h0 ha
  refine call_any hC (g256p (K := All) (p := fun x => x.kind = 1 → 0 ≤ x.n ∧ x.n < 100000 ∧ 0 ≤ x.n + n ∧ x.n + n < 100000) (Φ := fun _ h' => h'[0]? = some (.cells 24 [.v (.int .i64 t.kind), .v (.int .i64 t.n), .str t.s, .sl 4 (t.l.map enc)]) ∧ h'[1]? = some (.cells 3 [.v (.int .i64 n)]) ∧ h'[2]? = some (.cells 24 [.v (.int .i64 0), .v (.int .i64 0), .str [], .v (.slice none 0 0)]) ∧ h'[3]? = some (.cells 39 [.v (.int .i64 0)]) ∧ h'[5]? = some (.loop τ 40 [16] (rfAt Tryz.prog Tryz.f148 0).1 (rfAt Tryz.prog Tryz.f148 0).2 .ready none))
    (fun _ h' l e => by obtain ⟨a, b, c, d, f⟩ := e; exact ⟨get_before a, get_before b, get_before c, get_before d, get_before f⟩) (fun _ _ _ _ _ _ => id) 5 (2 ^ 32) (fun v x h' hx hN e => call_any hC (y148 h3 n 5 x hx h' e.2.1 e.2.2.2.2) fun r h'' q => by obtain ⟨a, b, c, d, f⟩ := e; exact ⟨q.1, ⟨q.2.got a, q.2.got b, q.2.got c, q.2.got d, q.2.got f⟩, q.2⟩)
    t ht hp [] _ 4 (by simp; omega) ⟨rfl, rfl, rfl, rfl, rfl⟩ (by rw [enc_cells]; rfl)) fun r h2 q => ?_
  obtain ⟨⟨x, rfl⟩, ⟨q0, q1, q2, q3, q5⟩, -⟩ := q
  exact hR x h2 q0 q1 q2 q3 q5
theorem h148 (t : Tm) (n : Int) (ht : t.size < 2 ^ 30) (hs : t.strs) (hok : t.ok = true) (hg : ∀ v ∈ occ [t], 0 ≤ v + n ∧ v + n < 100000) : Pure (PC GL) 148 [enc t, .i n] (.tup [enc (t.sub (varF fun v => v + n)), .i 0]) := by
  have q95 := h95 (GL := GL) t ht hs
  rw [hok, if_pos rfl] at q95
  have hnk : t.nodesOk = true := by simp only [Tm.ok, Bool.and_eq_true] at hok; exact hok.2.2
  have hob := occ_bound hnk
  have h40 : t.size ≤ 4000 := by simp only [Tm.ok, Bool.and_eq_true, decide_eq_true_eq] at hok; exact hok.1
  have hc : t.sub (varF fun v => IntKind.i64.wrap (v + n)) = t.sub (varF fun v => v + n) := sub_congr t fun v hv => by
    have := hg v hv
    exact wrap_ok _ (by omega)
  have gs := size_sub (fun v => IntKind.i64.wrap (v + n)) t
  have gk := ok_sub (fun v => v + n) t hok hg
  refine k148.pure (by simp) (by simp [go_sem]) (by simp [go_sem]) ?_
  simp -implicitDefEqProofs only [c148, r148, go_sem]
  refine call_pure hC q95 ?_
  simp -implicitDefEqProofs only [go_sem, ne00]
  refine call_gives hC (h223 _ _) fun x h1 ⟨hx, hh⟩ => ?_
  subst hx; subst hh
  simp -implicitDefEqProofs only [go_sem]
  refine range148 (by simp [go_sem]) n t ht (fun x hx hk => ⟨(hob _ (occ_pre hx hk)).1, (hob _ (occ_pre hx hk)).2, hg _ (occ_pre hx hk)⟩) _ rfl rfl fun x h2 q0 q1 q2 q3 q5 => ?_
  have k0 : (h2.set 5 .dead)[0]? = some (.cells 24 [.v (.int .i64 t.kind), .v (.int .i64 t.n), .str t.s, .sl 4 (t.l.map enc)]) := by rw [get_set_ne (by decide)]; exact q0
  have k1 : (h2.set 5 .dead)[1]? = some (.cells 3 [.v (.int .i64 n)]) := by rw [get_set_ne (by decide)]; exact q1
  have k2 : (h2.set 5 .dead)[2]? = some (.cells 24 [.v (.int .i64 0), .v (.int .i64 0), .str [], .v (.slice none 0 0)]) := by rw [get_set_ne (by decide)]; exact q2
  have k3 : (h2.set 5 .dead)[3]? = some (.cells 39 [.v (.int .i64 0)]) := by rw [get_set_ne (by decide)]; exact q3
  simp -implicitDefEqProofs only [go_sem, q5, k0]
  refine call_gives hC (h212 224 [.ref 1 0] (varF fun v => IntKind.i64.wrap (v + n)) (fun v => by rw [varF, size_eq, Tm.l_mk]; simp only [sizes]; omega) t _ ht (by omega) (strs_sub _ _ hs) fun v h' hk' => h224 v n 1 h' (hk'.got k1)) fun x h3 ⟨hx, hk3⟩ => ?_
  subst hx
  rw [hc, if_pos gk, if_pos gk]
  have m2 := hk3.got k2
  have m3 := hk3.got k3
  have m4 := fun o => (get_set_ne (h := h3) (o := o) (show 2 ≠ 3 by decide)).trans m3
  have m5 := fun o o' => get_set (o := o') (m4 o)
  have m6 := fun o o' => (get_set_ne (h := h3.set 2 o) (o := o') (show 3 ≠ 2 by decide)).trans (get_set (o := o) m2)
  simp -implicitDefEqProofs only [go_sem, m2, m4, m5, m6]
  refine fin_pure ?_ ?_ <;> simp [go_sem, wkr_enc]
end Go.Rip

/- A clause from a number on. -/
namespace Go.Rip
open Go
set_option maxRecDepth 100000
def Cl.nul : Cl := ⟨0, 0, [], [], []⟩
theorem wkr_nulC : wkr (.agg [.v (.int .i64 0), .v (.int .i64 0), .v (.slice none 0 0), .v (.slice none 0 0), .v (.slice none 0 0)]) (encCl Cl.nul) := by simp [encCl, Cl.nul, wkr, wkrs]
/-- A clause whose variables are greater by a number. -/
def Cl.fresh (c : Cl) (m : Int) : Cl := c.cut (c.parts.map (Tm.sub (varF fun v => v + m))) c.vars
/-- Numbers from which there are not enough variables. -/
def freshBad (c : Cl) (m : Int) : Prop := m < 0 ∨ m ≥ 100000 ∨ m > 100000 - c.vars
theorem ok_range {c : Cl} {ar : Int} (h : c.ok ar = true) : c.shaped ar = true ∧ isRange (varsOf c.parts) = true ∧ ((varsOf c.parts).length : Int) = c.vars := by
  simpa only [Cl.ok, normT, Bool.and_eq_true, beq_iff_eq] using h
theorem range_mem {l : List Int} (h : isRange l = true) {v : Int} (hv : v ∈ l) : 0 ≤ v ∧ v < l.length := by
  obtain ⟨i, h1, h2⟩ := idxI_get hv
  have hi := idxI_lt h1
  rw [isRange, decide_eq_true_eq] at h
  rw [h i hi] at h2
  have := Option.some.inj h2
  omega
theorem h58ok (c : Cl) (m : Int) (ht : sizes c.parts < 2 ^ 30) (hs : strss c.parts) (h16 : c.head.length ≤ 16) (hok : c.ok c.head.length = true) : ∀ (_ : ¬ freshBad c m), Pure (PC GLs) 58 [encCl c, .i m] (.tup [encCl (c.fresh m), .i 0]) := by
  intro hb
  have b1 : ¬ m < 0 := fun h => hb (.inl h)
  have b2 : ¬ m ≥ 100000 := fun h => hb (.inr (.inl h))
  have b3 : ¬ m > 100000 - c.vars := fun h => hb (.inr (.inr h))
  obtain ⟨hsh, hr, hv⟩ := ok_range hok
  have hto := shaped_terms hsh
  have hoks := termsOk_ok hto
  have h4 := length_sizes c.parts
  have hvl := varsOf_len c.parts
  have q143 := h143 c c.head.length ht hs
  rw [hok] at q143
  have q140 := h140 (GL := GLs) c (by omega)
  have q141 := h141 (GL := GLs) c (c.parts.map (Tm.sub (varF fun v => v + m))) c.vars (by have := sizes_sub (fun v => v + m) c.parts; omega) (by simp [Cl.parts])
  have e16 : decide ((c.head.length : Int) > 16) = false := decide_eq_false (by omega)
  have d1 : decide (m < 0) = false := decide_eq_false (by omega)
  have d2 : decide (m ≥ 100000) = false := decide_eq_false (by omega)
  have w0 : IntKind.i64.wrap (100000 - c.vars) = 100000 - c.vars := wrap_ok _ (by omega)
  have d3 : decide (m > 100000 - c.vars) = false := decide_eq_false (by omega)
  have hvar : ∀ t ∈ c.parts, ∀ v ∈ occ [t], 0 ≤ v + m ∧ v + m < 100000 := fun t htm v hvm => by
    have := range_mem hr (mem_varsOf.2 (occ_mem htm hvm))
    omega
  simp only [encCl] at q143 q140 q141
  refine k58.pure (by simp) (by simp [go_sem]) (by simp [go_sem]) ?_
  simp -implicitDefEqProofs only [go_sem, c58, r58, encCl, e16]
  refine call_pure hC q143 ?_
  simp -implicitDefEqProofs only [go_sem, Bool.not_true, d1, d2, w0, d3]
  refine call_pure hC q140 ?_
  simp -implicitDefEqProofs only [go_sem]
  refine s_forP hC (fun j a => [(41, .i j), (6, .own a 4 ((c.parts.take j).map fun t => enc (t.sub (varF fun v => v + m)))), (39, .sl 4 (c.parts.map enc)), (40, .i c.parts.length), (1, .i m), (2, .ref 0 0), (4, .ref 1 0)]) (fun j a h => h[a]? = some (.spare 24 4) ∧ h[0]? = some (.cells 68 (encCl c).cells) ∧ h[1]? = some (.cells 68 [.v (.int .i64 0), .v (.int .i64 0), .v (.slice none 0 0), .v (.slice none 0 0), .v (.slice none 0 0)])) c.parts.length ?_ fun j a h hj ⟨ha, hm, hk⟩ => ?_
  · refine ⟨2, _, (Wk.own_nil 24 4 6 (by simp [go_sem]) (by simp)).trans (Wk.pick (by simp) (by simp [go_sem])), rfl, rfl, rfl⟩
  simp only [encCl, AV.cells] at hm
  have ha_g := fun l => get_before (l := l) ha
  have ha_s := fun o l => set_before (l := l) ha o
  have ha_e := fun o l => get_set_app (o := o) (l := l) ha
  have ha_h := fun o => get_set (o := o) ha
  have hm_g := fun l => get_before (l := l) hm
  have hm_s := fun o l => set_before (l := l) hm o
  have hm_e := fun o l => get_set_app (o := o) (l := l) hm
  have hm_h := fun o => get_set (o := o) hm
  have hk_g := fun l => get_before (l := l) hk
  have hk_s := fun o l => set_before (l := l) hk o
  have hk_e := fun o l => get_set_app (o := o) (l := l) hk
  have hk_h := fun o => get_set (o := o) hk
  simp -implicitDefEqProofs only [go_sem]
  refine cdO_and (fun hlt => ?_) (fun hlt => ?_)
  · have hlt := lt_of_decide hlt
    have g1 := size_mem hlt
    have w5 : IntKind.i64.wrap ((j : Int) + 1) = (j : Int) + 1 := wrap_ok _ (by omega)
    have hm1 := List.getElem_mem hlt
    simp -implicitDefEqProofs only [go_sem, hlt, getD_map]
    refine call_pure hC (h148 c.parts[j] m (by omega) (strss_mem hs _ hm1) (hoks _ hm1) (hvar _ hm1)) ?_
    simp -implicitDefEqProofs only [go_sem, get_at_add, set_at_add, List.append_assoc, ha_g, ha_s, ne00]
    refine ⟨by simp; omega, ?_⟩
    refine ⟨h.length + 3, _, Wk.pick (Nat.zero_le _) (by simp [go_sem, w5, take_snoc_map hlt]), ?_, ?_, ?_⟩
    · rw [get_ge (by simp)]; simp
    · simp only [encCl, AV.cells]; exact get_beside hm ha (by simp)
    · exact get_beside hk ha (by simp)
  · have hge := ge_of_decide hlt
    simp -implicitDefEqProofs only [go_sem, hlt, take_all_map hge, hm]
    have em : (c.parts.map fun t => enc (t.sub (varF fun v => v + m))) = (c.parts.map (Tm.sub (varF fun v => v + m))).map enc := by simp
    rw [em]
    refine call_fz q141 (by simp [fzs, fzGs, fzG, fzGs_encs, ← encs_map, -List.map_map]) ?_
    simp -implicitDefEqProofs only [go_sem, hk, hk_h]
    refine fin_pure ?_ ?_ <;> simp [go_sem, Cl.fresh]
theorem h58bad (c : Cl) (m : Int) (ht : sizes c.parts < 2 ^ 30) (hs : strss c.parts) (h16 : c.head.length ≤ 16) (hok : c.ok c.head.length = true) (hb : freshBad c m) : Pure (PC GLs) 58 [encCl c, .i m] (.tup [encCl Cl.nul, .i 1]) := by
  obtain ⟨hsh, hr, hv⟩ := ok_range hok
  have hvl := varsOf_len c.parts
  have q143 := h143 c c.head.length ht hs
  rw [hok] at q143
  have e16 : decide ((c.head.length : Int) > 16) = false := decide_eq_false (by omega)
  have w0 : IntKind.i64.wrap (100000 - c.vars) = 100000 - c.vars := wrap_ok _ (by omega)
  simp only [encCl] at q143
  refine k58.pure (by simp) (by simp [go_sem]) (by simp [go_sem]) ?_
  simp -implicitDefEqProofs only [go_sem, c58, r58, encCl, e16]
  refine call_pure hC q143 ?_
  by_cases b1 : m < 0
  · have d1 : decide (m < 0) = true := decide_eq_true b1
    simp -implicitDefEqProofs only [go_sem, Bool.not_true, d1]
    exact fin_pure (wkr_pair wkr_nulC rfl) (by simp [go_sem])
  have d1 : decide (m < 0) = false := decide_eq_false b1
  by_cases b2 : m ≥ 100000
  · have d2 : decide (m ≥ 100000) = true := decide_eq_true b2
    simp -implicitDefEqProofs only [go_sem, Bool.not_true, d1, d2]
    exact fin_pure (wkr_pair wkr_nulC rfl) (by simp [go_sem])
  have d2 : decide (m ≥ 100000) = false := decide_eq_false b2
  have d3 : decide (m > 100000 - c.vars) = true := decide_eq_true ((hb.resolve_left b1).resolve_left b2)
  simp -implicitDefEqProofs only [go_sem, Bool.not_true, d1, d2, w0, d3]
  exact fin_pure (wkr_pair wkr_nulC rfl) (by simp [go_sem])
end Go.Rip

/- The reference's: equal lists, equal clauses, greater variables. -/
namespace Go.Rip
open Go
set_option maxRecDepth 100000
variable {GL : Glob}
noncomputable def sames (a b : List Tm) : Bool := @decide (a = b) (Classical.propDecidable _)
theorem sames_iff {a b : List Tm} : sames a b = true ↔ a = b := by simp [sames]
theorem h35 (a : List Tm) (hs : sizes a < 2 ^ 30) (b : List Tm) (hb : b.length < 2 ^ 47) : Pure (PC GL) 35 [.sl 4 (a.map enc), .sl 4 (b.map enc)] (.b (sames a b)) := by
  have h4 := length_sizes a
  refine k35.pure (by simp) (by simp [go_sem]) (by simp [go_sem]) ?_
  simp -implicitDefEqProofs only [c35, r35, go_sem]
  by_cases hl : a.length = b.length
  · have e : ((a.length : Int) != (b.length : Int)) = false := by simp [hl]
    simp -implicitDefEqProofs only [go_sem, e]
    refine s_forP hC (fun j (_ : Unit) => [(5, .i j), (0, .sl 4 (a.map enc)), (1, .sl 4 (b.map enc))]) (fun j (_ : Unit) _ => a.take j = b.take j) a.length ⟨(), _, Wk.pick (Nat.zero_le _) (by simp [go_sem]), by simp⟩ fun j _ h hj hI => ?_
    simp -implicitDefEqProofs only [go_sem]
    refine cdO_and (fun hlt => ?_) (fun hlt => ?_)
    · have hlt := lt_of_decide hlt
      have hlb : j < b.length := by omega
      have g1 := size_mem hlt
      have w5 : IntKind.i64.wrap ((j : Int) + 1) = (j : Int) + 1 := wrap_ok _ (by omega)
      have db : decide ((j : Int) < (b.length : Int)) = true := decide_eq_true (by omega)
      simp -implicitDefEqProofs only [go_sem, hlt, hlb, getD_map]
      refine call_pure hC (h24 a[j] (by omega) b[j]) ?_
      simp -implicitDefEqProofs only [go_sem]
      by_cases hx : a[j] = b[j]
      · have e2 : a[j].same b[j] = true := same_iff.2 hx
        simp -implicitDefEqProofs only [go_sem, e2, Bool.not_true]
        refine ⟨(), _, Wk.pick (Nat.zero_le _) (by simp [go_sem, w5]), ?_⟩
        rw [List.take_succ_eq_append_getElem hlt, List.take_succ_eq_append_getElem hlb, hI, hx]
      · have e2 : a[j].same b[j] = false := same_false hx
        have e3 : sames a b = false := by
          rw [Bool.eq_false_iff]
          intro h
          have := sames_iff.1 h
          subst this
          exact hx rfl
        simp -implicitDefEqProofs only [go_sem, e2, e3, Bool.not_false]
        refine fin_pure ?_ ?_ <;> simp [go_sem]
    · have hge := ge_of_decide hlt
      rw [take_all hge, take_all (by omega)] at hI
      have e3 : sames a b = true := sames_iff.2 hI
      simp -implicitDefEqProofs only [go_sem, hlt, e3]
      refine fin_pure ?_ ?_ <;> simp [go_sem]
  · have e : ((a.length : Int) != (b.length : Int)) = true := by simp; omega
    have e3 : sames a b = false := by
      rw [Bool.eq_false_iff]
      intro h
      exact hl (by rw [sames_iff.1 h])
    simp -implicitDefEqProofs only [go_sem, e, e3]
    refine fin_pure ?_ ?_ <;> simp [go_sem]
/-- The same clause is told to be the same. -/
theorem h56 (c : Cl) (hs : sizes c.parts < 2 ^ 30) : Pure (PC GL) 56 [encCl c, encCl c] (.b true) := by
  have hp : sizes c.parts = sizes c.head + (sizes c.guard + sizes c.body) := by simp [Cl.parts, sizes_app]
  have l1 := length_sizes c.head
  have l2 := length_sizes c.guard
  have l3 := length_sizes c.body
  have q1 := h35 (GL := GL) c.head (by omega) c.head (by omega)
  have q2 := h35 (GL := GL) c.guard (by omega) c.guard (by omega)
  have q3 := h35 (GL := GL) c.body (by omega) c.body (by omega)
  rw [sames_iff.2 rfl] at q1 q2 q3
  refine k56.pure (by simp) (by simp [go_sem]) (by simp [go_sem]) ?_
  simp -implicitDefEqProofs only [go_sem, c56, r56, encCl, beq_self_eq_true]
  refine call_pure hC q1 ?_
  simp -implicitDefEqProofs only [go_sem]
  refine call_pure hC q2 ?_
  simp -implicitDefEqProofs only [go_sem]
  refine call_pure hC q3 ?_
  simp -implicitDefEqProofs only [go_sem]
  refine fin_pure ?_ ?_ <;> simp [go_sem]
theorem h130 (t : Tm) (ht : t.size < 2 ^ 30) (hs : t.strs) (hok : t.ok = true) : Pure (PC GL) 130 [enc t] (.i 0) := by
  have q := h97 (GL := GL) t ht hs
  rw [hok] at q
  refine k130.pure (by simp) (by simp [go_sem]) (by simp [go_sem]) ?_
  simp -implicitDefEqProofs only [c130, r130, go_sem]
  refine call_pure hC q ?_
  simp -implicitDefEqProofs only [go_sem, Bool.not_true]
  refine fin_pure ?_ ?_ <;> simp [go_sem]
end Go.Rip

/- The reference's Shift, and the law's moved. -/
namespace Go.Rip
open Go
set_option maxRecDepth 100000
variable {GL : Glob}
theorem get_other {h l : List AObj} {i j : Nat} {y o : AObj} (hj : h[j]? = some y) (hn : i ≠ j) : (h.set i o ++ l)[j]? = some y := get_before ((get_set_ne hn).trans hj)
theorem get_other2 {h l : List AObj} {i i' j : Nat} {y o o' : AObj} (hj : h[j]? = some y) (hn : i ≠ j) (hn' : i' ≠ j) : ((h.set i o).set i' o' ++ l)[j]? = some y := get_before ((get_set_ne hn').trans ((get_set_ne hn).trans hj))
/-- What lies there while a tree is shifted. -/
def ShAt (t : Tm) (m : Int) (g : Int → Int) (j : Nat) (h : List AObj) : Prop :=
  h[0]? = some (.cells 24 [.v (.int .i64 t.kind), .v (.int .i64 t.n), .str t.s, .sl 4 (t.l.map enc)]) ∧ h[1]? = some (.cells 24 [.v (.int .i64 0), .v (.int .i64 0), .str [], .v (.slice none 0 0)]) ∧ ((j = 0 ∧ h[2]? = some (.cells 24 [.v (.int .i64 t.kind), .v (.int .i64 m), .str t.s, .v (.slice none 0 0)])) ∨
    ∃ a, h[2]? = some (.cells 24 [.v (.int .i64 t.kind), .v (.int .i64 m), .str t.s, .own a 4 ((t.l.take j).map fun x => enc (x.sub (varF g)))]) ∧ h[a]? = some (.spare 24 4))
theorem h222 (n : Int) (hn : -100000 ≤ n ∧ n ≤ 100000) (t : Tm) (ht : t.size < 2 ^ 30) (hnk : t.nodesOk = true) (hg : ∀ v ∈ occ [t], 0 ≤ v + n ∧ v + n < 100000) : Pure (PC GL) 222 [enc t, .i n] (.tup [enc (t.sub (varF fun v => v + n)), .b true]) := by
  induction t using tm_ind with
  | _ t ih =>
  have hs := size_eq t
  have h4 := length_sizes t.l
  have hnk' := hnk
  rw [nodesOk_eq, Bool.and_eq_true] at hnk
  have hse := sub_eq (varF fun v => v + n) t
  have hob := occ_bound hnk'
  refine k222.pure (by simp) (by simp [go_sem]) (by simp [go_sem]) ?_
  simp -implicitDefEqProofs only [c222, r222, go_sem]
  by_cases hx : t.kind = 1
  · have e : (t.kind == 1) = true := by simpa using hx
    rw [if_pos hx] at hse
    obtain ⟨va, vb, vc, vd⟩ := var_leaf hnk' hx
    have hv := hg t.n (by rw [occ_one, vn, if_pos hx]; simp)
    have w1 : IntKind.i64.wrap (t.n + n) = t.n + n := wrap_ok _ (by omega)
    have d1 : decide (n > 100000) = false := decide_eq_false (by omega)
    have d2 : decide (n < -100000) = false := decide_eq_false (by omega)
    have d3 : decide (t.n + n < 0) = false := decide_eq_false (by omega)
    have d4 : decide (t.n + n ≥ 100000) = false := decide_eq_false (by omega)
    simp -implicitDefEqProofs only [go_sem, e, d1, d2, w1, d3, d4]
    refine s_forP hC (fun j (_ : Unit) => [(7, .i j), (1, .i n), (2, .ref 0 0), (4, .ref 1 0), (6, .ref 2 0)]) (fun j (_ : Unit) h => h = [.cells 24 [.v (.int .i64 t.kind), .v (.int .i64 t.n), .str t.s, .sl 4 (t.l.map enc)], .cells 24 [.v (.int .i64 0), .v (.int .i64 0), .str [], .v (.slice none 0 0)], .cells 24 [.v (.int .i64 t.kind), .v (.int .i64 (t.n + n)), .str t.s, .v (.slice none 0 0)]]) 0 ⟨(), _, Wk.pick (Nat.zero_le _) (by simp [go_sem]), rfl⟩ fun j _ h hj hh => ?_
    have hj0 : j = 0 := by omega
    subst hj0 hh
    simp -implicitDefEqProofs only [go_sem, vb, List.map_nil, List.length_nil, show decide (((0 : Nat) : Int) < ((0 : Nat) : Int)) = false from rfl]
    refine fin_pure (wkr_pair ?_ rfl) (by simp [go_sem])
    rw [hse, varF, enc_mk, va, hx]
    simp [wkr, wkrs]
  · have e : (t.kind == 1) = false := by simpa using hx
    rw [if_neg hx] at hse
    simp -implicitDefEqProofs only [go_sem, e]
    refine s_forP hC (fun j (_ : Unit) => [(7, .i j), (1, .i n), (2, .ref 0 0), (4, .ref 1 0), (6, .ref 2 0)]) (fun j (_ : Unit) h => ShAt t t.n (fun v => v + n) j h) t.l.length ⟨(), _, Wk.pick (Nat.zero_le _) (by simp [go_sem]), rfl, rfl, .inl ⟨rfl, rfl⟩⟩ fun j _ h hj ⟨o0, o1, o2⟩ => ?_
    have o0_g := fun l => get_before (l := l) o0
    have o0_s := fun o l => set_before (l := l) o0 o
    have o0_e := fun o l => get_set_app (o := o) (l := l) o0
    have o0_h := fun o => get_set (o := o) o0
    have o1_g := fun l => get_before (l := l) o1
    have o1_s := fun o l => set_before (l := l) o1 o
    have o1_e := fun o l => get_set_app (o := o) (l := l) o1
    have o1_h := fun o => get_set (o := o) o1
    simp -implicitDefEqProofs only [go_sem, o0]
    refine cdO_and (fun hlt => ?_) (fun hlt => ?_)
    · have hlt := lt_of_decide hlt
      have g1 := size_mem hlt
      have w5 : IntKind.i64.wrap ((j : Int) + 1) = (j : Int) + 1 := wrap_ok _ (by omega)
      have hm1 := List.getElem_mem hlt
      simp -implicitDefEqProofs only [go_sem, hlt, getD_map, o0]
      refine call_pure hC (ih _ hm1 (by omega) (nodesOks_all hnk.2 _ hm1) fun v hv => hg v (occ_kid hm1 hv)) ?_
      simp -implicitDefEqProofs only [go_sem, List.append_assoc, Bool.not_true]
      rcases o2 with ⟨hj0, o2⟩ | ⟨a, o2, ha⟩
      · subst hj0
        have o2_g := fun l => get_before (l := l) o2
        have o2_s := fun o l => set_before (l := l) o2 o
        have o2_e := fun o l => get_set_app (o := o) (l := l) o2
        have o2_h := fun o => get_set (o := o) o2
        simp -implicitDefEqProofs only [go_sem, o2_g, o2_s]
        refine ⟨by simp only [List.length_cons, List.length_nil]; decide, ?_⟩
        refine ⟨(), _, Wk.pick (Nat.zero_le _) (by simp [go_sem, show IntKind.i64.wrap 1 = 1 from rfl]), get_other o0 (by decide), get_other o1 (by decide), .inr ⟨h.length + 2, ?_, ?_⟩⟩
        · rw [o2_e, List.take_succ_eq_append_getElem hlt]; rfl
        · rw [get_ge (by simp)]; simp
      · skip
        have o2_g := fun l => get_before (l := l) o2
        have o2_s := fun o l => set_before (l := l) o2 o
        have o2_e := fun o l => get_set_app (o := o) (l := l) o2
        have o2_h := fun o => get_set (o := o) o2
        have ha_g := fun l => get_before (l := l) ha
        have ha_s := fun o l => set_before (l := l) ha o
        have ha_e := fun o l => get_set_app (o := o) (l := l) ha
        have ha_h := fun o => get_set (o := o) ha
        have o2_hab := fun o l => get_beside (o := o) (l := l) o2 ha (by simp)
        have o2_has := fun o l x => set_beside (o := o) (l := l) (x' := x) o2 ha (by simp)
        have o2_hag := fun o l x => get_beside2 (o := o) (l := l) (x' := x) o2 ha (by simp)
        have o2_hak := fun o l x => get_beside3 (o := o) (l := l) (x' := x) o2 ha (by simp)
        simp -implicitDefEqProofs only [go_sem, List.append_assoc, o2_g, ha_g, ha_s, o2_hab, o2_has]
        refine ⟨by simp; omega, ?_⟩
        have n0 := ne_of_get ha o0 (by simp)
        have n1 := ne_of_get ha o1 (by simp)
        refine ⟨(), _, Wk.pick (Nat.zero_le _) (by simp [go_sem, w5]), get_other2 o0 n0 (by decide), get_other2 o1 n1 (by decide), .inr ⟨h.length + 2, ?_, ?_⟩⟩
        · rw [o2_hag, take_snoc_map hlt]
        · rw [get_ge (by simp)]; simp
    · have hge := ge_of_decide hlt
      have o1a := fun o => get_set (o := o) o1
      rcases o2 with ⟨hj0, o2⟩ | ⟨a, o2, ha⟩
      · have hnil : t.l = [] := List.length_eq_zero_iff.1 (by omega)
        simp -implicitDefEqProofs only [go_sem, hlt, o1, o2, o1a]
        refine fin_pure (wkr_pair ?_ rfl) (by simp [go_sem])
        rw [hse, enc_mk, hnil]
        simp [wkr, wkrs]
      · simp -implicitDefEqProofs only [go_sem, hlt, o1, o2, o1a, take_all hge]
        refine fin_pure (wkr_pair ?_ rfl) (by simp [go_sem])
        rw [hse]
        exact wkr_subd (F := varF fun v => v + n)
theorem h147 (n : Int) (hn : -100000 ≤ n ∧ n ≤ 100000) (t : Tm) (ht : t.size < 2 ^ 30) (hs : t.strs) (hok : t.ok = true) (hg : ∀ v ∈ occ [t], 0 ≤ v + n ∧ v + n < 100000) : Pure (PC GL) 147 [enc t, .i n] (.tup [enc (t.sub (varF fun v => v + n)), .i 0]) := by
  have hnk : t.nodesOk = true := by simp only [Tm.ok, Bool.and_eq_true] at hok; exact hok.2.2
  refine k147.pure (by simp) (by simp [go_sem]) (by simp [go_sem]) ?_
  simp -implicitDefEqProofs only [c147, r147, go_sem]
  refine call_pure hC (h130 t ht hs hok) ?_
  simp -implicitDefEqProofs only [go_sem, ne00]
  refine call_pure hC (h222 n hn t ht hnk hg) ?_
  simp -implicitDefEqProofs only [go_sem, Bool.not_true]
  refine fin_pure ?_ ?_ <;> simp [go_sem, wkr_enc]
theorem h57 (n : Int) (hn : -100000 ≤ n ∧ n ≤ 100000) (l : List Tm) (ht : sizes l < 2 ^ 30) (hs : strss l) (hok : ∀ t ∈ l, t.ok = true) (hg : ∀ t ∈ l, ∀ v ∈ occ [t], 0 ≤ v + n ∧ v + n < 100000) : Pure (PC GL) 57 [.sl 4 (l.map enc), .i n] (.sl 4 ((l.map (Tm.sub (varF fun v => v + n))).map enc)) := by
  have h4 := length_sizes l
  refine k57.pure (by simp) (by simp [go_sem]) (by simp [go_sem, -List.map_map]) ?_
  simp -implicitDefEqProofs only [go_sem, c57, r57]
  refine s_forP hC (fun j a => [(12, .i j), (5, .own a 4 ((l.take j).map fun t => enc (t.sub (varF fun v => v + n)))), (10, .sl 4 (l.map enc)), (11, .i l.length), (1, .i n)]) (fun j a h => h[a]? = some (.spare 24 4)) l.length ?_ fun j a h hj ha => ?_
  · refine ⟨0, _, (Wk.own_nil (h := []) 24 4 5 (by simp [go_sem]) (Nat.zero_le _)).trans (Wk.pick (by simp) (by simp [go_sem])), rfl⟩
  have ha_g := fun l => get_before (l := l) ha
  have ha_s := fun o l => set_before (l := l) ha o
  have ha_e := fun o l => get_set_app (o := o) (l := l) ha
  have ha_h := fun o => get_set (o := o) ha
  simp -implicitDefEqProofs only [go_sem]
  refine cdO_and (fun hlt => ?_) (fun hlt => ?_)
  · have hlt := lt_of_decide hlt
    have g1 := size_mem hlt
    have w5 : IntKind.i64.wrap ((j : Int) + 1) = (j : Int) + 1 := wrap_ok _ (by omega)
    have hm1 := List.getElem_mem hlt
    simp -implicitDefEqProofs only [go_sem, hlt, getD_map]
    refine call_pure hC (h147 n hn l[j] (by omega) (strss_mem hs _ hm1) (hok _ hm1) (hg _ hm1)) ?_
    simp -implicitDefEqProofs only [go_sem, get_at_add, set_at_add, List.append_assoc, ha_g, ha_s, ne00]
    refine ⟨by simp; omega, ?_⟩
    refine ⟨h.length + 3, _, Wk.pick (Nat.zero_le _) (by simp [go_sem, w5, take_snoc_map hlt]), ?_⟩
    rw [get_ge (by simp)]; simp
  · have hge := ge_of_decide hlt
    simp -implicitDefEqProofs only [go_sem, hlt, take_all_map hge]
    refine fin_pure ?_ (by simp [go_sem, -List.map_map])
    simp [go_sem]
theorem h62 (v : Int) (l : List Int) (h : List AObj) (k : Nat) (hk : h[k]? = some (.cells 61 [.sl 1 (l.map encI)])) (hl : l.length < 2 ^ 47) : PureOn (PC GL) 62 [.i v, .ref k 0] (.b (l.any fun x => v == x)) h := by
  refine k62.call (by simp) ?_
  simp -implicitDefEqProofs only [go_sem, c62, r62, hk]
  refine call_pure hC (h43 l v hl) ?_
  simp -implicitDefEqProofs only [go_sem]
  exact fin_same rfl
end Go.Rip

/- Clauses with other variables: what is a clause stays one; numbered anew, the same. -/
namespace Go.Rip
open Go
set_option maxRecDepth 100000
attribute [local simp] Tm.kind_mk Tm.n_mk Tm.s_mk Tm.l_mk
variable (g : Int → Int)
/-- What of a tree's node does not turn with its variables. -/
theorem sub_node (t : Tm) : (t.sub (varF g)).kind = t.kind ∧ (t.kind ≠ 1 → (t.sub (varF g)).n = t.n ∧ (t.sub (varF g)).s = t.s ∧ (t.sub (varF g)).l = t.l.map (Tm.sub (varF g))) := by
  rw [sub_eq]
  by_cases h : t.kind = 1
  · rw [if_pos h]; simp [varF, h]
  · rw [if_neg h]; simp
theorem expr_sub (t : Tm) : (t.sub (varF g)).expr = t.expr := by
  induction t using tm_ind with
  | _ t ih =>
  obtain ⟨a, b⟩ := sub_node g t
  rw [expr_eq, expr_eq t, a]
  by_cases h : t.kind = 1
  · simp [h]
  · obtain ⟨b1, b2, b3⟩ := b h
    have : ∀ l : List Tm, (∀ x ∈ l, (x.sub (varF g)).expr = x.expr) → exprs (l.map (Tm.sub (varF g))) = exprs l := by
      intro l
      induction l with
      | nil => intro _; rfl
      | cons y r ihr => intro hl; simp only [List.map_cons, exprs]; rw [hl y (by simp), ihr fun x hx => hl x (by simp [hx])]
    rw [b2, b3, List.length_map, this t.l ih]
theorem exprs_sub (l : List Tm) : exprs (l.map (Tm.sub (varF g))) = exprs l := by
  induction l with
  | nil => rfl
  | cons y r ihr => simp only [List.map_cons, exprs]; rw [expr_sub, ihr]
theorem isAtom_sub (t : Tm) (s : List UInt8) : (t.sub (varF g)).isAtom s = t.isAtom s := by
  obtain ⟨a, b⟩ := sub_node g t
  rw [Tm.isAtom, Tm.isAtom, a]
  by_cases h : t.kind = 1
  · simp [h]
  · rw [(b h).2.1]
theorem isFun_sub (t : Tm) (s : List UInt8) (n : Int) : (t.sub (varF g)).isFun s n = t.isFun s n := by
  obtain ⟨a, b⟩ := sub_node g t
  rw [Tm.isFun, Tm.isFun, a]
  by_cases h : t.kind = 1
  · simp [h]
  · rw [(b h).2.1, (b h).2.2, List.length_map]
theorem test_sub (t : Tm) : (t.sub (varF g)).test = t.test := by
  obtain ⟨a, b⟩ := sub_node g t
  rw [Tm.test, Tm.test, isAtom_sub, a]
  by_cases h : t.kind = 1
  · simp [h]
  · rw [(b h).2.1, (b h).2.2, List.length_map, exprs_sub]
theorem gkind_sub (t : Tm) : (t.sub (varF g)).gkind = t.gkind := by
  obtain ⟨a, b⟩ := sub_node g t
  by_cases h : t.kind = 1
  · have e1 : t.isSym = false := by simp [Tm.isSym, h]
    have e2 : (t.sub (varF g)).isSym = false := by simp [Tm.isSym, a, h]
    rw [Tm.gkind, if_pos e2, Tm.gkind, if_pos e1]
  · have e : (t.sub (varF g)).sym = t.sym := by rw [Tm.sym, Tm.sym, (b h).2.1, (b h).2.2, List.length_map]
    rw [Tm.gkind, Tm.gkind, isAtom_sub, isFun_sub, isFun_sub, e, Tm.isSym, Tm.isSym, a]
theorem goal_sub (t : Tm) : ((t.sub (varF g)).goal).1 = t.goal.1 := by
  obtain ⟨a, b⟩ := sub_node g t
  have g0 : ∀ u : Tm, u.isFun [64] 2 = false → u.goal.1 = u.gkind := fun u hu => by
    simp only [Tm.goal, hu]
    by_cases h : u.gkind = 0
    · rw [if_pos h, h]
    · rw [if_neg h]
  cases hf : t.isFun [64] 2
  · rw [g0 _ (by rw [isFun_sub]; exact hf), g0 _ hf, gkind_sub]
  · have h : t.kind ≠ 1 := by
      have := (isFun_inv hf).1
      rw [this]; simp
    rw [Tm.goal, Tm.goal, isFun_sub, gkind_sub, hf, (b h).2.2]
    rcases hl : t.l with _ | ⟨x, _ | ⟨p, _ | ⟨q, r⟩⟩⟩
    · rfl
    · rfl
    · simp only [List.map_cons, List.map_nil]
      obtain ⟨pa, pb⟩ := sub_node g p
      rw [gkind_sub, pa]
      by_cases hp : p.kind = 1
      · rw [if_pos (.inl (by omega)), if_pos (.inl (by omega))]
      · rw [(pb hp).1]
        split <;> simp_all
    · rfl
/-- A clause with other trees. -/
def Cl.mapT (c : Cl) (f : Tm → Tm) (v : Int) : Cl := ⟨c.mark, v, c.head.map f, c.guard.map f, c.body.map f⟩
theorem cut_map (c : Cl) (f : Tm → Tm) (v : Int) : c.cut (c.parts.map f) v = c.mapT f v := by
  simp only [Cl.cut, Cl.mapT, Cl.parts, List.map_append]
  congr 1
  · rw [List.take_left' (by simp)]
  · rw [List.drop_left' (by simp), List.take_left' (by simp)]
  · rw [← List.append_assoc, List.drop_left' (by simp)]
theorem mapT_parts (c : Cl) (f : Tm → Tm) (v : Int) : (c.mapT f v).parts = c.parts.map f := by simp [Cl.mapT, Cl.parts]
theorem cut_mapT (c : Cl) (f : Tm → Tm) (v w : Int) (l : List Tm) : (c.mapT f v).cut l w = c.cut l w := by simp [Cl.cut, Cl.mapT]
theorem mapT_id (c : Cl) (v : Int) (f : Tm → Tm) (h : ∀ t ∈ c.parts, f t = t) (hv : v = c.vars) : c.mapT f v = c := by
  obtain ⟨m, w, a, b, d⟩ := c
  simp only [Cl.parts, List.mem_append] at h
  simp only [Cl.mapT] at hv ⊢
  subst hv
  have e : ∀ l : List Tm, (∀ t ∈ l, f t = t) → l.map f = l := fun l hl => by
    conv => rhs; rw [← List.map_id l]
    exact List.map_congr_left hl
  rw [e a fun t ht => h t (.inl ht), e b fun t ht => h t (.inr (.inl ht)), e d fun t ht => h t (.inr (.inr ht))]
theorem termsOk_map {g : Int → Int} {l : List Tm} (h : termsOk l = true) (hg : ∀ v ∈ occ l, 0 ≤ g v ∧ g v < 100000) : termsOk (l.map (Tm.sub (varF g))) = true := by
  simp only [termsOk, Bool.and_eq_true, decide_eq_true_eq] at h ⊢
  have h1 := sizes_sub g l
  have h2 : deeps (l.map (Tm.sub (varF g))) ≤ deeps l := deeps_map_le fun x _ => deep_sub g x
  exact ⟨nodesOks_map fun x hx => nodesOk_sub g x (nodesOks_all h.1 x hx) fun v hv => hg v (occ_mem hx hv), by omega, by omega⟩
theorem shaped_map {g : Int → Int} (hinj : ∀ a b, g a = g b → a = b) {c : Cl} {ar v : Int} (h : c.shaped ar = true) (hg : ∀ v ∈ occ c.parts, 0 ≤ g v ∧ g v < 100000) : (c.mapT (Tm.sub (varF g)) v).shaped ar = true := by
  have hto := shaped_terms h
  have hno : nodesOks c.parts = true := by simp only [termsOk, Bool.and_eq_true] at hto; exact hto.1
  have hnh : nodesOks c.head = true := by simp only [Cl.parts, nodesOks_app, Bool.and_eq_true] at hno; exact hno.1
  have hng : nodesOks c.guard = true := by simp only [Cl.parts, nodesOks_app, Bool.and_eq_true] at hno; exact hno.2.1
  have hs := sizes_sub g c.parts
  simp only [Cl.shaped, Bool.and_eq_true] at h ⊢
  obtain ⟨h1, h2, h3, h4, h5, h6, h7⟩ := h
  rw [mapT_parts]
  refine ⟨?_, termsOk_map h2 hg, ?_, ?_, ?_, ?_, ?_⟩
  · have e : (c.mapT (Tm.sub (varF g)) v).bad ar = c.bad ar := by simp only [Cl.bad, Cl.mapT, List.length_map]; rfl
    rw [e]; exact h1
  · simp only [Bool.not_eq_true', decide_eq_false_iff_not] at h3 ⊢; omega
  · rw [varsOf_sub hinj hno, List.length_map]; exact h4
  · simp only [Cl.mapT]
    rw [varsOf_sub hinj hng, varsOf_sub hinj hnh, List.any_map]
    have e : ((fun v => !(List.map g (varsOf c.head)).any fun x => v == x) ∘ g) = fun v => !(varsOf c.head).any fun x => v == x := by
      funext v
      simp only [Function.comp, List.any_map]
      congr 2
      funext x
      simp only [Function.comp]
      rw [Bool.eq_iff_iff, beq_iff_eq, beq_iff_eq]
      exact ⟨hinj v x, fun e => by rw [e]⟩
    rw [e]; exact h5
  · simp only [Cl.mapT, List.any_map]
    have e : ((fun t : Tm => !t.test) ∘ Tm.sub (varF g)) = fun t => !t.test := by funext t; simp only [Function.comp, test_sub]
    rw [e]; exact h6
  · simp only [Cl.mapT, List.any_map]
    have e : ((fun t : Tm => t.goal.1 == 0) ∘ Tm.sub (varF g)) = fun t => t.goal.1 == 0 := by funext t; simp only [Function.comp, goal_sub]
    rw [e]; exact h7
/-- A clause is what its numbering anew gives, whatever its variables were shifted by. -/
theorem normal_map {g : Int → Int} (hinj : ∀ a b, g a = g b → a = b) {c : Cl} {ar v : Int} (h : c.ok ar = true) : (c.mapT (Tm.sub (varF g)) v).normal = c := by
  obtain ⟨hsh, hr, hv⟩ := ok_range h
  have hto := shaped_terms hsh
  have hno : nodesOks c.parts = true := by simp only [termsOk, Bool.and_eq_true] at hto; exact hto.1
  rw [Cl.normal, cut_mapT, mapT_parts, varsOf_sub hinj hno, List.map_map, List.length_map, cut_map]
  refine mapT_id c _ _ (fun t ht => ?_) hv
  simp only [Function.comp, sub_sub]
  refine sub_id _ t (nodesOks_all hno t ht) fun w hw => ?_
  rw [idx0_map hinj]
  exact idx0_range hr (mem_varsOf.2 (occ_mem ht hw))
theorem normal_id {c : Cl} {ar : Int} (h : c.ok ar = true) : c.normal = c := by
  obtain ⟨hsh, hr, hv⟩ := ok_range h
  have hto := shaped_terms hsh
  have hno : nodesOks c.parts = true := by simp only [termsOk, Bool.and_eq_true] at hto; exact hto.1
  rw [Cl.normal, cut_map]
  exact mapT_id c _ _ (fun t ht => sub_id _ t (nodesOks_all hno t ht) fun w hw => idx0_range hr (mem_varsOf.2 (occ_mem ht hw))) hv
end Go.Rip

/- ProgFresh. -/
namespace Go.Rip
open Go Go.Proofs
set_option maxRecDepth 100000
attribute [local irreducible] Pure
theorem err_zero {c : Cl} {ar : Int} (h : c.err ar = 0) : c.ok ar = true ∧ ar ≤ 16 := by
  rw [Cl.err] at h
  split at h
  · cases h
  · rename_i hb
    split at h
    · rename_i ho
      refine ⟨ho, ?_⟩
      simp only [Bool.or_eq_true, decide_eq_true_eq, not_or] at hb
      omega
    · cases h
theorem shift_inj (m : Int) : ∀ a b : Int, a + m = b + m → a = b := fun a b h => by omega
/-- What the law asks of a clause from a number on: in the code's words. -/
theorem fresh_facts {c : Cl} {m : Int} (hok : c.ok c.head.length = true) (h16 : c.head.length ≤ 16) (hsz : sizes c.parts ≤ 2000) (hs : strss c.parts) (hb : ¬ freshBad c m) :
    Pure (PC GLs) 58 [encCl c, .i m] (.tup [encCl (c.fresh m), .i 0]) ∧ Pure (PC GLs) 47 [encCl (c.fresh m)] (.tup [encCl c, .i 0]) ∧ Pure (PC GLs) 60 [encCl (c.fresh m)] (.sl 4 ((c.fresh m).parts.map enc)) ∧
      Pure (PC GLs) 59 [.sl 4 ((c.fresh m).parts.map enc)] (.sl 1 (((varsOf c.parts).map fun v => v + m).map encI)) := by
  obtain ⟨hsh, hr, hv⟩ := ok_range hok
  have hto := shaped_terms hsh
  have hno : nodesOks c.parts = true := by simp only [termsOk, Bool.and_eq_true] at hto; exact hto.1
  have hvl := varsOf_len c.parts
  have b1 : ¬ m < 0 := fun h => hb (.inl h)
  have b2 : ¬ m ≥ 100000 := fun h => hb (.inr (.inl h))
  have b3 : ¬ m > 100000 - c.vars := fun h => hb (.inr (.inr h))
  have hg : ∀ v ∈ occ c.parts, 0 ≤ v + m ∧ v + m < 100000 := fun v hv' => by have := range_mem hr (mem_varsOf.2 hv'); omega
  have e : c.fresh m = c.mapT (Tm.sub (varF fun v => v + m)) c.vars := by rw [Cl.fresh, cut_map]
  have hp : (c.fresh m).parts = c.parts.map (Tm.sub (varF fun v => v + m)) := by rw [e, mapT_parts]
  have hhl : (c.fresh m).head.length = c.head.length := by rw [e]; simp [Cl.mapT]
  have hsz' : sizes (c.fresh m).parts ≤ 2000 := by rw [hp]; have := sizes_sub (fun v => v + m) c.parts; omega
  have hs' : strss (c.fresh m).parts := by rw [hp]; exact strss_map fun x hx => strs_sub _ x (strss_mem hs x hx)
  have hsh' : (c.fresh m).shaped (c.fresh m).head.length = true := by rw [hhl, e]; exact shaped_map (shift_inj m) hsh hg
  have hl' := length_sizes (c.fresh m).parts
  have q47 := h47ok (c.fresh m) (by omega) hs' (by omega) hsh'
  have hn : (c.fresh m).normal = c := by rw [e]; exact normal_map (shift_inj m) hok
  rw [hn] at q47
  have q59 := h59 (GL := GLs) (c.fresh m).parts (by omega)
  have hvo : varsOf (c.fresh m).parts = (varsOf c.parts).map fun v => v + m := by rw [hp]; exact varsOf_sub (shift_inj m) hno
  rw [hvo] at q59
  exact ⟨h58ok c m (by omega) hs h16 hok hb, q47, h60 _ (by omega), q59⟩
theorem moved_facts {c : Cl} {m : Int} (hok : c.ok c.head.length = true) (h16 : c.head.length ≤ 16) (hsz : sizes c.parts ≤ 2000) (hs : strss c.parts) (h0 : 0 ≤ m) (h9 : m < 90000) :
    Pure (PC GLs) 57 [.sl 4 (c.head.map enc), .i m] (.sl 4 ((c.head.map (Tm.sub (varF fun v => v + m))).map enc)) ∧ Pure (PC GLs) 57 [.sl 4 (c.guard.map enc), .i m] (.sl 4 ((c.guard.map (Tm.sub (varF fun v => v + m))).map enc)) ∧
      Pure (PC GLs) 57 [.sl 4 (c.body.map enc), .i m] (.sl 4 ((c.body.map (Tm.sub (varF fun v => v + m))).map enc)) ∧ Pure (PC GLs) 47 [encCl (c.mapT (Tm.sub (varF fun v => v + m)) 0)] (.tup [encCl c, .i 0]) := by
  obtain ⟨hsh, hr, hv⟩ := ok_range hok
  have hto := shaped_terms hsh
  have hoks := termsOk_ok hto
  have hvl := varsOf_len c.parts
  have hg : ∀ v ∈ occ c.parts, 0 ≤ v + m ∧ v + m < 100000 := fun v hv' => by have := range_mem hr (mem_varsOf.2 hv'); omega
  have hp : sizes c.parts = sizes c.head + (sizes c.guard + sizes c.body) := by simp [Cl.parts, sizes_app]
  have hs1 := hs
  simp only [Cl.parts, strss_app] at hs1
  have m1 : ∀ t ∈ c.head, t ∈ c.parts := fun t ht => by simp [Cl.parts, ht]
  have m2 : ∀ t ∈ c.guard, t ∈ c.parts := fun t ht => by simp [Cl.parts, ht]
  have m3 : ∀ t ∈ c.body, t ∈ c.parts := fun t ht => by simp [Cl.parts, ht]
  have hsz' := sizes_sub (fun v => v + m) c.parts
  have hhl : (c.mapT (Tm.sub (varF fun v => v + m)) 0).head.length = c.head.length := by simp [Cl.mapT]
  have q47 := h47ok (c.mapT (Tm.sub (varF fun v => v + m)) 0) (by rw [mapT_parts]; omega) (by rw [mapT_parts]; exact strss_map fun x hx => strs_sub _ x (strss_mem hs x hx)) (by omega) (by rw [hhl]; exact shaped_map (shift_inj m) hsh hg)
  rw [normal_map (shift_inj m) hok] at q47
  exact ⟨h57 m (by omega) c.head (by omega) hs1.1 (fun t ht => hoks t (m1 t ht)) (fun t ht v hv' => hg v (occ_mem (m1 t ht) hv')), h57 m (by omega) c.guard (by omega) hs1.2.1 (fun t ht => hoks t (m2 t ht)) (fun t ht v hv' => hg v (occ_mem (m2 t ht) hv')),
    h57 m (by omega) c.body (by omega) hs1.2.2 (fun t ht => hoks t (m3 t ht)) (fun t ht v hv' => hg v (occ_mem (m3 t ht) hv')), q47⟩
end Go.Rip

/- ProgFresh: the walk. -/
namespace Go.Rip
open Go Go.Proofs
set_option maxRecDepth 100000
attribute [local irreducible] Pure
theorem ne10 : ((1 : Int) != 0) = true := rfl
theorem apart {l : List Int} {n : Int} (hr : isRange l = true) (hn : (l.length : Int) = n) (m : Int) : ((l.map fun v => v + m).any fun v => (l.map fun v => v + (m + n)).any fun x => v == x) = false := by
  rw [List.any_eq_false]
  intro x hx hy
  rw [List.any_eq_true] at hy
  obtain ⟨y, hy, e⟩ := hy
  simp only [List.mem_map] at hx hy
  obtain ⟨v, hv, rfl⟩ := hx
  obtain ⟨w, hw, rfl⟩ := hy
  have := range_mem hr hv
  have := range_mem hr hw
  have := eq_of_beq e
  omega
theorem h8 (c : Cl) (m by_ : Int) (hc : c.wid) : Pure (PC GLs) 8 [encCl c, .i m, .i by_] (.b true) := by
  obtain ⟨⟨w1, w1'⟩, ⟨w2, w2'⟩, w3, w3'⟩ := hc
  have f1 := h17 (GL := GLs) [c.head, c.guard, c.body] 2000 (by simp [w1, w1', w2, w2', w3, w3']) (by simp) (by omega)
  refine k8.pure (by simp) (by simp [go_sem]) (by simp [go_sem]) ?_
  simp -implicitDefEqProofs only [go_sem, c8, r8, encCl]
  refine call_pure hC sane_ok ?_
  simp -implicitDefEqProofs only [go_sem, Bool.not_true]
  refine call_fz f1 ?_ ?_
  · simp [fzs, fzGs, fzG, encL, fzGs_encs, ← encs_map]
  have hcp : [c.head, c.guard, c.body].flatten = c.parts := by simp [Cl.parts]
  rcases hc1 : cnts [c.head, c.guard, c.body].flatten 2000 1 with ⟨_ | _, x⟩
  · simp -implicitDefEqProofs only [go_sem, Bool.not_false]
    refine fin_pure ?_ ?_ <;> simp [go_sem]
  rw [hcp] at hc1
  have hx := cnts_true _ _ _ _ (by omega) hc1
  have hsz : sizes c.parts ≤ 2000 := by omega
  have hs := hx.2.2
  have g3 := h51 c c.head.length (by omega) hs
  have q56 := h56 (GL := GLs) c (by omega)
  clear f1 hc1 hx hcp
  simp only [encCl] at g3 q56
  simp -implicitDefEqProofs only [go_sem, Bool.not_true]
  refine call_pure hC g3 ?_
  by_cases he : c.err c.head.length = 0
  · obtain ⟨hok, h16'⟩ := err_zero he
    have h16 : c.head.length ≤ 16 := by omega
    have hvl := varsOf_len c.parts
    have hv := (ok_range hok).2.2
    have q47 := h47ok c (by omega) hs h16 (ok_range hok).1
    rw [normal_id hok] at q47
    simp only [encCl] at q47
    simp -implicitDefEqProofs only [go_sem, he, ne00]
    refine call_pure hC q47 ?_
    simp -implicitDefEqProofs only [go_sem, ne00]
    refine call_pure hC q56 ?_
    simp -implicitDefEqProofs only [go_sem, Bool.not_true]
    by_cases y1 : by_ ≥ 0
    · have d1 : decide (by_ ≥ 0) = true := decide_eq_true y1
      by_cases y2 : by_ < 90000
      · have d2 : decide (by_ < 90000) = true := decide_eq_true y2
        obtain ⟨p1, p2, p3, p4⟩ := moved_facts hok h16 hsz hs y1 y2
        simp only [encCl, Cl.mapT] at p4
        simp -implicitDefEqProofs only [go_sem, d1, d2]
        refine call_pure hC p1 ?_
        simp -implicitDefEqProofs only [go_sem]
        refine call_pure hC p2 ?_
        simp -implicitDefEqProofs only [go_sem]
        refine call_pure hC p3 ?_
        simp -implicitDefEqProofs only [go_sem]
        refine call_pure hC p4 ?_
        simp -implicitDefEqProofs only [go_sem, ne00]
        refine call_pure hC q56 ?_
        simp -implicitDefEqProofs only [go_sem, Bool.not_true]
        by_cases fb : freshBad c m
        · have q58 := h58bad c m (by omega) hs h16 hok fb
          simp only [encCl] at q58
          refine call_pure hC q58 ?_
          simp -implicitDefEqProofs only [go_sem, ne10, beq_self_eq_true]
          refine fin_pure ?_ ?_ <;> simp [go_sem]
        obtain ⟨qx1, qx2, qx3, qx4⟩ := fresh_facts hok h16 hsz hs fb
        generalize hX : c.fresh m = X at qx1 qx2 qx3 qx4
        simp only [encCl] at qx1 qx2 qx3
        refine call_pure hC qx1 ?_
        simp -implicitDefEqProofs only [go_sem, ne00]
        refine call_pure hC qx2 ?_
        simp -implicitDefEqProofs only [go_sem, ne00]
        refine call_pure hC q56 ?_
        simp -implicitDefEqProofs only [go_sem, Bool.not_true]
        have b1 : ¬ m < 0 := fun h => fb (.inl h)
        have b2 : ¬ m ≥ 100000 := fun h => fb (.inr (.inl h))
        have wm : IntKind.i64.wrap (m + c.vars) = m + c.vars := wrap_ok _ (by omega)
        by_cases fb2 : freshBad c (m + c.vars)
        · have q58 := h58bad c (m + c.vars) (by omega) hs h16 hok fb2
          simp only [encCl] at q58
          simp -implicitDefEqProofs only [go_sem, wm]
          refine call_pure hC q58 ?_
          simp -implicitDefEqProofs only [go_sem, ne10, beq_self_eq_true]
          refine fin_pure ?_ ?_ <;> simp [go_sem]
        obtain ⟨qy1, qy2, qy3, qy4⟩ := fresh_facts hok h16 hsz hs fb2
        generalize hY : c.fresh (m + c.vars) = Y at qy1 qy2 qy3 qy4
        simp only [encCl] at qy1 qy2 qy3
        simp -implicitDefEqProofs only [go_sem, wm]
        refine call_pure hC qy1 ?_
        simp -implicitDefEqProofs only [go_sem, ne00]
        refine call_pure hC qx3 ?_
        simp -implicitDefEqProofs only [go_sem]
        refine call_pure hC qx4 ?_
        simp -implicitDefEqProofs only [go_sem]
        refine call_pure hC qy3 ?_
        simp -implicitDefEqProofs only [go_sem]
        refine call_pure hC qy4 ?_
        simp -implicitDefEqProofs only [go_sem]
        have hd := apart (ok_range hok).2.1 (ok_range hok).2.2 m
        generalize hxs : ((varsOf c.parts).map fun v => v + m) = xs at *
        generalize hys : ((varsOf c.parts).map fun v => v + (m + c.vars)) = ys at *
        have lx : xs.length < 2 ^ 47 := by rw [← hxs, List.length_map]; omega
        have ly : ys.length < 2 ^ 47 := by rw [← hys, List.length_map]; omega
        refine call_on hC (h61 xs 62 [.ref _ 0] (fun v => ys.any fun x => v == x) _ lx fun x _ => h62 x ys _ _ rfl ly) ?_
        simp -implicitDefEqProofs only [go_sem, hd, Bool.not_false]
        refine fin_pure ?_ ?_ <;> simp [go_sem]
      · have d2 : decide (by_ < 90000) = false := decide_eq_false y2
        simp -implicitDefEqProofs only [go_sem, d1, d2]
        by_cases fb : freshBad c m
        · have q58 := h58bad c m (by omega) hs h16 hok fb
          simp only [encCl] at q58
          refine call_pure hC q58 ?_
          simp -implicitDefEqProofs only [go_sem, ne10, beq_self_eq_true]
          refine fin_pure ?_ ?_ <;> simp [go_sem]
        obtain ⟨qx1, qx2, qx3, qx4⟩ := fresh_facts hok h16 hsz hs fb
        generalize hX : c.fresh m = X at qx1 qx2 qx3 qx4
        simp only [encCl] at qx1 qx2 qx3
        refine call_pure hC qx1 ?_
        simp -implicitDefEqProofs only [go_sem, ne00]
        refine call_pure hC qx2 ?_
        simp -implicitDefEqProofs only [go_sem, ne00]
        refine call_pure hC q56 ?_
        simp -implicitDefEqProofs only [go_sem, Bool.not_true]
        have b1 : ¬ m < 0 := fun h => fb (.inl h)
        have b2 : ¬ m ≥ 100000 := fun h => fb (.inr (.inl h))
        have wm : IntKind.i64.wrap (m + c.vars) = m + c.vars := wrap_ok _ (by omega)
        by_cases fb2 : freshBad c (m + c.vars)
        · have q58 := h58bad c (m + c.vars) (by omega) hs h16 hok fb2
          simp only [encCl] at q58
          simp -implicitDefEqProofs only [go_sem, wm]
          refine call_pure hC q58 ?_
          simp -implicitDefEqProofs only [go_sem, ne10, beq_self_eq_true]
          refine fin_pure ?_ ?_ <;> simp [go_sem]
        obtain ⟨qy1, qy2, qy3, qy4⟩ := fresh_facts hok h16 hsz hs fb2
        generalize hY : c.fresh (m + c.vars) = Y at qy1 qy2 qy3 qy4
        simp only [encCl] at qy1 qy2 qy3
        simp -implicitDefEqProofs only [go_sem, wm]
        refine call_pure hC qy1 ?_
        simp -implicitDefEqProofs only [go_sem, ne00]
        refine call_pure hC qx3 ?_
        simp -implicitDefEqProofs only [go_sem]
        refine call_pure hC qx4 ?_
        simp -implicitDefEqProofs only [go_sem]
        refine call_pure hC qy3 ?_
        simp -implicitDefEqProofs only [go_sem]
        refine call_pure hC qy4 ?_
        simp -implicitDefEqProofs only [go_sem]
        have hd := apart (ok_range hok).2.1 (ok_range hok).2.2 m
        generalize hxs : ((varsOf c.parts).map fun v => v + m) = xs at *
        generalize hys : ((varsOf c.parts).map fun v => v + (m + c.vars)) = ys at *
        have lx : xs.length < 2 ^ 47 := by rw [← hxs, List.length_map]; omega
        have ly : ys.length < 2 ^ 47 := by rw [← hys, List.length_map]; omega
        refine call_on hC (h61 xs 62 [.ref _ 0] (fun v => ys.any fun x => v == x) _ lx fun x _ => h62 x ys _ _ rfl ly) ?_
        simp -implicitDefEqProofs only [go_sem, hd, Bool.not_false]
        refine fin_pure ?_ ?_ <;> simp [go_sem]
    · have d1 : decide (by_ ≥ 0) = false := decide_eq_false y1
      simp -implicitDefEqProofs only [go_sem, d1]
      by_cases fb : freshBad c m
      · have q58 := h58bad c m (by omega) hs h16 hok fb
        simp only [encCl] at q58
        refine call_pure hC q58 ?_
        simp -implicitDefEqProofs only [go_sem, ne10, beq_self_eq_true]
        refine fin_pure ?_ ?_ <;> simp [go_sem]
      obtain ⟨qx1, qx2, qx3, qx4⟩ := fresh_facts hok h16 hsz hs fb
      generalize hX : c.fresh m = X at qx1 qx2 qx3 qx4
      simp only [encCl] at qx1 qx2 qx3
      refine call_pure hC qx1 ?_
      simp -implicitDefEqProofs only [go_sem, ne00]
      refine call_pure hC qx2 ?_
      simp -implicitDefEqProofs only [go_sem, ne00]
      refine call_pure hC q56 ?_
      simp -implicitDefEqProofs only [go_sem, Bool.not_true]
      have b1 : ¬ m < 0 := fun h => fb (.inl h)
      have b2 : ¬ m ≥ 100000 := fun h => fb (.inr (.inl h))
      have wm : IntKind.i64.wrap (m + c.vars) = m + c.vars := wrap_ok _ (by omega)
      by_cases fb2 : freshBad c (m + c.vars)
      · have q58 := h58bad c (m + c.vars) (by omega) hs h16 hok fb2
        simp only [encCl] at q58
        simp -implicitDefEqProofs only [go_sem, wm]
        refine call_pure hC q58 ?_
        simp -implicitDefEqProofs only [go_sem, ne10, beq_self_eq_true]
        refine fin_pure ?_ ?_ <;> simp [go_sem]
      obtain ⟨qy1, qy2, qy3, qy4⟩ := fresh_facts hok h16 hsz hs fb2
      generalize hY : c.fresh (m + c.vars) = Y at qy1 qy2 qy3 qy4
      simp only [encCl] at qy1 qy2 qy3
      simp -implicitDefEqProofs only [go_sem, wm]
      refine call_pure hC qy1 ?_
      simp -implicitDefEqProofs only [go_sem, ne00]
      refine call_pure hC qx3 ?_
      simp -implicitDefEqProofs only [go_sem]
      refine call_pure hC qx4 ?_
      simp -implicitDefEqProofs only [go_sem]
      refine call_pure hC qy3 ?_
      simp -implicitDefEqProofs only [go_sem]
      refine call_pure hC qy4 ?_
      simp -implicitDefEqProofs only [go_sem]
      have hd := apart (ok_range hok).2.1 (ok_range hok).2.2 m
      generalize hxs : ((varsOf c.parts).map fun v => v + m) = xs at *
      generalize hys : ((varsOf c.parts).map fun v => v + (m + c.vars)) = ys at *
      have lx : xs.length < 2 ^ 47 := by rw [← hxs, List.length_map]; omega
      have ly : ys.length < 2 ^ 47 := by rw [← hys, List.length_map]; omega
      refine call_on hC (h61 xs 62 [.ref _ 0] (fun v => ys.any fun x => v == x) _ lx fun x _ => h62 x ys _ _ rfl ly) ?_
      simp -implicitDefEqProofs only [go_sem, hd, Bool.not_false]
      refine fin_pure ?_ ?_ <;> simp [go_sem]
  · have e : (c.err c.head.length != 0) = true := by simpa using he
    simp -implicitDefEqProofs only [go_sem, e]
    refine fin_pure ?_ ?_ <;> simp [go_sem]
end Go.Rip
