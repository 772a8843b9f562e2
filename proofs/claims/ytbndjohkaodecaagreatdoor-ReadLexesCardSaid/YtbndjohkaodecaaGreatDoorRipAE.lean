/- Buffers that are appended to. -/
import Derived.Laws.BytesString
import Derived.Lib.AppendStr
import Derived.OrdersIn
import Derived.Test.YtbndjohkaodecaaGreatDoorRipAD
namespace Go.Rip
open Go
section
variable {P : Program} {GL : Glob} {E : Env} {A : Nat -> Nat -> Prop} {G : Gd} {h : List AObj} {w : World} {τ : List (Nat × AV)} {ρ : Operand -> Value} {K : AV -> List AObj -> Prop}
theorem vL (t ty e : TypeId) (i : TypeInfo) (z : Value) (size bytes : Nat) (ht : P.underlying t = some (.slice e)) (hi : P.info? e = some i) (hz : i.zero = some z)
  (hsize : i.size = size) (hby : i.bytes = bytes) (hzo : ∀ u ∈ z.cells.toList, u.oneCell' = true) (hzs : z.cells.size = size) (hsz : 0 < size) (hbp : 0 < bytes)
  (v : Value) (n : Nat) (xs : List Value) (hown : w.ownsRow 0 e size v n xs) (hxo : ∀ g cur, v.ownBlock = some g -> w.heap[g]? = some (.cells cur e (0, 0)) -> ∀ u ∈ cur.toList, u.oneCell' = true)
  (p : Option Addr) (m c : Nat) (news : List Value) (hl : news.length = m * size) (hnews : m = 0 ∨ ∃ a, p = some a /\ ∀ j u, news[j]? = some u -> w.cell? (a.add j) = some u) (h1 : ∀ u ∈ news, u.oneCell' = true)
  (hbytes : (n + m) * bytes <= 2 ^ 47) {v' : Value} {w' : World} (hr : (Builtin.append_ #[t, t] ty #[v, .slice p m c]).run P w = .ok v' w') :
  ∀ g cur, v'.ownBlock = some g -> w'.heap[g]? = some (.cells cur e (0, 0)) -> ∀ u ∈ cur.toList, u.oneCell' = true := by
 have hnm : n + m <= 2 ^ 47 := Nat.le_trans (Nat.le_mul_of_pos_right _ hbp) hbytes
 have hzc : ∀ k, ∀ u ∈ (Builtin.zeroCells z.cells k).toList, u.oneCell' = true := fun k u hu => by
  have : Builtin.zeroCells z.cells k = (Array.range (k * size)).map (z.cells[· % z.cells.size]!) := by simp only [Builtin.zeroCells, hzs]
  rw [this] at hu
  exact cE hzo hzs hsz k u hu
 by_cases hm : m = 0
 ·subst hm
  have hn : news = [] := List.eq_nil_of_length_eq_zero (by simpa using hl)
  have hr' : (Builtin.append_ #[t, t] ty #[v, .slice p 0 c]).run P w = .ok v w := by
   rcases hown.2 with ⟨rfl, rfl⟩ | ⟨g, cap, cur, rfl, _, _, hnc, _⟩
   ·cases p <;> simp [Builtin.append_, run_underlying ht, sizeOf, typeInfo, hi, Builtin.lenOf, Builtin.firstCells, loadCells, loadCellsFrom]
   ·cases p <;> simp [Builtin.append_, run_underlying ht, sizeOf, typeInfo, hi, Builtin.lenOf, Builtin.firstCells, hnc, storeCells, loadCells, loadCellsFrom]
  rw [hr'] at hr
  cases hr
  exact hxo
 ·obtain ⟨a, hpa, hnw⟩ := hnews.resolve_left hm
  subst hpa
  subst hsize
  subst hby
  rcases hown.2 with ⟨rfl, rfl⟩ | ⟨g, cap, cur, rfl, hbg, hg, hnc, hcm, hcs, htake⟩
  ·have hr' := run_append_nil (P := P) w t ty e i z ht hi hz a m c news hl hnw (by omega) (by omega) (by rw [Nat.zero_add] at hbytes; omega)
   rw [hr'] at hr
   cases hr
   intro g cur hg hc u hu
   simp [Value.ownBlock] at hg
   subst hg
   have := heap_alloc_new w.drew (.cells (news.toArray ++ Builtin.zeroCells z.cells (grownCap w m 0 e - m)) e)
   rw [show w.drew.heap.size = w.heap.size from rfl] at this
   rw [this] at hc
   cases hc
   rw [Array.toList_append] at hu
   rcases List.mem_append.1 hu with hu | hu
   ·exact h1 u (by simpa using hu)
   ·exact hzc _ u hu
  ·by_cases hroom : n + m <= cap
   ·have hfit : n * i.size + news.length <= cur.size := by rw [hl, hcs, <- Nat.add_mul]; exact Nat.mul_le_mul_right _ hroom
    have hr' := run_append_room (P := P) w t ty e i ht hi g n cap cur hg a m c news hl hnw h1 hroom hfit
    rw [hr'] at hr
    cases hr
    intro g' cur' hg' hc u hu
    simp [Value.ownBlock] at hg'
    subst hg'
    rw [setRow_heap w g cur _ e _ hg] at hc
    cases hc
    have hold := hxo g cur rfl hg
    simp only [List.mem_append] at hu
    rcases hu with (hu | hu) | hu
    ·exact hold u (List.mem_of_mem_take hu)
    ·exact h1 u hu
    ·exact hold u (List.mem_of_mem_drop hu)
   ·have holds : ∀ j u, xs[j]? = some u -> w.cell? ((⟨g, 0, none⟩ : Addr).add j) = some u := hown.cells (g := g) rfl
    have hr' := run_append_grow (P := P) w t ty e i z ht hi hz ⟨g, 0, none⟩ n cap xs hown.1 holds a m c news hl hnw (by omega) (by omega) (growslice_fits (by omega) (by omega))
    rw [hr'] at hr
    cases hr
    intro g' cur' hg' hc u hu
    simp [Value.ownBlock] at hg'
    subst hg'
    have := heap_alloc_new w.drew (.cells (xs.toArray ++ news.toArray ++ Builtin.zeroCells z.cells (grownCap w (n + m) cap e - (n + m))) e)
    rw [show w.drew.heap.size = w.heap.size from rfl] at this
    rw [this] at hc
    cases hc
    rw [Array.toList_append, Array.toList_append] at hu
    rcases List.mem_append.1 hu with hu | hu
    ·rcases List.mem_append.1 hu with hu | hu
     ·have hold := hxo g cur rfl hg
      refine hold u ?_
      rw [<- htake] at hu
      exact List.mem_of_mem_take (by simpa using hu)
     ·exact h1 u (by simpa using hu)
    ·exact hzc _ u hu
theorem jZ (hW : Wf GL E A G h w) {t ty e : TypeId} {size bytes : Nat} {z : AV} (ht : P.underlying t = some (.slice e)) (hsz : tySize P e = some size) (hby : tyBytes P e = some bytes) (hz : tyZero P e = some z) (hpos : 0 < size) (hbp : 0 < bytes)
  {v : Value} {l : List AV} {xs : List Value} (hown : w.ownsRow 0 e size v l.length xs) (hxo : ∀ g cur, v.ownBlock = some g -> w.heap[g]? = some (.cells cur e (0, 0)) -> ∀ u ∈ cur.toList, u.oneCell' = true) (hxl : ∀ x ∈ l, x.cells.length = size) (hxr : Reps E A G w (l.flatMap AV.cells) xs)
  (hA : ∀ b, v.ownBlock = some b -> (∀ i, ¬ A b i) /\ ¬ G.i b /\ ¬ G.h b)
  {h0 : List AObj} (hl0 : h0.length = h.length) (h0s : ∀ j y, h0[j]? = some y -> (h[j]? = some y /\ ∀ b, obk E j y = some b -> v.ownBlock ≠ some b) ∨ y = .dead)
  {x : AV} {xv : Value} (hx : Rep E A G w x xv) {m : List AV} (hm : elemsA h size x = some m) (h0m : 0 < l.length + m.length) (hbytes : (l.length + m.length) * bytes <= 2 ^ 47) :
  ∃ v' w' E', (Builtin.append_ #[t, t] ty #[v, xv]).run P w = .ok v' w' /\ E.le E' /\ Ext A G w A G w' /\ Wf GL E' A G (h0 ++ [.buf e size (l ++ m)]) w' /\ Rep E' A G w' (.vec h.length size (l.length + m.length)) v' := by
 obtain ⟨i, zv, i1, i2, i3, i4, i5⟩ := bL hz
 obtain ⟨i', hi', hsi⟩ := bX hsz
 rw [i1] at hi'; cases hi'
 obtain ⟨i', hi', hbi⟩ := dA hby
 rw [i1] at hi'; cases hi'
 obtain ⟨p, c, rfl, _, hml, news, n1, n2, n3, n4⟩ := iH hW hx hm
 obtain ⟨v', w', hr, a1, a2, a3, a4, a5⟩ := mD (P := P) t ty e i zv size bytes ht i1 i2 hsi hbi (by rw [i3, hsi]) hpos hbp v l.length xs hown p m.length c news n1 n4 n2 hbytes
 have hone := vL (P := P) t ty e i zv size bytes ht i1 i2 hsi hbi i4 (by rw [i3, hsi]) hpos hbp v l.length xs hown hxo p m.length c news n1 n4 n2 hbytes hr
 have hnm : l.length + m.length <= 2 ^ 47 := Nat.le_trans (Nat.le_mul_of_pos_right _ hbp) hbytes
 obtain ⟨g, cap, cur, hv', hgc, hle, hcm, hcs, htk⟩ : ∃ g cap cur, v' = .slice (some ⟨g, 0, none⟩) (l.length + m.length) cap /\ w'.heap[g]? = some (.cells cur e (0, 0)) /\ l.length + m.length <= cap /\ cap <= maxLen /\ cur.size = cap * size /\ cur.toList.take ((l.length + m.length) * size) = xs ++ news := by
  rcases a1.2 with ⟨_, h0⟩ | ⟨g, cap, cur, hv, _, hg, hle, hcm, hcs, htk⟩
  ·omega
  ·exact ⟨g, cap, cur, hv, hg, hle, hcm, hcs, htk⟩
 have hob : v'.ownBlock = some g := by rw [hv']; rfl
 have hgn : (∀ i, ¬ A g i) /\ ¬ G.i g /\ ¬ G.h g := by
  rcases a4 g hob with h1 | h1
  ·exact hA g h1
  ·exact ⟨fun i ha => by have := hW.a_lt ha; omega, fun hg => by have := hW.g g hg; omega, fun hg => by have := hW.hf g hg; omega⟩
 have hX : Ext A G w A G w' := aV hW a2 (fun _ _ h => h) (fun b hb => ⟨(hA b hb).2.1, (hA b hb).2.2, fun o ho => absurd ho ((hA b hb).1 o)⟩) (fun _ _ => .inl)
 have hall : ∀ x ∈ l ++ m, x.cells.length = size := fun x hx => by
  rcases List.mem_append.1 hx with hx | hx
  ·exact hxl x hx
  ·exact hml x hx
 have hbig : v.ownBlock ≠ some g -> w.heap.size <= g := fun hne => (a4 g hob).resolve_left hne
 refine ⟨v', w', E.push g cap undef size, hr, E.le_push _ _ _ _, hX, hW.step (E.le_push _ _ _ _) hX (by simp [hl0, hW.n]) ?_ ?_ (fun k => k = h0.length ∨ h0[k]? = some .dead) ?_ ?_ ?_ ?_, ?_⟩
 ·intro b o ha
  obtain ⟨u, hu⟩ := hW.a b o ha
  exact ⟨u, (hX.cell b o ha).trans hu⟩
 ·intro b hb; exact Nat.lt_of_lt_of_le (hW.g b hb) a2.size
 ·intro k y hy hk
  have hlt : k < h0.length := by
   have := (List.getElem?_eq_some_iff.1 hy).1
   simp at this
   exact Nat.lt_of_le_of_ne (by omega) (fun e => hk (.inl e))
  rw [List.getElem?_append_left hlt] at hy
  rcases h0s k y hy with ⟨h1, h2⟩ | rfl
  ·refine ⟨h1, fun b hb => ?_⟩
   exact ⟨a2.block b (cJ (hW.o k y h1) hb) (fun e => h2 b hb e.symm), fun _ ho => ho, id⟩
  ·exact absurd (.inr hy) hk
 ·intro k y hy hk
  by_cases hkl : k = h0.length
  ·subst hkl
   simp at hy
   subst hy
   rw [hl0, <- hW.n]
   refine ⟨cur, by rw [Env.push_blk]; exact hgc, hone g cur hob hgc, by simp, by simpa using hle, by rw [Env.push_cap]; exact hcs, hall, ?_, by rw [Env.push_blk]; exact hgn.1, by rw [Env.push_blk]; exact hgn.2.1⟩
   rw [List.length_append, htk, List.flatMap_append]
   exact (hxr.append n3).mono (E.le_push _ _ _ _) hX
  ·have hdead := hk.resolve_left hkl
   have hlt := (List.getElem?_eq_some_iff.1 hdead).1
   rw [List.getElem?_append_left hlt, hdead] at hy
   cases hy
   trivial
 ·intro j k y y' b hy hy' hj hb hb'
  by_cases hjl : j = h0.length
  ·subst hjl
   simp at hy
   subst hy
   rw [hl0, <- hW.n] at hb
   simp [obk] at hb
   subst hb
   by_cases hkl : k = h0.length
   ·exact hkl.symm
   ·have hlt : k < h0.length := by
     have := (List.getElem?_eq_some_iff.1 hy').1
     simp at this; omega
    rw [List.getElem?_append_left hlt] at hy'
    rcases h0s k y' hy' with ⟨h1, h2⟩ | rfl
    ·rw [(E.le_push _ _ _ _).obk (by rw [hW.n]; omega)] at hb'
     have := hbig (h2 _ hb')
     have := cJ (hW.o k y' h1) hb'
     omega
    ·simp [obk] at hb'
  ·have hdead := hj.resolve_left hjl
   have hlt := (List.getElem?_eq_some_iff.1 hdead).1
   rw [List.getElem?_append_left hlt, hdead] at hy
   cases hy
   simp [obk] at hb
 ·intro k y b hy hk hb
  by_cases hkl : k = h0.length
  ·subst hkl
   simp at hy
   subst hy
   rw [hl0, <- hW.n] at hb
   simp [obk] at hb
   subst hb
   exact hgn.2.2
  ·have hdead := hk.resolve_left hkl
   have hlt := (List.getElem?_eq_some_iff.1 hdead).1
   rw [List.getElem?_append_left hlt, hdead] at hy
   cases hy
   simp [obk] at hb
 ·simp only [Rep, <- hW.n]
  exact ⟨by simp, by simp, by rw [Env.push_blk, Env.push_cap]; exact hv', by simpa using hle, by omega, by simpa using hcm⟩
theorem buf_put (hW : Wf GL E A G h w) {k : Nat} {T : TypeId} {s : Nat} {l : List AV} (hk : h[k]? = some (.buf T s l)) {p : Nat} {m : List AV} {us : List Value} (hp : p + m.length <= l.length) (hml : ∀ x ∈ m, x.cells.length = s)
  (hr : Reps E A G w (m.flatMap AV.cells) us) (ho : ∀ u ∈ us, u.oneCell' = true) :
  ∃ cs : Array Value, w.heap[E.blk k]? = some (.cells cs T (0, 0)) /\ E.wid k = s /\ us.length = m.length * s /\ p * s + us.length <= cs.size /\
   Ext A G w A G (w.setRow (E.blk k) (cs.toList.take (p * s) ++ us ++ cs.toList.drop (p * s + us.length)).toArray) /\
   Wf GL E A G (h.set k (.buf T s (put l p m))) (w.setRow (E.blk k) (cs.toList.take (p * s) ++ us ++ cs.toList.drop (p * s + us.length)).toArray) := by
 obtain ⟨cs, h1, h9, h5, h6, h7, h8, h2, h3, h4⟩ := hW.o k _ hk
 have hul : us.length = m.length * s := by rw [hr.length, cI hml]
 have hin : (p + m.length) * s <= l.length * s := Nat.mul_le_mul_right _ hp
 have hin2 : l.length * s <= cs.size := by rw [h7]; exact Nat.mul_le_mul_right _ h6
 rw [Nat.add_mul] at hin
 have hg : w.grownBy (w.setRow (E.blk k) (cs.toList.take (p * s) ++ us ++ cs.toList.drop (p * s + us.length)).toArray) (some (E.blk k)) :=
  ⟨rfl, rfl, rfl, by simp, fun j _ hj => setRow_other w _ j _ (fun e => hj (by rw [e]))⟩
 have hX := aV hW hg (fun _ _ h => h) (fun b e => by cases e; exact ⟨h4, hW.ho k _ _ hk rfl, fun o ho => absurd ho (h3 o)⟩) (fun _ _ => .inl)
 have hpl : (put l p m).length = l.length := by simp only [put, List.length_append, List.length_take, List.length_drop]; omega
 refine ⟨cs, h1, h5, hul, by omega, hX, hW.put hk rfl rfl hg h3 h4 hX ⟨_, setRow_heap w _ cs _ T _ h1, fun u hu => ?_, h5, by rw [hpl]; exact h6, ?_, fun x hx => ?_, ?_, h3, h4⟩⟩
 ·simp only [List.append_assoc] at hu
  exact (gA hu).elim (h9 u) (ho u)
 ·rw [<- h7]
  simp only [List.size_toArray, List.length_append, List.length_take, List.length_drop, Array.length_toList]
  omega
 ·simp only [put, List.mem_append] at hx
  rcases hx with hx | hx | hx
  ·exact h8 x (List.mem_of_mem_take hx)
  ·exact hml x hx
  ·exact h8 x (List.mem_of_mem_drop hx)
 ·have hsp := (h2.splice hr (p * s)).mono E.le_refl hX
  have e : (put l p m).flatMap AV.cells = Rip.splice (l.flatMap AV.cells) (p * s) (m.flatMap AV.cells) := by
   simp only [put, Rip.splice, List.flatMap_append, lC h8, kU h8, cI hml, Nat.add_mul]
  rw [e, hpl]
  simp only [List.append_assoc] at hsp ⊢
  rw [lG (by omega)]
  exact hsp
theorem vec_rep {x : AV} {v : Value} {k s a m : Nat} (hx : Rep E A G w x v) (hv : vecOf x = some (k, s, a, m)) : k < E.n /\ E.wid k = s /\ v = .slice (some ⟨E.blk k, a * s, none⟩) m (E.cap k - a) /\ a + m <= E.cap k /\ m <= 2 ^ 50 /\ E.cap k <= maxLen := by
 unfold vecOf at hv
 split at hv
 ·cases hv
  simp only [Rep] at hx
  obtain ⟨h1, h2, h3, h4, h5⟩ := hx
  exact ⟨h1, h2, by simpa using h3, by simpa using h4, h5⟩
 ·cases hv
  simpa only [Rep] using hx
 ·cases hv
theorem ok_sliceV (hW : Wf GL E A G h w) (hρ : Opds GL E A G w τ ρ) {t e : TypeId} {sz : Nat} {x : Operand} {lo hi mx : Option Operand} (hu : P.underlying t = some (.slice e)) (hsz : tySize P e = some sz)
  (hs : stepA GL (.sliceV sz (compOpd x) (lo.map compOpd) (hi.map compOpd) (mx.map compOpd)) τ h K) : OpOk P GL E A G w (do pure (.value (<- Instr.sliceAt t (ρ x) (lo.map ρ) (hi.map ρ) (mx.map ρ)))) K := by
 have he : P.elem t = e := by simp [Program.elem, hu]
 simp only [stepA] at hs
 split at hs
 ·rename_i k s a m hxa
  obtain ⟨hkn, hwid, hv, hmc, h50, hcm⟩ := vec_rep (hρ x) hxa
  split at hs
  ·rename_i T s' l i j ho hbq ha hb
   have := Nat.eq_of_beq_eq_true hbq
   subst this
   obtain ⟨cs, g1, g9, g5, g6, g7, g8, g2, _⟩ := hW.o k _ ho
   split at hs
   ·rename_i hm
    have hm : mx = none := by simpa using hm
    subst hm
    obtain ⟨⟨h0, h1, h2, hl50⟩, hs⟩ := hs
    have hb' := tY (P := P) (w := w) (len := m) (cap := E.cap k - a) true hρ ha hb h0 h1 (by omega)
    have hrun : (Instr.sliceAt t (ρ x) (lo.map ρ) (hi.map ρ) (none : Option Value)).run P w = .ok (sliced (some ⟨E.blk k, a * s, none⟩) i.toNat j.toNat (E.cap k - a) s) w := by
     rw [run_sliceAt_slice _ _ _ _ _ _ (by rw [he]; exact hu), hv, run_slice_any _ _ _ _ _ (by rw [he]; exact hu), hb']
     simp [he, bG hsz]
    split at hs
    ·rename_i hlt
     have hlt : a + i.toNat < l.length := Nat.le_of_ble_eq_true hlt
     refine OpOk.quiet hW hrun ?_ hs
     simp only [Rep, sliced]
     rw [if_neg (by omega)]
     refine ⟨hkn, hwid, ?_, by omega, by omega, hcm⟩
     simp [cP, Nat.add_mul, Nat.sub_sub]
    ·rename_i hlt
     have hlt : ¬ a + i.toNat < l.length := fun hh => by
      have : Nat.blt (a + i.toNat) l.length = true := Nat.ble_eq_true_of_le hh
      rw [hlt] at this; cases this
     refine OpOk.quiet hW hrun ?_ hs
     simp only [Rep, sliced]
     exact ⟨_, _, _, rfl, by simp; omega, by omega, by omega, .inl trivial⟩
   ·rename_i mx' hm
    obtain ⟨c', rfl, rfl⟩ : ∃ c, mx = some c /\ compOpd c = mx' := by simpa using hm
    split at hs
    ·rename_i c hi' hcn hjo
     obtain ⟨hj, rfl, rfl⟩ : ∃ j, hi = some j /\ compOpd j = hi' := by simpa using hjo
     obtain ⟨⟨h0, h1, h2, h3⟩, hs⟩ := hs
     have hb' := lU (P := P) (w := w) (len := m) (cap := E.cap k - a) true hρ ha hb hcn h0 h1 h2 (by omega)
     refine OpOk.quiet hW (v := sliced (some ⟨E.blk k, a * s, none⟩) i.toNat j.toNat c.toNat s) ?_ (by simp only [Rep]) hs
     rw [run_sliceAt_slice _ _ _ _ _ _ (by rw [he]; exact hu), hv, Option.map_some, Option.map_some, run_slice_any _ _ _ _ _ (by rw [he]; exact hu), hb']
     simp [he, bG hsz]
    ·exact hs.elim
  ·exact hs.elim
 ·exact hs.elim
theorem ok_clear (hW : Wf GL E A G h w) (hρ : Opds GL E A G w τ ρ) {t ty e : TypeId} {sz : Nat} {z : AV} {x : Operand} (hu : P.underlying t = some (.slice e)) (hsz : tySize P e = some sz) (hz : tyZero P e = some z) (hpos : 0 < sz)
  (hs : stepA GL (.clear e sz z (compOpd x)) τ h K) : OpOk P GL E A G w (do pure (.value (<- Builtin.clear_ #[t] ty #[ρ x]))) K := by
 have hx := hρ x
 simp only [stepA] at hs
 split at hs
 ·rename_i k s a m hxa
  obtain ⟨hkn, hwid, hv, hmc, h50, hcm⟩ := vec_rep hx hxa
  split at hs
  ·rename_i T s' l ho hbq
   have := Nat.eq_of_beq_eq_true hbq
   subst this
   obtain ⟨⟨rfl, hm⟩, hs⟩ := hs
   obtain ⟨i, zv, i1, i2, i3, i4, i5⟩ := bL hz
   obtain ⟨i', hi', hsi⟩ := bX hsz
   rw [i1] at hi'; cases hi'
   have hzs : zv.cells.size = s := by rw [i3, hsi]
   have hzr := (i5 E A G w).2
   have hzl : z.cells.length = s := by rw [<- hzr.length]; simpa using hzs
   have hs' : s' = s := by
    obtain ⟨cs, g1, g9, g5, _⟩ := hW.o k _ ho
    rw [<- g5, hwid]
   subst hs'
   obtain ⟨cs, h1, h5, hul, hfit, hX, hW'⟩ := buf_put hW ho (p := a) (m := List.replicate m z) (by simpa using hm) (fun x hx => by rw [List.eq_of_mem_replicate hx]; exact hzl) (kL hzr hzs hpos m) (cE i4 hzs hpos m)
   have zc : (Array.range (m * s')).map (zv.cells[· % zv.cells.size]!) = Builtin.zeroCells zv.cells m := by simp only [Builtin.zeroCells, hzs]
   have hone := cE i4 hzs hpos m
   rw [zc] at hul hfit hX hW' hone
   generalize hZ : Builtin.zeroCells zv.cells m = Z at hul hfit hX hW' hone
   have hrun := run_storeCells_at P (E.blk k) (a * s') T Z.toList 0 cs w h1 (by simpa using hfit) hone
   simp only [Nat.add_zero] at hrun
   have hcl : (Builtin.clear_ #[t] ty #[ρ x]).run P w = .ok (.tuple #[]) (if m = 0 then w else w.setRow (E.blk k) (cs.toList.take (a * s') ++ Z.toList ++ cs.toList.drop (a * s' + Z.toList.length)).toArray) := by
    by_cases hm0 : m = 0
    ·subst hm0
     simp [Builtin.clear_, run_underlying hu, hv]
    ·rw [if_neg hm0]
     obtain ⟨m', rfl⟩ : ∃ m', m = m' + 1 := ⟨m - 1, by omega⟩
     have hz0 : (zeroValue T).run P w = .ok zv w := by simp [zeroValue, typeInfo, i1, i2]
     simp only [Builtin.clear_, hv]
     simp only [List.getElem?_toArray, List.getElem?_cons_zero, Sem.run_bind, run_underlying hu, Result.andThen_ok, hz0, Sem.run_pure, hZ, hrun]
   by_cases hm0 : m = 0
   ·subst hm0
    rw [if_pos rfl] at hcl
    have e : put l a (List.replicate 0 z) = l := by simp [put]
    rw [e] at hs
    have e2 : h.set k (.buf T s' l) = h := by
     apply List.ext_getElem?
     intro j
     by_cases hj : k = j
     ·subst hj
      rw [List.getElem?_set_self (List.getElem?_eq_some_iff.1 ho).1, ho]
     ·rw [List.getElem?_set_ne hj]
    rw [e2] at hs
    exact OpOk.quiet hW hcl (by simp [Rep]) hs
   ·rw [if_neg hm0] at hcl
    exact ⟨.value (.tuple #[]), _, _, E, A, G, _, _, by rw [Sem.run_bind, hcl]; rfl, .inl rfl, E.le_refl, hX, hW', by simp [Rep], hs⟩
  ·exact hs.elim
 ·split at hs
  ·rename_i n c hxa
   rw [hxa] at hx
   simp only [Rep] at hx
   refine OpOk.quiet hW (v := .tuple #[]) ?_ (by simp [Rep]) hs
   rw [hx]
   simp [Builtin.clear_, run_underlying hu]
  ·exact hs.elim
theorem oK (hW : Wf GL E A G h w) (hρ : Opds GL E A G w τ ρ) {t ty e : TypeId} {size bytes : Nat} {z : AV} (ht : P.underlying t = some (.slice e)) (hsz : tySize P e = some size) (hby : tyBytes P e = some bytes) (hz : tyZero P e = some z)
  (hpos : 0 < size) (hbp : 0 < bytes) {a b : Operand} (hs : stepA GL (.appendM e size bytes (compOpd a) (compOpd b)) τ h K) : OpOk P GL E A G w (do pure (.value (<- Builtin.append_ #[t, t] ty #[ρ a, ρ b]))) K := by
 have ha := hρ a
 have hb := hρ b
 simp only [stepA] at hs
 split at hs
 ·rename_i m hm
  split at hs
  ·rename_i k sz' n hal
   rw [hal] at ha
   split at hs
   ·rename_i T' sz'' l hk hbq
    obtain ⟨⟨rfl, rfl, rfl, h0m, hbytes⟩, hs⟩ := hs
    have := Nat.eq_of_beq_eq_true hbq
    subst this
    simp only [Rep] at ha
    obtain ⟨hkn, hwid, hv, hle, _, hcm⟩ := ha
    obtain ⟨cs, h1, h9, h5, h6, h7, h8, h2, h3, h4⟩ := hW.o k _ hk
    have hlt := (List.getElem?_eq_some_iff.1 hk).1
    have hob : (ρ a).ownBlock = some (E.blk k) := by rw [hv]; rfl
    have hown : w.ownsRow 0 T' sz' (ρ a) l.length (cs.toList.take (l.length * sz')) := by
     refine ⟨?_, .inr ⟨E.blk k, E.cap k, cs, hv, Nat.zero_le _, h1, h6, hcm, h7, rfl⟩⟩
     have hle' : l.length * sz' <= cs.size := by rw [h7]; exact Nat.mul_le_mul_right _ h6
     rw [List.length_take]
     exact Nat.min_eq_left (by simpa using hle')
    obtain ⟨v', w', E', r1, r2, r3, r4, r5⟩ := jZ (P := P) (ty := ty) hW ht hsz hby hz hpos hbp hown (fun g cur hg hc => by
      rw [hob] at hg
      cases hg
      rw [h1] at hc
      cases hc
      exact h9) h8 h2 (fun b hb' => by
      rw [hob] at hb'
      cases hb'
      exact ⟨h3, h4, hW.ho k _ _ hk rfl⟩) (h0 := h.set k .dead) (by simp) (fun j y hy => by
      by_cases hj : j = k
      ·subst hj
       simp [hlt] at hy
       exact .inr hy.symm
      ·rw [List.getElem?_set_ne (Ne.symm hj)] at hy
       refine .inl ⟨hy, fun b hb hvb => hj ?_⟩
       rw [hob] at hvb
       cases hvb
       exact hW.d j k y _ _ hy hk hb rfl) hb hm h0m hbytes
    exact ⟨_, _, _, E', A, G, _, _, by rw [Sem.run_bind, r1]; rfl, .inl rfl, r2, r3, r4, r5, hs⟩
   ·exact hs.elim
  ·rename_i k sz' a n hal
   rw [hal] at ha
   split at hs
   ·rename_i T' sz'' l hk hbq
    obtain ⟨⟨rfl, rfl, rfl, hnm, hl50⟩, hs⟩ := hs
    have := Nat.eq_of_beq_eq_true hbq
    subst this
    simp only [Rep] at ha
    obtain ⟨hkn, hwid, hv, hle, _, hcm⟩ := ha
    obtain ⟨i', hi', hsi⟩ := bX hsz
    obtain ⟨p, c, hbv, _, hml, news, n1, n2, n3, n4⟩ := iH hW hb hm
    obtain ⟨cs, h1, h5, hul, hfit, hX, hW'⟩ := buf_put hW hk (p := n) (m := m) hnm hml n3 n2
    have hlc : l.length <= E.cap k := by
     obtain ⟨cs, g1, g9, g5, g6, _⟩ := hW.o k _ hk
     exact g6
    have hv' : ρ a = .slice (some ⟨E.blk k, 0, none⟩) n (E.cap k) := by simpa using hv
    cases p with
    | none =>
     have hm0 : m = [] := List.eq_nil_of_length_eq_zero (n4.resolve_right (by rintro ⟨a, h, _⟩; cases h))
     subst hm0
     have e : put l n [] = l := by simp [put]
     rw [e] at hs
     have e2 : h.set k (.buf T' sz' l) = h := by
      apply List.ext_getElem?
      intro j
      by_cases hj : k = j
      ·subst hj
       rw [List.getElem?_set_self (List.getElem?_eq_some_iff.1 hk).1, hk]
      ·rw [List.getElem?_set_ne hj]
     rw [e2] at hs
     have hrun : (Builtin.append_ #[t, t] ty #[ρ a, ρ b]).run P w = .ok (.slice (some ⟨E.blk k, 0, none⟩) n (E.cap k)) w := by
      rw [hv', hbv]
      have hnc : n <= E.cap k := by simpa using hle
      simp [Builtin.append_, run_underlying ht, sizeOf, typeInfo, hi', Builtin.lenOf, Builtin.firstCells, hnc, storeCells]
     refine OpOk.quiet hW hrun ?_ hs
     simp only [Rep]
     exact ⟨hkn, hwid, by simp, by simpa using hle, by assumption, hcm⟩
    | some ad =>
     have hcell : ∀ j u, news[j]? = some u -> w.cell? (ad.add j) = some u := by
      rcases n4 with h0 | ⟨a', ha', hc'⟩
      ·intro j u hu
       have := (List.getElem?_eq_some_iff.1 hu).1
       rw [n1, h0] at this
       simp at this
      ·cases ha'; exact hc'
     have hrun := run_append_room (P := P) w t ty T' i' ht hi' (E.blk k) n (E.cap k) cs h1 ad m.length c news (by rw [n1, hsi]) hcell n2 (by omega) (by rw [hsi]; exact hfit)
     rw [hsi] at hrun
     rw [hv', hbv]
     refine ⟨_, _, _, E, A, G, _, _, by rw [Sem.run_bind, hrun]; rfl, .inl rfl, E.le_refl, hX, hW', ?_, hs⟩
     simp only [Rep]
     exact ⟨hkn, hwid, by simp, by omega, by omega, hcm⟩
   ·exact hs.elim
  ·rename_i hal
   obtain ⟨⟨h0m, hbytes⟩, hs⟩ := hs
   rw [hal] at ha
   simp only [Rep] at ha
   obtain ⟨v', w', E', r1, r2, r3, r4, r5⟩ := jZ (P := P) (ty := ty) hW (l := []) ht hsz hby hz hpos hbp (World.ownsRow_nil w 0 e size) (fun g cur hg => by simp [Value.ownBlock] at hg) (by simp) (by simp [Reps]) (fun b hb => by simp [Value.ownBlock] at hb)
    (h0 := h) rfl (fun j y hy => .inl ⟨hy, fun b _ hb => by simp [Value.ownBlock] at hb⟩) hb hm (by simpa using h0m) (by simpa using hbytes)
   rw [ha]
   exact ⟨_, _, _, E', A, G, _, _, by rw [Sem.run_bind, r1]; rfl, .inl rfl, r2, r3, r4, by simpa using r5, by simpa using hs⟩
  ·exact hs.elim
 ·split at hs
  ·rename_i ad c k sz' n hbl hal
   rw [hal] at ha
   rw [hbl] at hb
   simp only [Rep] at ha hb
   obtain ⟨hkn, hwid, hv, hle, h50, hcm⟩ := ha
   obtain ⟨i', hi', hsi⟩ := bX hsz
   have hrun : (Builtin.append_ #[t, t] ty #[ρ a, ρ b]).run P w = .ok (.slice (some ⟨E.blk k, 0, none⟩) n (E.cap k)) w := by
    rw [hv, hb]
    simp [Builtin.append_, run_underlying ht, sizeOf, typeInfo, hi', Builtin.lenOf, Builtin.firstCells, hle, storeCells, loadCells, loadCellsFrom]
   refine OpOk.quiet hW hrun ?_ hs
   simp only [Rep]
   exact ⟨hkn, hwid, by simp, hle, h50, hcm⟩
  ·exact hs.elim
end
section
variable {P : Program} {GL : Glob} {E : Env} {A : Nat -> Nat -> Prop} {G : Gd} {w : World} {τ : List (Nat × AV)} {h : List AObj} {ρ : Operand -> Value} {K : AV -> List AObj -> Prop}
theorem lM : ∀ {l : List AV} {bs : List UInt8}, bytesA l = some bs -> ∃ ns : List Int, l = ns.map (fun n => .v (.int .u8 n)) /\ bs = ns.map fun n => UInt8.ofNat n.toNat
 | [], bs, h => by cases h; exact ⟨[], rfl, rfl⟩
 | x :: r, bs, h => by
  unfold bytesA at h
  split at h
  ·rename_i he; cases he
  ·rename_i n r' he
   cases he
   split at h
   ·rename_i l hl
    cases h
    obtain ⟨ns, rfl, rfl⟩ := lM hl
    exact ⟨n :: ns, rfl, rfl⟩
   ·cases h
  ·cases h
theorem pJ : ∀ {ns : List Int} {vs : List Value}, Reps E A G w (ns.map fun n => .v (.int .u8 n)) vs -> vs = ns.map (Value.int .u8)
 | [], vs, h => by simpa [Reps] using h
 | n :: r, vs, h => by
  simp only [List.map_cons, Reps, Rep] at h ⊢
  obtain ⟨u, us, rfl, rfl, h⟩ := h
  rw [pJ h]
theorem pU : ∀ ns : List Int, (ns.map fun n => AV.v (.int .u8 n)).flatMap AV.cells = ns.map fun n => AV.v (.int .u8 n)
 | [] => rfl
 | n :: r => by rw [List.map_cons, List.flatMap_cons, pU r]; rfl
theorem mV : ∀ (ns : List Int) (s : ByteArray), ns.foldl (fun r n => r.push (UInt8.ofNat n.toNat)) s = ⟨s.data ++ (ns.map fun n => UInt8.ofNat n.toNat).toArray⟩
 | [], s => by simp
 | n :: r, s => by
  rw [List.foldl_cons, mV r]
  congr 1
  simp [ByteArray.push]
theorem ok_conv (hW : Wf GL E A G h w) (hρ : Opds GL E A G w τ ρ) {src dst : TypeId} {x : Operand} {o : Oper} (ho : o.op = .convert src dst x) {ao : AOp} (hc : compOp P o = some ao) (hs : stepA GL ao τ h K) :
  OpOk P GL E A G w (do pure (.value (<- convert src dst (ρ x)))) K := by
 have hx := hρ x
 simp only [compOp, ho] at hc
 split at hc
 ·rename_i k0 k h1 h2
  cases hc
  simp only [stepA] at hs
  split at hs
  ·rename_i k' n hxa
   rw [hxa] at hx
   simp only [Rep] at hx
   refine OpOk.quiet hW (v := .int k (k.wrap n)) ?_ (by simp [Rep]) hs
   simp [convert, run_underlying h1, run_underlying h2, hx, Conv.intToInt]
  ·exact hs.elim
 ·rename_i k0 h1 h2
  cases hc
  simp only [stepA] at hs
  split at hs
  ·rename_i k' n hxa
   rw [hxa] at hx
   simp only [Rep] at hx
   refine OpOk.quiet hW (v := .string (Utf8.encode n)) ?_ (by simp [Rep]) hs
   simp [convert, run_underlying h1, run_underlying h2, hx, Conv.intToString]
  ·exact hs.elim
 ·rename_i e h1 h2
  split at hc
  ·rename_i h3
   cases hc
   simp only [stepA] at hs
   split at hs
   ·rename_i l hl
    split at hs
    ·rename_i bs hbs
     obtain ⟨p, c, hv, _, _, news, hn1, _, hn3, hn4⟩ := iH hW hx hl
     obtain ⟨ns, rfl, rfl⟩ := lM hbs
     rw [pU] at hn3
     have hnews := pJ hn3
     subst hnews
     refine OpOk.quiet hW (v := .string ⟨(ns.map fun n => UInt8.ofNat n.toNat).toArray⟩) ?_ (by simp [Rep]) hs
     rw [hv, run_convert_bytes_string _ _ _ _ _ _ _ h1 h3 h2]
     have key : (Conv.bytesToString (.slice p (ns.map fun n => AV.v (.int .u8 n)).length c)).run P w = .ok (.string ⟨(ns.map fun n => UInt8.ofNat n.toNat).toArray⟩) w := by
      cases p with
      | none =>
       have : ns = [] := by
        rcases hn4 with h | ⟨a, h, _⟩
        ·simpa using h
        ·cases h
       subst this
       simp [Conv.bytesToString, Sem.run_pure]
       rfl
      | some a =>
       have hld : (loadCells a (ns.map fun n => AV.v (.int .u8 n)).length).run P w = .ok (ns.map (Value.int .u8)).toArray w := by
        rcases hn4 with h | ⟨a', h, h5⟩
        ·have : ns = [] := by simpa using h
         subst this
         simp [loadCells, loadCellsFrom]
        ·cases h
         have := run_loadCells_list (P := P) w a (ns.map (Value.int .u8)) h5
         simpa using this
       rw [run_bytesToString w a _ c ns hld, mV]
       simp
     exact key
    ·exact hs.elim
   ·exact hs.elim
  ·cases hc
 ·cases hc
end
section
variable {P : Program} {GL : Glob} {E : Env} {A : Nat -> Nat -> Prop} {G : Gd} {h : List AObj} {w : World} {τ : List (Nat × AV)} {ρ : Operand -> Value} {K : AV -> List AObj -> Prop}
theorem Wf.freezeMap (hW : Wf GL E A G h w) {k : Nat} {ks vs : List AV} (hk : h[k]? = some (.map ks vs)) :
  Ext A G w A ⟨fun b => G.i b ∨ b = E.blk k, G.h⟩ w /\ Wf GL E A ⟨fun b => G.i b ∨ b = E.blk k, G.h⟩ (h.set k .dead) w := by
 have hlt := (List.getElem?_eq_some_iff.1 hk).1
 have hno : ¬ G.h (E.blk k) := hW.ho k _ _ hk rfl
 have hX : Ext A G w A ⟨fun b => G.i b ∨ b = E.blk k, G.h⟩ w := ⟨fun _ _ h => h, fun _ h => .inl h, fun _ _ _ => rfl, fun _ _ => rfl, Nat.le_refl _, rfl, rfl, rfl, fun _ => Iff.rfl,
  fun b hb => ⟨rfl, fun _ h => h, fun h => h.resolve_right fun e => hno (e ▸ hb)⟩⟩
 refine ⟨hX, hW.step E.le_refl hX (by simp [hW.n]) hW.a ?_ (fun j => j = k) ?_ ?_ ?_ ?_⟩
 ·rintro b (hb | rfl)
  ·exact hW.g b hb
  ·exact cJ (hW.o k _ hk) rfl
 ·intro j x hx hj
  rw [List.getElem?_set_ne (Ne.symm hj)] at hx
  exact ⟨hx, fun b hb => ⟨rfl, fun _ h => h, fun h => h.resolve_right fun e => hj (hW.d j k x _ b hx hk hb (by rw [e]; rfl))⟩⟩
 ·rintro j x hx rfl
  simp [hlt] at hx
  subst hx
  trivial
 ·rintro i j x y b hx _ rfl hbx _
  simp [hlt] at hx
  subst hx
  simp [obk] at hbx
 ·rintro i x b hx rfl hbx
  simp [hlt] at hx
  subst hx
  simp [obk] at hbx
theorem range_map {t kt et : TypeId} {bm cl : Nat} {es : Array MapEntry} (hu : P.underlying t = some (.map kt et)) (hb : w.heap[bm]? = some (.map es cl)) :
  (Instr.range t (.map (some bm))).run P w = .ok (.pointer (some ⟨w.heap.size, 0, none⟩)) (w.alloc (.mapIter (some bm) cl #[] cl)) := by
 simp [Instr.range, run_underlying hu, MapKept.run_getObj_map hb]
theorem pS : ∀ {l : List MapEntry} {e : MapEntry}, (l.map (·.born)).Nodup -> e ∈ l -> l.find? (·.born == e.born) = some e
 | [], _, _, he => by cases he
 | x :: r, e, hn, he => by
  simp only [List.map_cons, List.nodup_cons] at hn
  rw [List.find?_cons]
  rcases List.mem_cons.1 he with rfl | he
  ·simp
  ·have hx : (x.born == e.born) = false := by
    rw [beq_eq_false_iff_ne]
    exact fun h => hn.1 (h ▸ List.mem_map_of_mem he)
   rw [hx]
   exact pS hn.2 he
theorem no_new {es : Array MapEntry} {since c0 : Nat} (a : Bool) (hold : ∀ x ∈ es.toList, x.born < since) (hsc : since <= c0) : (a && !es.isEmpty && es.all (fun x => decide (x.born >= c0))) = false := by
 rcases es with ⟨_ | ⟨x, r⟩⟩
 ·simp
 ·have := hold x (by simp)
  have hx : decide (x.born >= c0) = false := decide_eq_false (by omega)
  simp [hx]
theorem lH (es : Array MapEntry) : leftOf es #[] = es := by simp [leftOf]
theorem sX (hW : Wf GL E A G h w) (hρ : Opds GL E A G w τ ρ) {t kt et : TypeId} {x : Operand} (hu : P.underlying t = some (.map kt et)) (hs : stepA GL (.rangeMap (compOpd x)) τ h K) :
  OpOk P GL E A G w (do pure (.value (<- Instr.range t (ρ x)))) K := by
 have hx := hρ x
 simp only [stepA] at hs
 split at hs
 ·rename_i k hxa
  rw [hxa] at hx
  simp only [Rep] at hx
  split at hs
  ·rename_i ks vs hk
   obtain ⟨es, cl, h1, h2, h3, h4, h5⟩ := hW.o k _ hk
   obtain ⟨hX1, hW1⟩ := hW.freezeMap hk
   have := hW1.push (.mapIter (some (E.blk k)) cl #[] cl) (.miter ks vs []) 0 undef 0 (fun _ => False) (fun _ hf => hf.elim) ?_ ?_
   ·rw [bK] at this
    refine ⟨.value (.pointer (some ⟨w.heap.size, 0, none⟩)), _, w.alloc (.mapIter (some (E.blk k)) cl #[] cl), _, A, _, _, _, ?_, .inl rfl, E.le_push _ _ _ _, hX1.trans this.2, this.1, ?_, hs⟩
    ·rw [Sem.run_bind, hx.2, range_map hu h1]; rfl
    ·simp [Rep, <- hW.n]
   ·rw [bK]
    have hX2 : Ext A ⟨fun b => G.i b ∨ b = E.blk k, G.h⟩ w A ⟨fun b => G.i b ∨ b = E.blk k, G.h⟩ (w.alloc (.mapIter (some (E.blk k)) cl #[] cl)) := aV hW1 (World.grownBy_alloc w _ none) (fun _ _ h => h) (fun _ e => by cases e) (fun _ _ => .inl)
    have hblt := cJ (hW.o k _ hk) rfl
    refine ⟨⟨E.blk k, es, cl, cl, #[], cl, by rw [Env.push_blk]; exact heap_alloc_new w _, .inr rfl, ?_, h4.1, ⟨Nat.le_refl _, Nat.le_refl _⟩, ?_, ?_, ?_, .inl rfl⟩, fun hg => ?_⟩
    ·rw [heap_alloc_old w _ (E.blk k) hblt]; exact h1
    ·rw [List.nodup_iff_pairwise_ne, List.pairwise_map]; exact h4.2
    ·rw [lH]; exact h2.mono (E.le_push _ _ _ _) (hX1.trans hX2)
    ·rw [lH]; exact h3.mono (E.le_push _ _ _ _) (hX1.trans hX2)
    ·rw [Env.push_blk] at hg
     rcases hg with hg | hg
     ·have := hW.g _ hg; omega
     ·omega
   ·intro b hb; simp [obk] at hb; exact hb.symm
  ·exact hs.elim
 ·exact hs.elim
theorem wA {l : List MapEntry} (hn : (l.map (·.born)).Nodup) : ∀ {j : Nat} (hj : j < l.length), l.filter (fun e => !(e.born == l[j].born)) = l.eraseIdx j := by
 induction l with
 | nil => intro j hj; simp at hj
 | cons x r ih =>
  simp only [List.map_cons, List.nodup_cons] at hn
  intro j hj
  cases j with
  | zero =>
   simp only [List.getElem_cons_zero, List.eraseIdx_zero, List.tail_cons, List.filter_cons, beq_self_eq_true, Bool.not_true, Bool.false_eq_true, if_false]
   rw [List.filter_eq_self]
   intro e he
   have : e.born ≠ x.born := fun h => hn.1 (h ▸ List.mem_map_of_mem he)
   simp [this]
  | succ j =>
   have hj' : j < r.length := by simpa using hj
   have hx : (x.born == r[j].born) = false := by
    rw [beq_eq_false_iff_ne]
    exact fun h => hn.1 (h ▸ List.mem_map_of_mem (List.getElem_mem hj'))
   simp only [List.getElem_cons_succ, List.eraseIdx_cons_succ, List.filter_cons, hx, Bool.not_false, if_true]
   rw [ih hn.2 hj']
theorem sC {es : Array MapEntry} {seen : Array Nat} (hn : (es.toList.map (·.born)).Nodup) {j : Nat} (hj : j < (leftOf es seen).size) :
  (leftOf es (seen.push (leftOf es seen)[j].born)).toList = (leftOf es seen).toList.eraseIdx j := by
 have hn' : ((leftOf es seen).toList.map (·.born)).Nodup := by
  rw [leftOf, Array.toList_filter]
  exact hn.sublist (List.filter_sublist.map _)
 rw [<- wA hn' (j := j) (by simpa using hj)]
 generalize hb : (leftOf es seen).toList[j].born = b
 have hb' : (leftOf es seen)[j].born = b := by rw [<- hb]; simp
 rw [hb']
 simp only [leftOf, Array.toList_filter, List.filter_filter]
 congr 1
 funext e
 simp only [Array.contains_push, Bool.not_or]
 rw [Bool.and_comm]
theorem next_run {r bm since c0 clock : Nat} {seen : Array Nat} {es : Array MapEntry} {ty : TypeId} (hr : w.heap[r]? = some (.mapIter (some bm) since seen c0)) (hb : w.heap[bm]? = some (.map es clock)) (hold : ∀ x ∈ es.toList, x.born < since) (hsc : since <= c0) :
  ((leftOf es seen).size = 0 /\ (Instr.next (.pointer (some ⟨r, 0, none⟩)) false ty).run P w = .ok (.tuple #[.bool false]) w) ∨
  ∃ (j : Nat) (hj : j < (leftOf es seen).size) (d : Nat), (Instr.next (.pointer (some ⟨r, 0, none⟩)) false ty).run P w = .ok (.tuple #[.bool true, (leftOf es seen)[j].key, (leftOf es seen)[j].val]) { w with heap := w.heap.setIfInBounds r (.mapIter (some bm) since (seen.push (leftOf es seen)[j].born) clock), drawn := d } := by
 simp only [Instr.next, getObj, Sem.run_bind, Sem.run, hr, hb, Result.andThen, no_new _ hold hsc, Bool.false_eq_true, if_false]
 have hmem : ∀ x ∈ (leftOf es seen).toList, x.born < since := fun x hx => hold x (by simp [leftOf] at hx ⊢; exact hx.1)
 have el : es.filter (fun e => !seen.contains e.born) = leftOf es seen := rfl
 rw [el]
 generalize leftOf es seen = L at hmem ⊢
 have e1 : L.filter (fun x => decide (x.born < since)) = L := Array.filter_eq_self.2 (fun x hx => by simpa using hmem x (by simpa using hx))
 have e2 : L.filter (fun x => decide (x.born >= since)) = #[] := by
  rw [Array.filter_eq_empty_iff]
  intro x hx
  have := hmem x (by simpa using hx)
  simp
  omega
 simp only [e1, e2, Array.append_empty]
 by_cases h0 : L.size = 0
 ·left
  have : L = #[] := Array.eq_empty_of_size_eq_zero h0
  subst this
  refine ⟨rfl, ?_⟩
  simp [choose, Sem.run, Question.forced]
 ·right
  have hne : L.isEmpty = false := by simp [Array.isEmpty, h0]
  simp only [hne, Bool.false_eq_true, if_false, Array.empty_append, Array.size_map]
  have hch : ∃ (j d : Nat), j < L.size /\ (choose (Question.mapNext L.size)).run P w = .ok j { w with drawn := d } := by
   by_cases hf : L.size <= 1
   ·exact ⟨0, w.drawn, by omega, by simp [choose, Sem.run, Question.forced, hf]⟩
   ·exact ⟨_, w.drawn + 1, Nat.mod_lt _ (by omega), by
     simp only [choose, Sem.run, Question.forced, decide_eq_true_eq, hf, if_false, Question.cut]
     rfl⟩
  obtain ⟨j, d, hj, hrun⟩ := hch
  refine ⟨j, hj, d, ?_⟩
  simp only [hrun, Array.getElem?_map, Array.getElem?_eq_getElem hj, Option.map_some, Sem.run_bind, setObj, Sem.run, hr, Result.andThen]
  rfl
theorem uS (hW : Wf GL E A G h w) (hρ : Opds GL E A G w τ ρ) {ty : TypeId} {x : Operand} (hs : stepA GL (.nextMap (compOpd x)) τ h K) :
  OpOk P GL E A G w (do pure (.value (<- Instr.next (ρ x) false ty))) K := by
 have hx := hρ x
 simp only [stepA] at hs
 split at hs
 ·rename_i k hxa
  rw [hxa] at hx
  simp only [Rep] at hx
  obtain ⟨hkn, hv⟩ := hx
  split at hs
  ·rename_i ks vs last ho
   obtain ⟨⟨bm, es, cl, since, seen, st, h1, h2, h3, h4, h5, h6, h7, h8, h9⟩, hG⟩ := hW.o k _ ho
   have hlen : ks.length = (leftOf es seen).size := by rw [<- h7.length]; simp
   rw [hv]
   rcases next_run (P := P) (ty := ty) h1 h3 h4 h5.1 with ⟨h0, hrun⟩ | ⟨j, hj, d, hrun⟩
   ·exact OpOk.quiet hW hrun (by simp only [Rep]; exact ⟨_, rfl, by simp [Reps, Rep]⟩) (hs.1 (List.eq_nil_of_length_eq_zero (by omega)))
   ·have hs := hs.2 j (by omega)
    have hA : ∀ i, ¬ A (E.blk k) i := fun i ha => by
     obtain ⟨v, hv⟩ := hW.a _ _ ha
     simp [World.cell?, h1] at hv
    have hset := MapKept.heap_set (o' := .mapIter (some bm) since (seen.push (leftOf es seen)[j].born) cl) h1
    generalize hw' : ({ w with heap := w.heap.setIfInBounds (E.blk k) (.mapIter (some bm) since (seen.push (leftOf es seen)[j].born) cl), drawn := d } : World) = w' at hrun
    have hh : w'.heap = w.heap.setIfInBounds (E.blk k) (.mapIter (some bm) since (seen.push (leftOf es seen)[j].born) cl) := by rw [<- hw']
    rw [<- hh] at hset
    have hg : w.grownBy w' (some (E.blk k)) := ⟨by rw [<- hw'], by rw [<- hw'], by rw [<- hw'], by rw [hh]; simp, fun i _ hi => hset.2 i (fun e => hi (by rw [e]))⟩
    have hX := aV hW hg (fun _ _ h => h) (fun b e => by cases e; exact ⟨hG, hW.ho k _ _ ho rfl, fun o ho => absurd ho (hA o)⟩) (fun _ _ => .inl)
    have hm : ∀ x ∈ leftOf es seen, x ∈ es.toList := fun x hx => by simp [leftOf] at hx ⊢; exact hx.1
    have hem := hm _ (Array.getElem_mem hj)
    have gk : ∃ y, ks[j]? = some y := ⟨_, List.getElem?_eq_getElem (by omega)⟩
    have gv : ∃ y, vs[j]? = some y := ⟨_, List.getElem?_eq_getElem (by rw [<- h8.length]; simpa using hj)⟩
    obtain ⟨yk, gk⟩ := gk
    obtain ⟨yv, gv⟩ := gv
    have ek : ks.getD j .any = yk := by simp [List.getD, gk]
    have ev : vs.getD j .any = yv := by simp [List.getD, gv]
    obtain ⟨uk, uk1, uk2⟩ := h7.get gk
    obtain ⟨uv, uv1, uv2⟩ := h8.get gv
    have euk : uk = (leftOf es seen)[j].key := by simpa [hj] using uk1.symm
    have euv : uv = (leftOf es seen)[j].val := by simpa [hj] using uv1.symm
    rw [euk] at uk2
    rw [euv] at uv2
    have uk2 := Rep.mono E.le_refl hX _ _ uk2
    have uv2 := Rep.mono E.le_refl hX _ _ uv2
    have her : ∀ {l : List AV} {us : List Value}, Reps E A G w l us -> Reps E A G w' (l.eraseIdx j) (us.eraseIdx j) := fun hl => by
     rw [List.eraseIdx_eq_take_drop_succ, List.eraseIdx_eq_take_drop_succ]
     exact Reps.mono E.le_refl hX _ _ ((hl.take j).append (hl.drop (j + 1)))
    rw [ek, ev] at hs
    have hmap : ∀ {β : Type} (f : MapEntry -> β), (leftOf es (seen.push (leftOf es seen)[j].born)).toList.map f = ((leftOf es seen).toList.map f).eraseIdx j := fun f => by
     rw [sC h6 hj, List.eraseIdx_eq_take_drop_succ, List.eraseIdx_eq_take_drop_succ, List.map_append, List.map_take, List.map_drop]
    refine ⟨_, _, w', E, A, G, _, h.set k (.miter (ks.eraseIdx j) (vs.eraseIdx j) [yk, yv]), by rw [Sem.run_bind, hrun]; rfl, .inl rfl, E.le_refl, hX, hW.put ho rfl rfl hg hA hG hX ⟨⟨bm, es, cl, since, seen.push (leftOf es seen)[j].born, cl, hset.1, hX.g bm h2, (hX.block bm h2).trans h3, h4, ⟨h5.2, h5.2⟩, h6, ?_, ?_, .inr ⟨rfl, _, hem, by simp, ?_⟩⟩, hG⟩, ?_, hs⟩
    ·rw [hmap]; exact her h7
    ·rw [hmap]; exact her h8
    ·simp only [Reps]
     exact ⟨_, _, rfl, uk2, _, _, rfl, uv2, rfl⟩
    ·simp only [Rep]
     refine ⟨_, rfl, ?_⟩
     simp only [Reps]
     exact ⟨_, _, rfl, by simp [Rep], _, _, rfl, uk2, _, _, rfl, uv2, rfl⟩
  ·exact hs.elim
 ·exact hs.elim
theorem sU (hW : Wf GL E A G h w) (hρ : Opds GL E A G w τ ρ) {x : Operand} (hs : stepA GL (.entryMap (compOpd x)) τ h K) :
  OpOk P GL E A G w (do pure (.value (<- Instr.entry (ρ x)))) K := by
 have hx := hρ x
 simp only [stepA] at hs
 split at hs
 ·rename_i k hxa
  rw [hxa] at hx
  simp only [Rep] at hx
  obtain ⟨hkn, hv⟩ := hx
  split at hs
  ·rename_i ks vs a b ho
   obtain ⟨⟨bm, es, cl, since, seen, st, h1, h2, h3, h4, h5, h6, h7, h8, h9⟩, hG⟩ := hW.o k _ ho
   obtain ⟨rfl, e, he, hb, hr⟩ := h9.resolve_left (by simp)
   have hf : es.find? (·.born == e.born) = some e := by rw [<- Array.find?_toList]; exact pS h6 he
   have hrun : (Instr.entry (.pointer (some ⟨E.blk k, 0, none⟩))).run P w = .ok (.tuple #[e.key, e.val]) w := by
    simp only [Instr.entry, getObj, Sem.run_bind, Sem.run, h1, h3, Result.andThen, hb, bne_self_eq_false, Bool.false_eq_true, if_false, hf]
    rfl
   rw [hv]
   exact OpOk.quiet hW hrun (by simp only [Rep]; exact ⟨_, rfl, hr⟩) hs
  ·exact hs.elim
 ·exact hs.elim
theorem sM {e : TypeId} (h : tyZero P e = some (.v (.int .u8 0))) : ∃ i, P.info? e = some i /\ i.zero = some (.int .u8 0) := by
 unfold tyZero at h
 split at h
 ·rename_i i hi
  split at h
  ·rename_i z hz
   refine ⟨i, hi, ?_⟩
   rw [hz]
   split at h
   ·split at h <;> simp at h
   ·split at h
    ·cases h
    ·cases z <;> simp_all [liftC]
   ·cases h
  ·cases h
 ·cases h
theorem jW (t u ty e : TypeId) (i : TypeInfo) (ht : P.underlying t = some (.slice e)) (hu : P.underlying u = some .string) (hi : P.info? e = some i) (hz : i.zero = some (.int .u8 0)) (hsize : i.size = 1) (hby : i.bytes = 1)
  (v : Value) (n : Nat) (xs : List Value) (hown : w.ownsRow 0 e 1 v n xs) (s : ByteArray) (hbytes : n + s.size <= 2 ^ 47) :
  ∃ v' w', (Builtin.append_ #[t, u] ty #[v, .string s]).run P w = .ok v' w' /\ w'.ownsRow 0 e 1 v' (n + s.size) (xs ++ Go.Lib.strCells s) /\ w.grownBy w' v.ownBlock /\
   (∀ g o, v.ownBlock = some g -> o < n * 1 -> w'.cell? ⟨g, o, none⟩ = w.cell? ⟨g, o, none⟩) /\ (∀ g, v'.ownBlock = some g -> v.ownBlock = some g ∨ w.heap.size <= g) := by
 obtain ⟨v', w', hr, h2, h3, h4⟩ := Go.Lib.run_append_own_string (P := P) w 0 t u ty e i ht hu hi hz hsize hby v n xs hown s (by simp only [maxLen]; omega) (by omega) (Nat.zero_le _)
 refine ⟨v', w', hr, h2, h3, ?_⟩
 rcases hown.2 with ⟨rfl, rfl⟩ | ⟨g, cap, cur, rfl, hbg, hg, hnc, hcm, hcs, htake⟩
 ·refine ⟨fun g o hg _ => by simp [Value.ownBlock] at hg, fun g hg => .inr ?_⟩
  by_cases hm : s.size = 0
  ·rw [h4.2 ⟨rfl, hm⟩] at hg
   simp [Value.ownBlock] at hg
  ·have hr' := run_append_nil_string (P := P) w t u ty e i (.int .u8 0) ht hu hi hz s (by omega) (by omega) (by rw [hby]; omega)
   rw [hr'] at hr
   cases hr
   simp [Value.ownBlock] at hg
   omega
 ·by_cases hroom : n + s.size <= cap
  ·have hcs' : cur.size = cap := by simpa using hcs
   have hr' := Go.Lib.run_append_room_string (P := P) w t u ty e i ht hu hi hsize g n cap cur hg s hroom (by omega)
   rw [hr'] at hr
   cases hr
   refine ⟨fun g' o hg' ho => ?_, fun g' hg' => .inl hg'⟩
   simp [Value.ownBlock] at hg'
   subst hg'
   rw [cell_of_row _ _ _ _ _ _ (setRow_heap w g cur _ e _ hg), cell_of_row _ _ _ _ _ _ hg]
   simp only [List.getElem?_toArray, List.append_assoc]
   rw [List.getElem?_append_left (by simp; omega), List.getElem?_take_of_lt (by omega)]
   simp
  ·have hxl : xs.length = n := by simpa using hown.1
   have holds : ∀ j u, xs[j]? = some u -> w.cell? ((⟨g, 0, none⟩ : Addr).add j) = some u := hown.cells (g := g) rfl
   have hr' := Go.Lib.run_append_grow_string (P := P) w t u ty e i (.int .u8 0) ht hu hi hz ⟨g, 0, none⟩ n cap xs (by rw [hsize]; simpa using hxl) holds s (by omega) (by omega) (by rw [hby]; exact growslice_fits (by omega) (by omega))
   rw [hr'] at hr
   cases hr
   refine ⟨fun g' o hg' ho => ?_, fun g' hg' => by simp [Value.ownBlock] at hg'; exact .inr (by omega)⟩
   simp [Value.ownBlock] at hg'
   subst hg'
   exact World.cell?_of_block (a := ⟨g, o, none⟩) (heap_alloc_old w.drew _ g (Array.getElem?_eq_some_iff.1 hg).1)
theorem pK (m : List UInt8) : Go.Lib.strCells ⟨m.toArray⟩ = m.map (fun c => Value.int .u8 c.toNat) := by simp [Go.Lib.strCells]
theorem oO (m : List UInt8) : Reps E A G w ((m.map byteA).flatMap AV.cells) (m.map (fun c => Value.int .u8 c.toNat)) := by
 induction m with
 | nil => simp [Reps]
 | cons c r ih =>
  simp only [List.map_cons, List.flatMap_cons]
  exact Reps.append (l := (byteA c).cells) (vs := [Value.int .u8 c.toNat]) (Reps.one (by simp [byteA, Rep])) ih
theorem uU (hW : Wf GL E A G h w) (hρ : Opds GL E A G w τ ρ) {t u ty e : TypeId} (ht : P.underlying t = some (.slice e)) (hu : P.underlying u = some .string) (hsz : tySize P e = some 1) (hby : tyBytes P e = some 1) (hz : tyZero P e = some (.v (.int .u8 0)))
  {a b : Operand} (hs : stepA GL (.appendS e 1 1 (compOpd a) (compOpd b)) τ h K) : OpOk P GL E A G w (do pure (.value (<- Builtin.append_ #[t, u] ty #[ρ a, ρ b]))) K := by
 have ha := hρ a
 have hb := hρ b
 obtain ⟨i, i1, i2⟩ := sM hz
 obtain ⟨i', hi', hsi⟩ := bX hsz
 rw [i1] at hi'; cases hi'
 obtain ⟨i', hi', hbi⟩ := dA hby
 rw [i1] at hi'; cases hi'
 simp only [stepA] at hs
 split at hs
 ·rename_i m hm
  rw [hm] at hb
  simp only [Rep] at hb
  have hsm : (ByteArray.mk m.toArray).size = m.length := by show m.toArray.size = _; simp
  have hml : ∀ x ∈ m.map byteA, x.cells.length = 1 := fun x hx => by
   obtain ⟨c, _, rfl⟩ := List.mem_map.1 hx
   rfl
  have hone : ∀ u ∈ m.map (fun c => Value.int .u8 c.toNat), u.oneCell' = true := fun u hu => by
   obtain ⟨c, _, rfl⟩ := List.mem_map.1 hu
   rfl
  rw [hb]
  split at hs
  ·rename_i k sz' l hal
   rw [hal] at ha
   split at hs
   ·rename_i T' sz'' hk hbq
    obtain ⟨⟨rfl, rfl, hbytes⟩, hs⟩ := hs
    have := Nat.eq_of_beq_eq_true hbq
    subst this
    obtain ⟨xs, o1, o2, hxl, hxr, o3, o4⟩ := rK hW ha hk
    have hsp := jW (P := P) t u ty T' i ht hu i1 i2 hsi hbi _ _ _ o1 ⟨m.toArray⟩ (by rw [hsm]; omega)
    rw [hsm, pK] at hsp
    obtain ⟨v', w', E', A', r1, r2, r3, r4, r5⟩ := gC (P := P) hW (bytes := 1) (by omega) o1 o2 hxl hxr o3 (h0 := h.set k .dead) (by simp) o4 hml hone (oO m) (by simpa using hbytes) (by simpa using hsp)
    exact ⟨_, _, _, E', A', G, _, _, by rw [Sem.run_bind, r1]; rfl, .inl rfl, r2, r3, r4, r5, hs⟩
   ·exact hs.elim
  ·rename_i hal
   obtain ⟨hbytes, hs⟩ := hs
   rw [hal] at ha
   simp only [Rep] at ha
   have hsp := jW (P := P) t u ty e i ht hu i1 i2 hsi hbi (.slice none 0 0) 0 [] (World.ownsRow_nil w 0 e 1) ⟨m.toArray⟩ (by rw [hsm]; omega)
   rw [hsm, pK] at hsp
   obtain ⟨v', w', E', A', r1, r2, r3, r4, r5⟩ := gC (P := P) hW (bytes := 1) (s := Builtin.append_ #[t, u] ty #[.slice none 0 0, .string ⟨m.toArray⟩]) (by omega) (l := []) (World.ownsRow_nil w 0 e 1) (by simp) (by simp) (by simp [Reps]) (fun b hb => by cases hb)
    (h0 := h) rfl (fun j y hy => .inl ⟨hy, fun b _ hb => by cases hb⟩) hml hone (oO m) (by simpa using hbytes) (by simpa using hsp)
   rw [ha]
   exact ⟨_, _, _, E', A', G, _, _, by rw [Sem.run_bind, r1]; rfl, .inl rfl, r2, r3, r4, by simpa using r5, hs⟩
  ·exact hs.elim
 ·exact hs.elim
end
def Yl (GL : Glob) (op : AOp) (τ : List (Nat × AV)) (h : List AObj) (x : AV) : Prop := ∀ K : AV -> List AObj -> Prop, K x h -> stepA GL op τ h K
theorem eW {GL : Glob} {op : AOp} {τ : List (Nat × AV)} {h : List AObj} {K : AV -> List AObj -> Prop} (hq : quietA op = true) (hs : stepA GL op τ h K) : ∃ x, K x h /\ Yl GL op τ h x := by
 cases op <;> simp only [quietA, Bool.false_eq_true] at hq <;> simp only [stepA] at hs <;> unfold Yl <;> simp only [stepA]
 case pick c a b =>
  split at hs
  ·rename_i t ht
   cases t
   ·exact ⟨_, hs.2 rfl, fun K' hk => ⟨fun h => (by cases h), fun _ => hk⟩⟩
   ·exact ⟨_, hs.1 rfl, fun K' hk => ⟨fun _ => hk, fun h => (by cases h)⟩⟩
  ·exact hs.elim
 all_goals (repeat' split at hs) <;> (first | exact hs.elim | exact ⟨_, hs, fun _ hk => hk⟩ | exact ⟨_, hs.2, fun _ hk => ⟨hs.1, hk⟩⟩ | skip)
 all_goals (repeat (first | split at hs | (obtain ⟨hb, hs⟩ := hs; split at hs))) <;> (first | exact hs.elim | exact hs.2.elim | exact ⟨_, hs, fun _ hk => ⟨hb, hk⟩⟩ | exact ⟨_, hs.2, fun _ hk => ⟨hs.1, hk⟩⟩)
theorem Yl.heap {GL : Glob} {op : AOp} {τ : List (Nat × AV)} {h h' : List AObj} {x : AV} (hq : quietA op = true) (hr : readsA op = false) (hy : Yl GL op τ h x) : Yl GL op τ h' x := by
 intro K' hk
 have hs := hy (fun y _ => y = x) rfl
 cases op <;> simp only [quietA, Bool.false_eq_true] at hq <;> simp only [readsA, Bool.true_eq_false] at hr <;> simp only [stepA] at hs ⊢
 case pick c a b =>
  split at hs
  ·rename_i t ht
   cases t
   ·have := hs.2 rfl; subst this; exact ⟨fun h => (by cases h), fun _ => hk⟩
   ·have := hs.1 rfl; subst this; exact ⟨fun _ => hk, fun h => (by cases h)⟩
  ·exact hs.elim
 all_goals (repeat' split at hs) <;> (first | exact hs.elim | (subst hs; exact hk) | (obtain ⟨hb, hs⟩ := hs; subst hs; exact ⟨hb, hk⟩) | skip)
 all_goals (repeat (first | split at hs | (obtain ⟨hb, hs⟩ := hs; split at hs))) <;> (first | exact hs.elim | exact hs.2.elim | (subst hs; exact ⟨hb, hk⟩) | (obtain ⟨hb, hs⟩ := hs; subst hs; exact ⟨hb, hk⟩))
theorem lK {GL : Glob} {op : AOp} {τ τ' : List (Nat × AV)} {h : List AObj} {K : AV -> List AObj -> Prop} (hx : ∀ x ∈ op.opds, aeval GL τ x = aeval GL τ' x) : stepA GL op τ h K = stepA GL op τ' h K := by
 have opt : ∀ {o : Option AOpd} {d : Int}, (∀ x ∈ o.toList, aeval GL τ x = aeval GL τ' x) -> optInt (aeval GL τ) o d = optInt (aeval GL τ') o d := by
  intro o d ho
  cases o with
  | none => rfl
  | some x => simp only [optInt]; rw [ho x (by simp)]
 cases op <;> simp only [AOp.opds, List.mem_cons, List.not_mem_nil, or_false, forall_eq_or_imp, forall_eq, List.mem_append] at hx <;> simp only [stepA]
 case build zs ps =>
  have : (ps.map fun (o, s, x) => (o, s, aeval GL τ x)) = ps.map fun (o, s, x) => (o, s, aeval GL τ' x) :=
   List.map_congr_left fun p hp => by
    have := hx p.2.2 (List.mem_map.2 ⟨p, hp, rfl⟩)
    show (p.1, p.2.1, _) = _
    rw [this]
  rw [this]
 case buildSlice T sz z len ps =>
  have : (ps.map fun (i, x) => (i, aeval GL τ x)) = ps.map fun (i, x) => (i, aeval GL τ' x) :=
   List.map_congr_left fun p hp => by
    have := hx p.2 (List.mem_map.2 ⟨p, hp, rfl⟩)
    show (p.1, _) = _
    rw [this]
  rw [this]
 case buildSliceF T sz z len ps =>
  have : (ps.map fun (i, x) => (i, aeval GL τ x)) = ps.map fun (i, x) => (i, aeval GL τ' x) :=
   List.map_congr_left fun p hp => by
    have := hx p.2 (List.mem_map.2 ⟨p, hp, rfl⟩)
    show (p.1, _) = _
    rw [this]
  rw [this]
 case mkFunc f a b =>
  have h1 : a.map (aeval GL τ) = a.map (aeval GL τ') := List.map_congr_left fun x h => hx x (.inl h)
  have h2 : b.map (aeval GL τ) = b.map (aeval GL τ') := List.map_congr_left fun x h => hx x (.inr h)
  rw [h1, h2]
 case sliceStr x lo hi =>
  rw [hx.1, opt (fun x h => hx.2 x (.inl h))]
  simp only [opt (fun x h => hx.2 x (.inr h))]
 case sliceArr n sz x lo hi =>
  rw [hx.1, opt (fun x h => hx.2 x (.inl h)), opt (fun x h => hx.2 x (.inr h))]
 case slice sz x lo hi mx =>
  rw [hx.1]
  simp only [opt (fun x h => hx.2 x (.inl h)), opt (fun x h => hx.2 x (.inr (.inl h))), opt (fun x h => hx.2 x (.inr (.inr h)))]
 case sliceV sz x lo hi mx =>
  rw [hx.1]
  simp only [opt (fun x h => hx.2 x (.inl h)), opt (fun x h => hx.2 x (.inr (.inl h))), opt (fun x h => hx.2 x (.inr (.inr h)))]
 case sliceQ sz x lo hi mx =>
  rw [hx.1, opt (fun x h => hx.2 x (.inl h))]
  simp only [opt (fun x h => hx.2 x (.inr (.inl h)))]
 case append T sz bytes a b => rw [hx.1, hx.2]
 case lookup q z x i ok => rw [hx.1, hx.2]
 all_goals (first | rfl | rw [hx] | rw [hx.1, hx.2] | rw [hx.1, hx.2.1, hx.2.2])
theorem Yl.congr {GL : Glob} {op : AOp} {τ τ' : List (Nat × AV)} {h : List AObj} {x : AV} (hx : ∀ x ∈ op.opds, aeval GL τ x = aeval GL τ' x) (hy : Yl GL op τ h x) : Yl GL op τ' h x :=
 fun K hk => by rw [<- lK hx]; exact hy K hk
theorem opA_congr {GL : Glob} {C : Calling} {op : AOp} {τ τ' : List (Nat × AV)} {h : List AObj} {K Pn : AV -> List AObj -> Prop} (hc : ∀ d o, op ≠ .chk d o) (hx : ∀ x ∈ op.opds, aeval GL τ x = aeval GL τ' x) : opA GL C op τ h K Pn = opA GL C op τ' h K Pn := by
 unfold opA
 split
 ·rename_i f args
  have : args.map (aeval GL τ) = args.map (aeval GL τ') := List.map_congr_left fun x h => hx x h
  rw [this]
 ·rename_i x args
  have : args.map (aeval GL τ) = args.map (aeval GL τ') := List.map_congr_left fun x h => hx x (List.mem_cons_of_mem _ h)
  rw [this, hx x (by simp [AOp.opds])]
 ·rename_i x
  rw [hx x (by simp [AOp.opds])]
 ·exact absurd rfl (hc _ _)
 ·exact lK hx
section
variable {P : Program} {GL : Glob} {E : Env} {A : Nat -> Nat -> Prop} {G : Gd} {h : List AObj} {w : World} {τ : List (Nat × AV)} {ρ : Operand -> Value} {K : AV -> List AObj -> Prop}
theorem step_ok {o : Oper} {ao : AOp} (hc : compOp P o = some ao) (hW : Wf GL E A G h w) (hρ : Opds GL E A G w τ ρ) (hs : stepA GL ao τ h K) : OpOk P GL E A G w (execOp ρ o) K := by
 have hc0 := hc
 cases ho : o.op with
 | move x | assign x =>
  simp only [compOp, ho, Option.some.injEq] at hc
  subst hc
  simp only [execOp, ho]
  exact ok_move hW hρ hs
 | pick c x y =>
  simp only [compOp, ho, Option.some.injEq] at hc
  subst hc
  simp only [execOp, ho]
  exact ok_pick hW hρ hs
 | alloc T =>
  simp only [compOp, ho] at hc
  split at hc
  ·rename_i z hz
   cases hc
   simp only [execOp, ho]
   exact ok_alloc hW hz hs
  ·cases hc
 | box T x =>
  simp only [compOp, ho, Option.some.injEq] at hc
  subst hc
  simp only [execOp, ho]
  exact ok_box hW hρ hs
 | build t ps =>
  simp only [execOp, ho]
  exact ok_build hW hρ ho hc0 hs
 | buildSlice t len ps =>
  simp only [compOp, ho] at hc
  split at hc
  ·rename_i e hu
   split at hc
   ·rename_i s z hsz hz
    split at hc
    ·rename_i hb
     simp only [Bool.and_eq_true] at hb
     simp only [execOp, ho]
     split at hc
     ·rename_i b hv hps hby
      split at hc
      ·rename_i hbp
       cases hc
       have h0 : len = 0 := by
        simp only [vecElem, Bool.and_eq_true] at hv
        exact Nat.eq_of_beq_eq_true hv.1
       subst h0
       exact sV hW hρ hu hsz hz (Nat.le_of_ble_eq_true hb.1) hps hs
      ·cases hc
     ·cases hc
      exact pC hW hρ hu hsz hz (Nat.le_of_ble_eq_true hb.1) (Nat.le_of_ble_eq_true hb.2) hs
    ·cases hc
   ·cases hc
  ·cases hc
 | load t a =>
  simp only [execOp, ho]
  exact ok_load hW hρ ho hc0 hs
 | store t a x =>
  simp only [execOp, ho]
  exact ok_store hW hρ ho hc0 hs
 | nilCheck x =>
  simp only [compOp, ho, Option.some.injEq] at hc
  subst hc
  exact tU hW hρ ho hs
 | binOp op t x y yt =>
  simp only [execOp, ho]
  exact ok_bin hW hρ ho hc0 hs
 | unOp op t x =>
  simp only [compOp, ho, Option.some.injEq] at hc
  subst hc
  simp only [execOp, ho]
  exact ok_un hW hρ hs
 | convert src dst x =>
  simp only [execOp, ho]
  exact ok_conv hW hρ ho hc0 hs
 | makeInterface t x =>
  simp only [execOp, ho]
  exact vS hW hρ ho hc0 hs
 | makeFunc fn a b =>
  cases fn with
  | func f =>
   simp only [compOp, ho, Option.some.injEq] at hc
   subst hc
   simp only [execOp, ho]
   exact ok_mkFunc hW hρ hs
  | _ => simp [compOp, ho] at hc
 | makeMap t r =>
  cases r with
  | none =>
   simp only [compOp, ho, Option.some.injEq] at hc
   subst hc
   simp only [execOp, ho]
   exact ok_mkMap hW hs
  | some r => simp [compOp, ho] at hc
 | makeSlice t l c =>
  simp only [compOp, ho] at hc
  split at hc
  ·rename_i e hu
   split at hc
   ·rename_i s b z hsz hby hz
    split at hc
    ·rename_i hb
     cases hc
     simp only [Bool.and_eq_true] at hb
     simp only [execOp, ho]
     exact uX hW hρ hu hsz hby hz (Nat.le_of_ble_eq_true hb.1) (Nat.le_of_ble_eq_true hb.2) hs
    ·cases hc
   ·cases hc
  ·cases hc
 | slice t x lo hi mx =>
  simp only [compOp, ho] at hc
  simp only [execOp, ho]
  split at hc
  ·rename_i hu
   cases mx with
   | none =>
    simp only [Option.some.injEq] at hc
    subst hc
    exact uA hW hρ hu hs
   | some m => cases hc
  ·rename_i e hu
   split at hc
   ·rename_i s hsz
    split at hc
    ·cases hc
     exact ok_sliceV hW hρ hu hsz hs
    ·cases hc
     exact ok_slice hW hρ hu hsz hs
   ·cases hc
  ·rename_i n e hu
   split at hc
   ·rename_i s hsz
    split at hc
    ·rename_i hb
     cases hc
     exact sO hW hρ hu hsz (by have := Nat.le_of_ble_eq_true hb; omega) hs
    ·cases hc
   ·cases hc
  ·cases hc
 | fieldAddr s x f =>
  simp only [execOp, ho]
  exact qN hW hρ ho hc0 hs
 | field s x f =>
  simp only [execOp, ho]
  exact ok_field hW hρ ho hc0 hs
 | indexAddr t x i =>
  simp only [execOp, ho]
  exact rH hW hρ ho hc0 hs
 | index t x i =>
  simp only [execOp, ho]
  exact rS hW hρ ho hc0 hs
 | lookup t x i ok =>
  simp only [compOp, ho] at hc
  split at hc
  ·rename_i k e hu
   split at hc
   ·rename_i q z hq hz
    cases hc
    simp only [execOp, ho]
    exact ok_lookup hW hρ hu hq hz hs
   ·cases hc
  ·cases hc
 | mapUpdate t m k x | insert t m k x =>
  simp only [compOp, ho] at hc
  split at hc
  ·rename_i kt e hu
   split at hc
   ·rename_i q hq
    cases hc
    simp only [execOp, ho]
    exact qL hW hρ hu hq hs
   ·cases hc
  ·cases hc
 | extract x i =>
  simp only [compOp, ho, Option.some.injEq] at hc
  subst hc
  simp only [execOp, ho]
  exact wQ hW hρ hs
 | range t x =>
  simp only [compOp, ho] at hc
  split at hc
  ·rename_i hu
   cases hc
   simp only [execOp, ho]
   exact sR hW hρ hu hs
  ·rename_i hu
   cases hc
   simp only [execOp, ho]
   exact sX hW hρ hu hs
  ·cases hc
 | next it b =>
  cases b with
  | true =>
   simp only [compOp, ho, Option.some.injEq] at hc
   subst hc
   simp only [execOp, ho]
   exact uH hW hρ hs
  | false =>
   simp only [compOp, ho, Option.some.injEq] at hc
   subst hc
   simp only [execOp, ho]
   exact uS hW hρ hs
 | entry it =>
  simp only [compOp, ho, Option.some.injEq] at hc
  subst hc
  simp only [execOp, ho]
  exact sU hW hρ hs
 | typeAssert x xt T ok =>
  simp only [compOp, ho] at hc
  split at hc
  ·cases hc
  ·rename_i d hn hu
   split at hc
   ·rename_i z hz
    cases hc
    simp only [execOp, ho]
    exact tW hW hρ hu (fun ms e => hn ms (by rw [e])) hz hs
   ·cases hc
  ·cases hc
 | panic x =>
  simp only [compOp, ho, Option.some.injEq] at hc
  subst hc
  exact hs.elim
 | call c =>
  obtain ⟨callee, args, ats⟩ := c
  cases callee with
  | value f => cases f <;> (simp only [compOp, ho, Option.some.injEq] at hc; subst hc; exact hs.elim)
  | invoke r n => simp [compOp, ho] at hc
  | builtin b =>
   simp only [execOp, ho, resolve, pure_bind, invoke, builtin]
   simp only [compOp, ho] at hc
   split at hc
   ·rename_i x t ha hat
    obtain rfl : args = #[x] := by rw [<- Array.toList_inj, ha]
    obtain rfl : ats = #[t] := by rw [<- Array.toList_inj, hat]
    have fin : ∀ q, (match P.underlying t with | some .string => q = .str | some (.slice _) => q = .sl | some (.map _ _) => q = .mp | _ => False) -> ao = .len q (compOpd x) -> OpOk P GL E A G w (do pure (.value (<- Builtin.len_ #[t] o.type #[ρ x]))) K := by
     intro q hq he
     subst he
     exact ok_len hW hρ hq hs
    simp only [List.map_toArray, List.map_cons, List.map_nil]
    split at hc
    ·rename_i hu
     cases hc
     exact fin .str (by rw [hu]) rfl
    ·rename_i e hu
     cases hc
     exact fin .sl (by rw [hu]) rfl
    ·rename_i k e hu
     cases hc
     exact fin .mp (by rw [hu]) rfl
    ·cases hc
   ·rename_i x t ha hat
    obtain rfl : args = #[x] := by rw [<- Array.toList_inj, ha]
    obtain rfl : ats = #[t] := by rw [<- Array.toList_inj, hat]
    split at hc
    ·rename_i e hu
     cases hc
     simp only [List.map_toArray, List.map_cons, List.map_nil]
     exact ok_cap hW hρ hu hs
    ·cases hc
   ·rename_i x t ha hat
    obtain rfl : args = #[x] := by rw [<- Array.toList_inj, ha]
    obtain rfl : ats = #[t] := by rw [<- Array.toList_inj, hat]
    split at hc
    ·rename_i e hu
     split at hc
     ·rename_i s z hsz hz
      split at hc
      ·rename_i hb
       cases hc
       simp only [List.map_toArray, List.map_cons, List.map_nil]
       exact ok_clear hW hρ hu hsz hz (Nat.le_of_ble_eq_true hb) hs
      ·cases hc
     ·cases hc
    ·cases hc
   ·rename_i x y t u ha hat
    obtain rfl : args = #[x, y] := by rw [<- Array.toList_inj, ha]
    obtain rfl : ats = #[t, u] := by rw [<- Array.toList_inj, hat]
    split at hc
    ·rename_i e kk hu hu'
     split at hc
     ·rename_i s y' z hsz hby hz
      split at hc
      ·rename_i hb
       cases hc
       simp only [Bool.and_eq_true] at hb
       simp only [List.map_toArray, List.map_cons, List.map_nil]
       exact wG hW hρ hu hu' hsz hby hz (Nat.le_of_ble_eq_true hb.1) (Nat.le_of_ble_eq_true hb.2) hs
      ·cases hc
     ·cases hc
    ·rename_i e hu hu'
     split at hc
     ·rename_i hsz hby hz
      cases hc
      simp only [List.map_toArray, List.map_cons, List.map_nil]
      exact uU hW hρ hu hu' hsz hby hz hs
     ·cases hc
    ·rename_i e e' hu hu'
     split at hc
     ·rename_i s y' z hsz hby hz htu
      have htu := eq_of_beq htu
      subst htu
      split at hc
      ·rename_i hb
       simp only [Bool.and_eq_true] at hb
       simp only [List.map_toArray, List.map_cons, List.map_nil]
       split at hc
       ·cases hc
        exact oK hW hρ hu hsz hby hz (Nat.le_of_ble_eq_true hb.1) (Nat.le_of_ble_eq_true hb.2) hs
       split at hc
       ·cases hc
        rcases hs with hs | hs
        ·exact pZ hW hρ hu hsz hby hz (Nat.le_of_ble_eq_true hb.1) (Nat.le_of_ble_eq_true hb.2) hs
        ·exact oK hW hρ hu hsz hby hz (Nat.le_of_ble_eq_true hb.1) (Nat.le_of_ble_eq_true hb.2) hs
       cases hc
       exact pZ hW hρ hu hsz hby hz (Nat.le_of_ble_eq_true hb.1) (Nat.le_of_ble_eq_true hb.2) hs
      ·cases hc
     ·cases hc
    ·cases hc
   ·rename_i x y ha
    obtain rfl : args = #[x, y] := by rw [<- Array.toList_inj, ha]
    cases hc
    simp only [List.map_toArray, List.map_cons, List.map_nil]
    exact ok_max hW hρ hs
   ·rename_i x y ha
    obtain rfl : args = #[x, y] := by rw [<- Array.toList_inj, ha]
    cases hc
    simp only [List.map_toArray, List.map_cons, List.map_nil]
    exact ok_min hW hρ hs
   ·cases hc
 | _ => simp [compOp, ho] at hc
def CompOk (P : Program) (o : Oper) (a : AOp) : Prop := ∃ b, compOp P o = some b /\ (a = b ∨ a = frz b)
theorem kG {o : Oper} {T : TypeId} {sz : Nat} {z : AV} {n : Nat} {ps : List (Nat × AOpd)} (hc : compOp P o = some (.buildSlice T sz z n ps)) :
  ∃ t qs, o.op = .buildSlice t n qs /\ P.underlying t = some (.slice T) /\ tySize P T = some sz /\ tyZero P T = some z /\ 0 < sz /\ n * sz <= 2 ^ 24 /\ ps = qs.toList.map fun (i, x) => (i, compOpd x) := by
 cases ho : o.op
 case buildSlice t len qs =>
  simp only [compOp, ho] at hc
  split at hc
  ·rename_i e hu
   split at hc
   ·rename_i s z' hsz hz
    split at hc
    ·rename_i hb
     simp only [Bool.and_eq_true] at hb
     split at hc
     ·split at hc <;> cases hc
     ·cases hc
      exact ⟨t, qs, rfl, hu, hsz, hz, Nat.le_of_ble_eq_true hb.1, Nat.le_of_ble_eq_true hb.2, rfl⟩
    ·cases hc
   ·cases hc
  ·cases hc
 case makeFunc fn a b => cases fn <;> simp [compOp, ho] at hc
 case makeMap t r => cases r <;> simp [compOp, ho] at hc
 case next it b => cases b <;> simp [compOp, ho] at hc
 case call c =>
  obtain ⟨callee, args, ats⟩ := c
  cases callee with
  | value f => cases f <;> simp [compOp, ho] at hc
  | invoke r n => simp [compOp, ho] at hc
  | builtin b =>
   simp only [compOp, ho] at hc
   repeat' split at hc
   all_goals cases hc
 all_goals (simp only [compOp, ho] at hc; try (first | cases hc | skip))
 all_goals (repeat' split at hc)
 all_goals (first | cases hc | skip)
theorem rF {o : Oper} {sz : Nat} {x : AOpd} {lo hi mx : Option AOpd} (hc : compOp P o = some (.slice sz x lo hi mx)) :
  ∃ t e y l h m, o.op = .slice t y l h m /\ P.underlying t = some (.slice e) /\ tySize P e = some sz /\ x = compOpd y /\ lo = l.map compOpd /\ hi = h.map compOpd /\ mx = m.map compOpd := by
 cases ho : o.op
 case slice t y l h m =>
  simp only [compOp, ho] at hc
  split at hc
  ·cases m <;> simp at hc
  ·rename_i e hu
   split at hc
   ·rename_i s hsz
    split at hc
    ·cases hc
    ·cases hc
     exact ⟨t, e, y, l, h, m, rfl, hu, hsz, rfl, rfl, rfl, rfl⟩
   ·cases hc
  ·split at hc
   ·split at hc <;> cases hc
   ·cases hc
  ·cases hc
 case makeFunc fn a b => cases fn <;> simp [compOp, ho] at hc
 case makeMap t r => cases r <;> simp [compOp, ho] at hc
 case next it b => cases b <;> simp [compOp, ho] at hc
 case call c =>
  obtain ⟨callee, args, ats⟩ := c
  cases callee with
  | value f => cases f <;> simp [compOp, ho] at hc
  | invoke r n => simp [compOp, ho] at hc
  | builtin b =>
   simp only [compOp, ho] at hc
   repeat' split at hc
   all_goals cases hc
 all_goals (simp only [compOp, ho] at hc; try (first | cases hc | skip))
 all_goals (repeat' split at hc)
 all_goals (first | cases hc | skip)
theorem step_okF {o : Oper} {ao : AOp} (hc : CompOk P o ao) (hW : Wf GL E A G h w) (hρ : Opds GL E A G w τ ρ) (hs : stepA GL ao τ h K) : OpOk P GL E A G w (execOp ρ o) K := by
 obtain ⟨b, hb, rfl | rfl⟩ := hc
 ·exact step_ok hb hW hρ hs
 ·cases b
  case buildSlice T sz z n ps =>
   obtain ⟨t, qs, ho, hu, hsz, hz, hpos, hn, rfl⟩ := kG hb
   simp only [execOp, ho]
   exact oP hW hρ hu hsz hz hpos hn hs
  case slice sz x lo hi mx =>
   obtain ⟨t, e, y, l, h', m, ho, hu, hsz, rfl, rfl, rfl, rfl⟩ := rF hb
   simp only [execOp, ho]
   exact pO hW hρ hu hsz hs
  all_goals exact step_ok hb hW hρ hs
end
theorem nD {r : Option Nat} {n : Nat} {P : Program} {f : FuncId} {args : Array Value} {w : World} {R : Ending -> World -> Prop} (h : Calls P f args w R) : CallsIn (FW r) n P f args w R :=
 ⟨trivial, fun cs _ => let ⟨e, w', fr, r', s, x⟩ := h cs; ⟨e, w', fr, r', comesIn_wide.2 s, x⟩⟩
section
variable {P : Program} {GL : Glob} {E : Env} {A : Nat -> Nat -> Prop} {G : Gd} {h : List AObj} {w : World} {τ : List (Nat × AV)} {a : Act} {K Pn : AV -> List AObj -> Prop}
theorem qM {o : Oper} {ao : AOp} (hc : compOp P o = some ao) : ∀ c, o.op ≠ .defer c := by
 intro c ho
 simp [compOp, ho] at hc
theorem mQ {o : Oper} {ao : AOp} (hc : compOp P o = some ao) : ∀ d x, ao ≠ .chk d x := by
 intro d x he
 subst he
 cases ho : o.op
 case makeFunc fn a b => cases fn <;> simp [compOp, ho] at hc
 case makeMap t r => cases r <;> simp [compOp, ho] at hc
 case next it b => cases b <;> simp [compOp, ho] at hc
 case call c =>
  obtain ⟨callee, args, ats⟩ := c
  cases callee with
  | value f => cases f <;> simp [compOp, ho] at hc
  | invoke r n => simp [compOp, ho] at hc
  | builtin b =>
   simp only [compOp, ho] at hc
   repeat' split at hc
   all_goals cases hc
 all_goals (simp only [compOp, ho] at hc; try (first | cases hc | skip))
 all_goals (repeat' split at hc)
 all_goals (first | cases hc | skip)
theorem pQ {o : Oper} {ao : AOp} (hc : compOp P o = some ao) :
  (∀ f l, ao = .call f l -> ∃ as ats, o.op = .call ⟨.value (.func f), as, ats⟩ /\ l = as.toList.map compOpd) /\
  (∀ x l, ao = .callV x l -> ∃ y as ats, o.op = .call ⟨.value y, as, ats⟩ /\ x = compOpd y /\ l = as.toList.map compOpd) /\
  (∀ x, ao = .panic x -> ∃ y, o.op = .panic y /\ x = compOpd y) := by
 refine ⟨fun f l he => ?_, fun x l he => ?_, fun x he => ?_⟩ <;> subst he <;> cases ho : o.op
 case refine_1.call c | refine_2.call c | refine_3.call c =>
  obtain ⟨callee, args, ats⟩ := c
  cases callee with
  | value f => cases f <;> simp only [compOp, ho, Option.some.injEq, AOp.call.injEq, AOp.callV.injEq, reduceCtorEq] at hc <;> first
   | (obtain ⟨rfl, rfl⟩ := hc; exact ⟨_, _, rfl, rfl⟩)
   | (obtain ⟨rfl, rfl⟩ := hc; exact ⟨_, _, _, rfl, rfl, rfl⟩)
  | invoke r n => simp [compOp, ho] at hc
  | builtin b =>
   simp only [compOp, ho] at hc
   repeat' split at hc
   all_goals cases hc
 case refine_3.panic y => simp only [compOp, ho, Option.some.injEq, AOp.panic.injEq] at hc; exact ⟨y, rfl, hc.symm⟩
 case refine_1.makeFunc fn a b | refine_2.makeFunc fn a b | refine_3.makeFunc fn a b => cases fn <;> simp [compOp, ho] at hc
 case refine_1.next it b | refine_2.next it b | refine_3.next it b => cases b <;> simp [compOp, ho] at hc
 case refine_1.makeMap t r | refine_2.makeMap t r | refine_3.makeMap t r => cases r <;> simp [compOp, ho] at hc
 all_goals (simp only [compOp, ho] at hc; try (first | cases hc | skip))
 all_goals (repeat' split at hc)
 all_goals (first | cases hc | skip)
theorem frz_same {b : AOp} : (∀ d x, frz b = .chk d x -> b = .chk d x) /\ (∀ f l, frz b = .call f l -> b = .call f l) /\ (∀ x l, frz b = .callV x l -> b = .callV x l) /\ ∀ x, frz b = .panic x -> b = .panic x := by
 cases b <;> simp [frz]
theorem CompOk.defer {o : Oper} {ao : AOp} (hc : CompOk P o ao) : ∀ c, o.op ≠ .defer c := qM hc.choose_spec.1
theorem CompOk.chk {o : Oper} {ao : AOp} (hc : CompOk P o ao) : ∀ d x, ao ≠ .chk d x := by
 obtain ⟨b, hb, rfl | rfl⟩ := hc
 ·exact mQ hb
 ·exact fun d x e => mQ hb d x (frz_same.1 d x e)
theorem CompOk.fn {o : Oper} {ao : AOp} (hc : CompOk P o ao) :
  (∀ f l, ao = .call f l -> ∃ as ats, o.op = .call ⟨.value (.func f), as, ats⟩ /\ l = as.toList.map compOpd) /\
  (∀ x l, ao = .callV x l -> ∃ y as ats, o.op = .call ⟨.value y, as, ats⟩ /\ x = compOpd y /\ l = as.toList.map compOpd) /\
  (∀ x, ao = .panic x -> ∃ y, o.op = .panic y /\ x = compOpd y) := by
 obtain ⟨b, hb, rfl | rfl⟩ := hc
 ·exact pQ hb
 ·have h := pQ hb
  exact ⟨fun f l e => h.1 f l (frz_same.2.1 f l e), fun x l e => h.2.1 x l (frz_same.2.2.1 x l e), fun x e => h.2.2 x (frz_same.2.2.2 x e)⟩
theorem op_in {r : Option Nat} {n : Nat} {o : Oper} {ao : AOp} (hc0 : CompOk P o ao ∨ ao = .bad) (hW : Wf GL E A G h w) (hρ : Opds GL E A G w τ a.eval) (hs : opA GL (AC P GL) ao τ h K Pn)
  {next : Act -> World -> Prop} {Q : Exit -> Act -> World -> Prop}
  (hnext : ∀ v w' E' A' G' x h', E.le E' -> Ext A G w A' G' w' -> Wf GL E' A' G' h' w' -> Rep E' A' G' w' x v -> K x h' -> next (a.put o.dst v) w')
  (hpan : ∀ p w' E' A' G' x h', E.le E' -> Ext A G w A' G' w' -> Wf GL E' A' G' h' w' -> Rep E' A' G' w' x p.v -> p.recovered = false -> p.goexit = false -> Pn x h' -> Q (.panic [p]) a w') :
  o.wpIn (FW r) n P a w next Q := by
 have hc : CompOk P o ao := hc0.resolve_right (fun e => by subst e; exact hs.elim)
 refine ⟨fun _ _ => trivial, ?_⟩
 rw [show (FW r).round = r from rfl, Oper.semAt_eq _ _ _ (hc.defer)]
 have fin : OpOk P GL E A G w (execOp a.eval o) K -> o.uponIn (FW r) n P a next Q ((execOp a.eval o).run P w) := by
  rintro ⟨nx, v, w', E', A', G', x, h', hrun, hnx, h1, h2, h3, h4, h5⟩
  rw [hrun]
  rcases hnx with rfl | ⟨rfl, rfl⟩
  ·exact hnext _ _ _ _ _ _ _ h1 h2 h3 h4 h5
  ·exact hnext _ _ _ _ _ _ _ h1 h2 h3 h4 h5
 -- a call of a function
 have call : ∀ (f : FuncId) (vs : Array Value), (execOp a.eval o).run P w = (callFunc f vs).run P w ->
   CallA P f vs w (fun e w' => ∃ E' A' G' r h', Wf GL E' A' G' h' w' /\ Ext A G w A' G' w' /\ E.le E' /\ EndRep E' A' G' w' r e /\ resK K Pn r h') ->
   o.uponIn (FW r) n P a next Q ((execOp a.eval o).run P w) := by
  intro f vs he hcall
  rw [he]
  rcases hcall with ⟨h1, h2⟩ | ⟨v, w', h1, E', A', G', r', h', g1, g2, g3, g4, g5⟩
  ·rw [h1]
   refine ⟨fun hd => by simp [FW, Fence.wide] at hd, CallsIn.mono (nD h2) ?_⟩
   rintro e w' ⟨E', A', G', r', h', g1, g2, g3, g4, g5⟩
   cases e with
   | returned v =>
    cases r' with
    | val x => exact hnext _ _ _ _ _ _ _ g3 g2 g1 g4 g5
    | panic x => exact g4.elim
   | panicked ch =>
    cases r' with
    | val x => exact g4.elim
    | panic x =>
     match ch, g4 with
     | [p], g4 => exact hpan _ _ _ _ _ _ _ g3 g2 g1 g4.1 g4.2.1 g4.2.2 g5
   | outgrown => cases r' <;> exact g4.elim
  ·rw [h1]
   cases r' with
   | val x => exact hnext _ _ _ _ _ _ _ g3 g2 g1 g4 g5
   | panic x => exact g4.elim
 unfold opA at hs
 split at hs
 ·rename_i f args
  obtain ⟨as, ats, ho, rfl⟩ := hc.fn.1 f args rfl
  have hcall := hs E A G w _ hW (fO hρ as.toList)
  have e : (as.toList.map a.eval).toArray = as.map a.eval := by rw [<- Array.toList_map, Array.toArray_toList]
  rw [e] at hcall
  refine call f _ ?_ hcall
  simp [execOp, ho, resolve, Act.eval, Deferred.ofValue, invoke]
 ·rename_i x args
  obtain ⟨y, as, ats, ho, rfl, rfl⟩ := hc.fn.2.1 x args rfl
  have hy := hρ y
  unfold callVal at hs
  split at hs
  ·rename_i f first cap hx
   rw [hx] at hy
   simp only [Rep] at hy
   obtain ⟨fa, fb, hv, h1, h2⟩ := hy
   have hcall := hs E A G w _ hW ((h1.append (fO hρ as.toList)).append h2)
   have e : (fa.toList ++ as.toList.map a.eval ++ fb.toList).toArray = fa ++ as.map a.eval ++ fb := by
    rw [<- Array.toList_map, <- Array.toList_append, <- Array.toList_append, Array.toArray_toList]
   rw [e] at hcall
   refine call f _ ?_ hcall
   simp [execOp, ho, resolve, hv, Deferred.ofValue, invoke]
  ·rename_i k hx
   rw [hx] at hy
   simp only [Rep] at hy
   obtain ⟨_, hv⟩ := hy
   obtain ⟨f, tmps, ac, bc, h1, h2⟩ := hs E A G w _ hW (fO hρ as.toList)
   have e : (as.toList.map a.eval).toArray = as.map a.eval := by rw [<- Array.toList_map, Array.toArray_toList]
   rw [e] at h1
   have hrun : (execOp a.eval o).run P w = .ok (.round (E.blk k) f tmps ac bc) w := by
    rw [<- h1]
    simp [execOp, ho, resolve, hv, Deferred.ofValue, invoke]
   rw [hrun, Oper.uponIn_round]
   refine ⟨fun hd => by simp [FW, Fence.wide] at hd, (h2 r (n - 1)).mono ?_⟩
   rintro e w' ⟨E', A', G', r', h', g1, g2, g3, g4, g5⟩
   cases e with
   | returned v =>
    cases r' with
    | val x => exact hnext _ _ _ _ _ _ _ g3 g2 g1 g4 g5
    | panic x => exact g4.elim
   | panicked ch =>
    cases r' with
    | val x => exact g4.elim
    | panic x =>
     match ch, g4 with
     | [p], g4 => exact hpan _ _ _ _ _ _ _ g3 g2 g1 g4.1 g4.2.1 g4.2.2 g5
   | outgrown => cases r' <;> exact g4.elim
  ·exact hs.elim
 ·rename_i x
  obtain ⟨y, ho, rfl⟩ := hc.fn.2.2 x rfl
  have hy := hρ y
  split at hs
  ·rename_i t z hx
   rw [hx] at hy
   have hy' := hy
   simp only [Rep] at hy'
   obtain ⟨u, hv, _⟩ := hy'
   have hrun : (execOp a.eval o).run P w = .halt (.panic (a.eval y)) w := by
    simp [execOp, ho, hv, Instr.panic, goPanic, Sem.run]
   rw [hrun]
   exact hpan ⟨a.eval y, false, false⟩ w E A G _ h E.le_refl (Ext.refl _ _ _) hW hy rfl rfl hs
  ·exact hs.elim
 ·exact absurd rfl (hc.chk _ _)
 ·exact fin (step_okF hc hW hρ hs)
end
def Env.lem (m : Nat) (E E' : Env) : Prop := m <= E'.n /\ ∀ k, k < m -> E'.blk k = E.blk k /\ E'.cap k = E.cap k /\ E'.tok k = E.tok k /\ E'.wid k = E.wid k
theorem Env.lem.le {m : Nat} {E E' E'' : Env} (h : Env.lem m E E') (h' : E'.le E'') : Env.lem m E E'' :=
 ⟨Nat.le_trans h.1 h'.1, fun k hk => by
  obtain ⟨a, b, c, d⟩ := h.2 k hk
  obtain ⟨a', b', c', d'⟩ := h'.2 k (Nat.lt_of_lt_of_le hk h.1)
  exact ⟨a'.trans a, b'.trans b, c'.trans c, d'.trans d⟩⟩
theorem Env.lem.trans {m : Nat} {E E' E'' : Env} (h : Env.lem m E E') (h' : Env.lem m E' E'') : Env.lem m E E'' :=
 ⟨h'.1, fun k hk => by
  obtain ⟨a, b, c, d⟩ := h.2 k hk
  obtain ⟨a', b', c', d'⟩ := h'.2 k hk
  exact ⟨a'.trans a, b'.trans b, c'.trans c, d'.trans d⟩⟩
structure Base where
 N : NB
 sv : Nat -> Value
 m : Nat
 dfs : List Deferred
 E : Env
 A : Nat -> Nat -> Prop
 G : Gd
 w : World
 rf : Bool
def MarkOk (n : Nat) (G : Gd) (w : World) (d : Deferred) : Prop := ∃ b, d = { target := .collected b, args := #[] } /\ n <= b /\ G.i b /\ w.heap[b]? = some (.deferred (some []))
def DfsOk (B : Base) (G : Gd) (w : World) (ds : List Deferred) : Prop := ∃ ms, ds = ms ++ B.dfs /\ (B.rf = false -> ms = []) /\ ms.Pairwise (· ≠ ·) /\ ∀ d ∈ ms, MarkOk B.w.heap.size G w d
theorem DfsOk.mono {B : Base} {G G' : Gd} {w w' : World} {A A' : Nat -> Nat -> Prop} {ds : List Deferred} (h : DfsOk B G w ds) (hX : Ext A G w A' G' w') : DfsOk B G' w' ds := by
 obtain ⟨ms, h1, h2, h4, h3⟩ := h
 refine ⟨ms, h1, h2, h4, fun d hd => ?_⟩
 obtain ⟨b, g1, g2, g3, g4⟩ := h3 d hd
 exact ⟨b, g1, g2, hX.g b g3, (hX.block b g3).trans g4⟩
theorem DfsOk.eq {B : Base} {G : Gd} {w : World} {ds : List Deferred} (h : DfsOk B G w ds) (hm : B.rf = false) : ds = B.dfs := by
 obtain ⟨ms, h1, h2, _⟩ := h
 rw [h1, h2 hm]; rfl
theorem DfsOk.refl {B : Base} {G : Gd} {w : World} : DfsOk B G w B.dfs := ⟨[], rfl, fun _ => rfl, List.Pairwise.nil, fun _ h => by cases h⟩
structure RelM (GL : Glob) (B : Base) (h : List AObj) (w : World) (E : Env) (A : Nat -> Nat -> Prop) (G : Gd) : Prop where
 wf : Wf GL E A G h w
 le : Env.lem B.m B.E E
 ext : Ext B.A B.G B.w A G w
structure Rel (GL : Glob) (B : Base) (τ : List (Nat × AV)) (h : List AObj) (a : Act) (w : World) (E : Env) (A : Nat -> Nat -> Prop) (G : Gd) : Prop extends RelM GL B h w E A G where
 size : B.N.1 <= a.tmps.size
 stab : ∀ t ∈ B.N.2, a.tmps.getD t undef = B.sv t
 tmps : ∀ i, Rep E A G w (tget τ i) (a.tmps.getD i undef)
 dfs : DfsOk B G w a.defers
def convE : AExit -> Exit
 | .normal => .normal
 | .exit id => .exit id
 | .ret => .ret
structure POk (GL : Glob) (B : Base) (Pn : AV -> List AObj -> Prop) (Q : Exit -> Act -> World -> Prop) : Prop where
 pan : ∀ x h p a w E A G, RelM GL B h w E A G -> DfsOk B G w a.defers -> (∀ t ∈ B.N.2, a.tmps.getD t undef = B.sv t) -> Rep E A G w x p.v -> p.recovered = false -> p.goexit = false -> Pn x h -> Q (.panic [p]) a w
def QOk (GL : Glob) (B : Base) (Qa : Post) (Q : Exit -> Act -> World -> Prop) : Prop :=
 ∀ e τ h a w E A G, Rel GL B τ h a w E A G -> Qa e τ h -> Q (convE e) a w
section
variable {P : Program} {GL : Glob} {E : Env} {A : Nat -> Nat -> Prop} {G : Gd} {h : List AObj} {w : World} {τ : List (Nat × AV)} {a : Act} {B : Base}
theorem RelM.step {E' : Env} {A' : Nat -> Nat -> Prop} {G' : Gd} {h' : List AObj} {w' : World} (hR : RelM GL B h w E A G) (h1 : E.le E') (h2 : Ext A G w A' G' w') (h3 : Wf GL E' A' G' h' w') : RelM GL B h' w' E' A' G' :=
 ⟨h3, hR.le.le h1, hR.ext.trans h2⟩
theorem bU {d : Nat} {x : AV} : tget (aput τ (some d) x) d = x := by simp [aput, tget, Nat.beq_refl]
theorem bN {d : Option Nat} {i : Nat} {x : AV} (h : d ≠ some i) : tget (aput τ d x) i = tget τ i := by
 cases d with
 | none => rfl
 | some d =>
  simp only [aput, tget]
  split
  ·rename_i hb
   exact absurd (congrArg some (Nat.eq_of_beq_eq_true hb).symm) h
  ·rfl
theorem fR {d : Option Nat} {v : Value} {i : Nat} (hd : ∀ k, d = some k -> k < a.tmps.size) : (a.put d v).tmps.getD i undef = if d = some i then v else a.tmps.getD i undef := by
 cases d with
 | none => simp [Act.put]
 | some k =>
  have := hd k rfl
  by_cases hk : k = i
  ·subst hk; simp [Act.put, Array.getD_eq_getD_getElem?, this]
  ·simp [Act.put, Array.getD_eq_getD_getElem?, hk]
theorem Rel.put {E' : Env} {A' : Nat -> Nat -> Prop} {G' : Gd} {h' : List AObj} {w' : World} {d : Option Nat} {v : Value} {x : AV} (hR : Rel GL B τ h a w E A G) (h1 : E.le E') (h2 : Ext A G w A' G' w') (h3 : Wf GL E' A' G' h' w')
  (h4 : Rep E' A' G' w' x v) (hd : dstOk B.N d = true) : Rel GL B (aput τ d x) h' (a.put d v) w' E' A' G' := by
 have hlt : ∀ k, d = some k -> k < a.tmps.size := fun k hk => by
  subst hk
  simp only [dstOk, Bool.and_eq_true] at hd
  exact Nat.lt_of_lt_of_le (Nat.le_of_ble_eq_true hd.1) hR.size
 refine ⟨hR.toRelM.step h1 h2 h3, ?_, fun t ht => ?_, fun i => ?_, ?_⟩
 ·cases d <;> simp [Act.put, hR.size]
 ·rw [fR hlt, if_neg]
  ·exact hR.stab t ht
  ·rintro rfl
   simp only [dstOk, Bool.and_eq_true, Bool.not_eq_true'] at hd
   have : memN t B.N.2 = true := by
    simp only [memN, List.any_eq_true]
    exact ⟨t, ht, Nat.beq_refl t⟩
   rw [hd.2] at this
   cases this
 ·rw [fR hlt]
  split
  ·rename_i he
   subst he
   rw [bU]; exact h4
  ·rename_i he
   rw [bN he]
   exact Rep.mono h1 h2 _ _ (hR.tmps i)
 ·have : (a.put d v).defers = a.defers := by cases d <;> rfl
  rw [this]
  exact hR.dfs.mono h2
theorem Rel.opds (hR : Rel GL B τ h a w E A G) : Opds GL E A G w τ a.eval := opds_of hR.wf hR.tmps
theorem oS {ops : Array Oper} {o : Oper} {d : Nat} {b c : Bool} {x : AV} (hg : compGuard ops o.guard = some (some (d, b))) (hr : Rep E A G w x (a.tmps.getD d undef)) (hx : gdW x b = some c) : Region.wanted o (yielded ops a.tmps) = c := by
 unfold compGuard at hg
 split at hg
 ·cases hg
 ·rename_i j b' hgd
  split at hg
  ·rename_i o' ho'
   split at hg
   ·rename_i d' hd'
    cases hg
    unfold gdW at hx
    split at hx
    ·rename_i c'
     cases hx
     simp only [Rep] at hr
     have hlt : d < a.tmps.size := by
      rcases Nat.lt_or_ge d a.tmps.size with hlt | hge
      ·exact hlt
      ·simp [Array.getD_eq_getD_getElem?, Array.getElem?_eq_none hge, undef] at hr
     have hget : a.tmps[d]? = some (.bool c') := by
      rw [Array.getD_eq_getD_getElem?] at hr
      rw [Array.getElem?_eq_getElem hlt] at hr ⊢
      simpa using hr
     simp only [Region.wanted, hgd, yielded, ho', Option.bind_some, hd', hget]
     cases c' <;> cases b <;> rfl
    ·rename_i cs
     cases hx
     simp only [Rep] at hr
     simp only [Region.wanted, hgd, yielded, ho', Option.bind_some, hd']
     rw [Array.getD_eq_getD_getElem?] at hr
     cases hget : a.tmps[d]? with
     | none => rfl
     | some v =>
      rw [hget] at hr
      simp only [Option.getD_some] at hr
      subst hr
      rfl
    ·cases hx
   ·cases hg
  ·cases hg
theorem jI {ops : Array Oper} {o : Oper} (hg : compGuard ops o.guard = some none) (y : Nat -> Option Bool) : Region.wanted o y = true := by
 unfold compGuard at hg
 split at hg
 ·rename_i h; simp [Region.wanted, h]
 ·split at hg
  ·split at hg <;> cases hg
  ·cases hg
theorem uG {r : Option Nat} {n : Nat} {ops : Array Oper} {o : Oper} {g : Option (Nat × Bool)} {ao : AOp} {K : List (Nat × AV) -> List AObj -> Prop} {Pn : AV -> List AObj -> Prop} {next : Act -> World -> Prop} {Q : Exit -> Act -> World -> Prop}
  (hd : dstOk B.N o.dst = true) (hg : compGuard ops o.guard = some g) (hc : CompOk P o ao ∨ ao = .bad) (hR : Rel GL B τ h a w E A G)
  (hs : match g with
   | none => opA GL (AC P GL) ao τ h (fun x h' => K (aput τ o.dst x) h') Pn
   | some (j, b) => match gdW (tget τ j) b with
    | some t => condP t (opA GL (AC P GL) ao τ h (fun x h' => K (aput τ o.dst x) h') Pn) (K (aput τ o.dst (.v undef)) h)
    | none => False)
  (hP : POk GL B Pn Q) (hnext : ∀ τ' h' a' w' E' A' G', Rel GL B τ' h' a' w' E' A' G' -> K τ' h' -> next a' w') :
  if Region.wanted o (yielded ops a.tmps) = true then o.wpIn (FW r) n P a w next Q else (∀ f, o.about P w a.eval = some f -> (FW r).fn f) /\ next (a.put o.dst undef) w := by
 have run : opA GL (AC P GL) ao τ h (fun x h' => K (aput τ o.dst x) h') Pn -> o.wpIn (FW r) n P a w next Q := fun hs =>
  op_in hc hR.wf hR.opds hs (fun v w' E' A' G' x h' h1 h2 h3 h4 hk => hnext _ _ _ _ _ _ _ (hR.put h1 h2 h3 h4 hd) hk)
   (fun p w' E' A' G' x h' h1 h2 h3 h4 h5 h6 hp => hP.pan x h' p a w' E' A' G' (hR.toRelM.step h1 h2 h3) (hR.dfs.mono h2) hR.stab h4 h5 h6 hp)
 cases g with
 | none =>
  rw [if_pos (jI hg _)]
  exact run hs
 | some g =>
  obtain ⟨j, b⟩ := g
  simp only at hs
  split at hs
  ·rename_i c hc'
   rw [oS hg (hR.tmps j) hc']
   split
   ·rename_i he; exact run (hs.1 he)
   ·rename_i he
    refine ⟨fun _ _ => trivial, hnext _ _ _ _ _ _ _ (hR.put E.le_refl (Ext.refl _ _ _) hR.wf (x := .v undef) (by simp [Rep]) hd) (hs.2 (by simpa using he))⟩
  ·exact hs.elim
theorem eK (o : Oper) : CompOk P o (compOpB P o) ∨ compOpB P o = .bad := by
 unfold compOpB
 split
 ·rename_i a ha; exact .inl ⟨a, ha, .inl rfl⟩
 ·exact .inr rfl
theorem uC (o : Oper) : CompOk P o (frz (compOpB P o)) ∨ frz (compOpB P o) = .bad := by
 unfold compOpB
 split
 ·rename_i a ha; exact .inl ⟨a, ha, .inr rfl⟩
 ·exact .inr rfl
theorem ops_in {r : Option Nat} {n : Nat} {ops : Array Oper} {Qa : Post} {Pn : AV -> List AObj -> Prop} {Q : Exit -> Act -> World -> Prop} (hP : POk GL B Pn Q) (hQ : QOk GL B Qa Q) : ∀ (os : List Oper) (i : Nat) (es : List AEnt) (τ : List (Nat × AV)) (h : List AObj) (a : Act) (w : World) (E : Env) (A : Nat -> Nat -> Prop) (G : Gd),
  os = ops.toList.drop i -> compOps P B.N ops os = some es -> Rel GL B τ h a w E A G -> opsA GL (AC P GL) es τ h (Qa .normal) Pn -> wpOpsIn (FW r) n P ops Q (List.range' i os.length) a w
 | [], i, es, τ, h, a, w, E, A, G, ho, hc, hR, hs => by
  simp only [compOps, Option.some.injEq] at hc
  subst hc
  exact hQ .normal τ h a w E A G hR hs
 | o :: os, i, es, τ, h, a, w, E, A, G, ho, hc, hR, hs => by
  have hoi : ops[i]? = some o := by
   have := congrArg (·[0]?) ho
   simpa using this.symm
  have hos : os = ops.toList.drop (i + 1) := by
   have := congrArg (List.drop 1) ho
   simpa using this
  simp only [compOps] at hc
  split at hc
  ·rename_i g es' hd hg hcs
   cases hc
   simp only [List.length_cons, List.range'_succ, wpOpsIn, hoi]
   refine uG (K := fun τ h => opsA GL (AC P GL) es' τ h (Qa .normal) Pn) hd hg (eK o) hR ?_ hP fun τ' h' a' w' E' A' G' hR' hk => ops_in hP hQ os (i + 1) es' τ' h' a' w' E' A' G' hos hcs hR' hk
   cases g with
   | none => exact hs
   | some g => exact hs
  ·cases hc
end
theorem memN_iff {x : Nat} {l : List Nat} : memN x l = true ↔ x ∈ l := by
 simp only [memN, List.any_eq_true]
 constructor
 ·rintro ⟨y, hy, he⟩
  have := Nat.eq_of_beq_eq_true he
  subst this; exact hy
 ·intro h; exact ⟨x, h, Nat.beq_refl x⟩
theorem oR {d : Option Nat} {l : List Nat} : disj d l = true ↔ ∀ i, d = some i -> i ∉ l := by
 cases d with
 | none => simp [disj]
 | some i => simp [disj, <- memN_iff]
theorem iX : ∀ {l : List Nat}, nodupN l = true ↔ l.Nodup
 | [] => by simp [nodupN]
 | x :: r => by
  have := @iX r
  have h := @memN_iff x r
  simp only [nodupN, Bool.and_eq_true, Bool.not_eq_true', List.nodup_cons, this]
  rw [<- h]
  simp
theorem mem_upTo : ∀ {n i : Nat}, i ∈ upTo n ↔ i < n
 | 0, i => by simp [upTo]
 | n + 1, i => by simp only [upTo, List.mem_append, mem_upTo, List.mem_singleton]; omega
theorem nS {a b : Nat -> List Nat} : ∀ {l : List Nat}, ancsOk a b l = true -> ∀ i ∈ l, (∀ j ∈ a i, j < i) /\ ∀ j ∈ b i, j ∈ a i ∨ ∃ k ∈ a i, j ∈ b k
 | [], _, i, hi => by cases hi
 | x :: r, h, i, hi => by
  simp only [ancsOk, Bool.and_eq_true, List.all_eq_true, Bool.or_eq_true, List.any_eq_true, memN_iff] at h
  obtain ⟨⟨h1, h2⟩, h3⟩ := h
  rcases List.mem_cons.1 hi with rfl | hi
  ·exact ⟨fun j hj => Nat.le_of_ble_eq_true (h1 j hj), h2⟩
  ·exact nS h3 i hi
theorem tN {g : Nat -> Option Nat} {b : Nat -> List Nat} : ∀ {l : List Nat}, gdOk g b l = true -> ∀ i ∈ l, ∀ j, g i = some j -> j ∈ b i
 | [], _, i, hi => by cases hi
 | x :: r, h, i, hi => by
  simp only [gdOk, Bool.and_eq_true] at h
  obtain ⟨h1, h2⟩ := h
  rcases List.mem_cons.1 hi with rfl | hi
  ·intro j hj
   rw [hj] at h1
   exact memN_iff.1 h1
  ·exact tN h2 i hi
theorem cV {e : Nat -> AEnt} {fl : Nat -> Bool} {b : Nat -> List Nat} : ∀ {l : List Nat}, pairsOk e fl b l = true -> ∀ l1 x l2 y l3, l = l1 ++ x :: (l2 ++ y :: l3) -> pairOk e fl b x y = true
 | [], _, l1, x, l2, y, l3, h => by simp at h
 | z :: r, hp, l1, x, l2, y, l3, h => by
  simp only [pairsOk, Bool.and_eq_true, List.all_eq_true] at hp
  cases l1 with
  | nil =>
   simp only [List.nil_append, List.cons.injEq] at h
   obtain ⟨rfl, rfl⟩ := h
   exact hp.1 y (by simp)
  | cons z' l1 =>
   simp only [List.cons_append, List.cons.injEq] at h
   exact cV hp.2 l1 x l2 y l3 h.2
theorem gX {e : Nat -> AEnt} {fl : Nat -> Bool} {b : Nat -> List Nat} {pre rest : List Nat} (h : pairsOk e fl b (pre.reverse ++ rest) = true) {x y : Nat} (hx : x ∈ pre) (hy : y ∈ rest) : pairOk e fl b x y = true := by
 obtain ⟨l1, l2, h1⟩ := List.append_of_mem (List.mem_reverse.2 hx)
 obtain ⟨m1, m2, h2⟩ := List.append_of_mem hy
 exact cV h l1 x (l2 ++ m1) y m2 (by rw [h1, h2]; simp)
structure DOk (n : Nat) (e : Nat -> AEnt) (fl : Nat -> Bool) (a b : Nat -> List Nat) (g : Nat -> Option Nat) (ord : List Nat) : Prop where
 anc : ∀ i, i < n -> (∀ j ∈ a i, j < i) /\ ∀ j ∈ b i, j ∈ a i ∨ ∃ k ∈ a i, j ∈ b k
 gd : ∀ i, i < n -> ∀ j, g i = some j -> j ∈ b i
 all : ∀ i, i < n -> i ∈ ord
 nodup : ord.Nodup
 lt : ∀ i ∈ ord, i < n
 pairs : pairsOk e fl b ord = true
 quiet : ∀ i, i < n -> fl i = true -> quietA (e i).2.2 = true /\ ∀ d, (e i).1 = some d -> d ∉ gdT (e i).2.1 ++ (e i).2.2.tmps
 al : ∀ i, i < n -> alE (e i) = true -> ∀ j, j < n -> i ≠ j -> ∀ d, (e i).1 = some d -> (e j).1 ≠ some d
theorem sW {n : Nat} {e : Nat -> AEnt} {fl : Nat -> Bool} {a b : Nat -> List Nat} {g : Nat -> Option Nat} {ord : List Nat} (h : drawOk n e fl a b g ord = true) : DOk n e fl a b g ord := by
 simp only [drawOk, Bool.and_eq_true, List.all_eq_true, Bool.or_eq_true, Bool.not_eq_true', memN_iff, iX, oR] at h
 obtain ⟨h1, h2, h3, h4, h5, h6, h7⟩ := h
 refine ⟨fun i hi => nS h1 i (mem_upTo.2 hi), fun i hi => tN h2 i (mem_upTo.2 hi), fun i hi => h3 i (mem_upTo.2 hi), h4, fun i hi => Nat.le_of_ble_eq_true (h5 i hi), h6, fun i hi hf => ?_, fun i hi ha j hj hij d hd he => ?_⟩
 ·rcases (h7 i (mem_upTo.2 hi)).1 with hn | hq
  ·rw [hf] at hn; cases hn
  ·exact hq
 ·rcases (h7 i (mem_upTo.2 hi)).2 with hn | hq
  ·rw [ha] at hn; cases hn
  ·rcases hq j (mem_upTo.2 hj) with h | h
   ·exact hij (Nat.eq_of_beq_eq_true h)
   ·exact h d hd (by simp [he])
theorem DOk.down {n : Nat} {e : Nat -> AEnt} {fl : Nat -> Bool} {a b : Nat -> List Nat} {g : Nat -> Option Nat} {ord : List Nat} (h : DOk n e fl a b g ord) {L : Nat -> Prop} (hL : ∀ i, i < n -> L i -> ∀ j ∈ a i, L j) :
  ∀ i, i < n -> (∀ j ∈ a i, L j) -> ∀ j ∈ b i, L j := by
 intro i
 induction i using Nat.strongRecOn with
 | _ i ih =>
  intro hi hall j hj
  obtain ⟨h1, h2⟩ := h.anc i hi
  rcases h2 j hj with hj | ⟨k, hk, hjk⟩
  ·exact hall j hj
  ·exact ih k (h1 k hk) (Nat.lt_trans (h1 k hk) hi) (hL k (Nat.lt_trans (h1 k hk) hi) (hall k hk)) j hjk
theorem oG {e : Nat -> AEnt} {fl : Nat -> Bool} {b : Nat -> List Nat} {x y : Nat} (h : pairOk e fl b x y = true) (hx : fl x = false) :
  x ∈ b y ∨ (fl y = false /\ alE (e y) = true /\ (∀ d, (e y).1 = some d -> d ∉ AEnt.names (e x)) /\ ∀ d, (e x).1 = some d -> d ∉ AEnt.names (e y)) := by
 simp only [pairOk, hx, Bool.or_eq_true, Bool.and_eq_true, Bool.not_eq_true', memN_iff, oR] at h
 exact h
theorem eQ {e : Nat -> AEnt} {fl : Nat -> Bool} {b : Nat -> List Nat} {x y : Nat} (h : pairOk e fl b x y = true) (hx : fl x = true) :
  ((x ∈ b y /\ fl y = false) ∨ ∀ d, (e y).1 = some d -> d ∉ AEnt.names (e x)) /\ (x ∈ b y ∨ ∀ d, (e x).1 = some d -> d ∉ AEnt.names (e y)) := by
 simp only [pairOk, hx, Bool.and_eq_true, Bool.or_eq_true, Bool.not_eq_true', memN_iff, oR] at h
 exact h
theorem gT {P : Program} {N : NB} {ops : Array Oper} : ∀ {os : List Oper} {E : List AEnt}, compOps P N ops os = some E -> E.length = os.length /\
  ∀ (i : Nat) (o : Oper), os[i]? = some o -> dstOk N o.dst = true /\ ∃ (g : Option (Nat × Bool)), compGuard ops o.guard = some g /\ E[i]? = some (o.dst, g, compOpB P o)
 | [], E, h => by
  simp only [compOps, Option.some.injEq] at h
  subst h
  exact ⟨rfl, fun i o ho => by simp at ho⟩
 | o :: os, E, h => by
  simp only [compOps] at h
  split at h
  ·rename_i g l hd hg hl
   cases h
   obtain ⟨h1, h2⟩ := gT hl
   refine ⟨by simp [h1], fun i o' ho' => ?_⟩
   cases i with
   | zero =>
    simp at ho'
    subst ho'
    exact ⟨hd, g, hg, rfl⟩
   | succ i => simpa using h2 i o' (by simpa using ho')
  ·cases h
theorem qE {a : Nat -> List Nat} : ∀ {l pre : List Nat}, topOk a pre l = true -> ∀ l1 i l2, l = l1 ++ i :: l2 -> ∀ j ∈ a i, j ∈ pre ∨ j ∈ l1
 | [], pre, _, l1, i, l2, h => by simp at h
 | x :: r, pre, ht, l1, i, l2, h => by
  simp only [topOk, Bool.and_eq_true, List.all_eq_true, memN_iff] at ht
  cases l1 with
  | nil =>
   simp only [List.nil_append, List.cons.injEq] at h
   obtain ⟨rfl, rfl⟩ := h
   intro j hj
   exact .inl (ht.1 j hj)
  | cons y l1 =>
   simp only [List.cons_append, List.cons.injEq] at h
   obtain ⟨rfl, h⟩ := h
   intro j hj
   rcases qE ht.2 l1 i l2 h j hj with h1 | h1
   ·rcases List.mem_cons.1 h1 with rfl | h1
    ·exact .inr (by simp)
    ·exact .inl h1
   ·exact .inr (List.mem_cons_of_mem _ h1)
theorem lY {md : Region.Mode} {ops : Array Oper} {i : Nat} {o : Oper} (ho : ops[i]? = some o) (j : Nat) : j ∈ ((ops.toList.map (afterIn md)).getD i []) ↔ ∃ e ∈ o.after, Region.binds md e = true /\ e.on = j := by
 have : (ops.toList.map (afterIn md)).getD i [] = afterIn md o := by
  simp [List.getD, ho]
 rw [this, afterIn, List.mem_map]
 constructor
 ·rintro ⟨e, he, rfl⟩
  obtain ⟨h1, h2⟩ := List.mem_filter.1 he
  exact ⟨e, Array.mem_toList_iff.1 h1, h2, rfl⟩
 ·rintro ⟨e, h1, h2, rfl⟩
  exact ⟨e, List.mem_filter.2 ⟨Array.mem_toList_iff.2 h1, h2⟩, rfl⟩
theorem pY {md : Region.Mode} {ops : Array Oper} (h : modeOk ops.toList ops.size md = true) {listed : Array Bool} (hs : listed.size = ops.size) (hr : Region.ready md ops listed = []) : ∀ i, i < ops.size -> listed.getD i false = true := by
 simp only [modeOk, Bool.and_eq_true, List.all_eq_true, memN_iff] at h
 obtain ⟨h1, h2, h4⟩ := h
 generalize topGo (fun x => (ops.toList.map (afterIn md)).getD x []) (upTo ops.size) ops.size [] = og at h1 h2 h4
 have key : ∀ m l1 i l2, l1.length = m -> og = l1 ++ i :: l2 -> listed.getD i false = true := by
  intro m
  induction m using Nat.strongRecOn with
  | _ m ih =>
   intro l1 i l2 hm hog
   have hlt : i < ops.size := Nat.le_of_ble_eq_true (h4 i (by rw [hog]; simp))
   cases hb : listed.getD i false with
   | true => rfl
   | false =>
    exfalso
    have : i ∈ Region.ready md ops listed := by
     rw [mem_ready]
     refine ⟨?_, ops[i], Array.getElem?_eq_getElem hlt, fun e he hbd => ?_⟩
     ·rw [Array.getD_eq_getD_getElem?] at hb ⊢
      rw [Array.getElem?_eq_getElem (by omega)] at hb ⊢
      simpa using hb
     ·have hj := (lY (Array.getElem?_eq_getElem hlt) e.on).2 ⟨e, he, hbd, rfl⟩
      rcases qE h1 l1 i l2 hog e.on hj with h3 | h3
      ·cases h3
      ·obtain ⟨m1, m2, hl⟩ := List.append_of_mem h3
       exact ih m1.length (by rw [<- hm, hl]; simp) m1 e.on (m2 ++ i :: l2) rfl (by rw [hog, hl]; simp)
    rw [hr] at this
    cases this
 intro i hi
 obtain ⟨l1, l2, hl⟩ := List.append_of_mem (h2 i (mem_upTo.2 hi))
 exact key _ l1 i l2 rfl hl
def PendOk (GL : Glob) (x : AEnt) (τ : List (Nat × AV)) (h : List AObj) : Prop :=
 ∃ v, (∀ i, x.1 = some i -> tget τ i = v) /\ match x.2.1 with
  | none => Yl GL x.2.2 τ h v
  | some (j, c) => ∃ t, gdW (tget τ j) c = some t /\ (t = true -> Yl GL x.2.2 τ h v) /\ (t = false -> v = .v undef)
section
variable {GL : Glob}
theorem gG {op : AOp} {τ τ' : List (Nat × AV)} (ht : ∀ t ∈ op.tmps, tget τ t = tget τ' t) : ∀ x ∈ op.opds, aeval GL τ x = aeval GL τ' x := by
 intro x hx
 cases x with
 | t n => exact ht n (List.mem_flatMap.2 ⟨_, hx, by simp [AOpd.tmps]⟩)
 | c x => rfl
 | g n => rfl
theorem mem_names {x : AEnt} {t : Nat} : t ∈ AEnt.names x ↔ x.1 = some t ∨ t ∈ gdT x.2.1 ∨ t ∈ x.2.2.tmps := by
 simp [AEnt.names]
theorem PendOk.same {x : AEnt} {τ τ' : List (Nat × AV)} {h : List AObj} (ht : ∀ t ∈ AEnt.names x, tget τ t = tget τ' t) (hp : PendOk GL x τ h) : PendOk GL x τ' h := by
 obtain ⟨v, h1, h2⟩ := hp
 have hy : ∀ {v}, Yl GL x.2.2 τ h v -> Yl GL x.2.2 τ' h v := fun hy => hy.congr (gG fun t h => ht t (mem_names.2 (.inr (.inr h))))
 refine ⟨v, fun i hi => by rw [<- ht i (mem_names.2 (.inl hi))]; exact h1 i hi, ?_⟩
 split at h2
 ·exact hy h2
 ·rename_i j c hg
  obtain ⟨t, h3, h4, h5⟩ := h2
  exact ⟨t, by rw [<- ht j (mem_names.2 (.inr (.inl (by rw [hg]; simp [gdT]))))]; exact h3, fun h => hy (h4 h), h5⟩
theorem PendOk.put {x : AEnt} {τ : List (Nat × AV)} {h : List AObj} {d : Option Nat} {u : AV} (hd : ∀ i, d = some i -> i ∉ AEnt.names x) (hp : PendOk GL x τ h) : PendOk GL x (aput τ d u) h :=
 hp.same fun t ht => (bN fun e => hd t e ht).symm
def maskT (l : List (Option Nat)) (τ : List (Nat × AV)) : List (Nat × AV) := l.foldr (fun d τ => aput τ d .any) τ
theorem eP {τ : List (Nat × AV)} {t : Nat} : ∀ {l : List (Option Nat)}, some t ∉ l -> tget (maskT l τ) t = tget τ t
 | [], _ => rfl
 | d :: l, h => by
  simp only [List.mem_cons, not_or] at h
  show tget (aput (maskT l τ) d .any) t = _
  rw [bN (Ne.symm h.1), eP h.2]
theorem iR {τ : List (Nat × AV)} {t : Nat} : ∀ {l : List (Option Nat)}, some t ∈ l -> tget (maskT l τ) t = .any
 | d :: l, h => by
  show tget (aput (maskT l τ) d .any) t = _
  by_cases hd : d = some t
  ·subst hd; exact bU
  ·rw [bN hd]
   rcases List.mem_cons.1 h with h | h
   ·exact absurd h.symm hd
   ·exact iR h
theorem fE {C : Calling} {K : List (Nat × AV) -> List AObj -> Prop} {Pn : AV -> List AObj -> Prop} (hC : C.Mono) : ∀ (l l' : List AEnt) (τ : List (Nat × AV)) (h : List AObj), opsA GL C (l ++ l') τ h K Pn -> opsA GL C l τ h (fun τ h => opsA GL C l' τ h K Pn) Pn
 | [], l', τ, h, hs => hs
 | (d, none, op) :: l, l', τ, h, hs => iC hC (fun x h' hx => fE hC l l' _ _ hx) (fun _ _ h => h) hs
 | (d, some (j, b), op) :: l, l', τ, h, hs => by
  simp only [List.cons_append, opsA] at hs ⊢
  split at hs
  ·exact jN (iC hC (fun x h' hx => fE hC l l' _ _ hx) (fun _ _ h => h)) (fE hC l l' _ _) hs
  ·exact hs.elim
theorem sP {op : AOp} {τ : List (Nat × AV)} {h : List AObj} {d : Option Nat} (hq : quietA op = true) (hs : stepA GL op τ h (fun x h' => h' = h /\ eqD τ d x)) : ∃ v, (∀ i, d = some i -> tget τ i = v) /\ Yl GL op τ h v := by
 obtain ⟨x, hx, hy⟩ := eW hq hs
 refine ⟨x, fun i hi => ?_, hy⟩
 subst hi
 exact hx.2
theorem fJ {C : Calling} {e : Nat -> AEnt} {fl : Nat -> Bool} {b : Nat -> List Nat} {y : Nat} {K : List (Nat × AV) -> List AObj -> Prop} {Pn : AV -> List AObj -> Prop} {τ : List (Nat × AV)} {h : List AObj}
  {n : Nat} (hq : ∀ x, x < n -> fl x = true -> quietA (e x).2.2 = true) : ∀ (pre : List Nat), (∀ x ∈ pre, x < n) -> opsA GL C (chks e fl b y pre) τ h K Pn ->
  K τ h /\ ∀ x ∈ pre, fl x = true -> readsA (e x).2.2 = true -> x ∉ b y -> ∀ h0, PendOk GL (e x) τ h0 -> PendOk GL (e x) τ h
 | [], _, hs => ⟨hs, fun x hx => by cases hx⟩
 | z :: pre, hn0, hs => by
  have hz : z < n := hn0 z (by simp)
  have hz' : ∀ x ∈ pre, x < n := fun x hx => hn0 x (by simp [hx])
  simp only [chks] at hs
  split at hs
  ·rename_i hb
   simp only [Bool.and_eq_true, Bool.not_eq_true'] at hb
   obtain ⟨⟨b1, b2⟩, b3⟩ := hb
   cases hg : (e z).2.1 with
   | none =>
    rw [hg] at hs
    obtain ⟨h1, h2⟩ := hs
    obtain ⟨h3, h4⟩ := fJ hq pre hz' h2
    refine ⟨h3, fun x hx hf hr hn h0 hp => ?_⟩
    rcases List.mem_cons.1 hx with rfl | hx
    ·obtain ⟨v, g1, g2⟩ := sP (hq x hz b1) h1
     exact ⟨v, g1, by rw [hg]; exact g2⟩
    ·exact h4 x hx hf hr hn h0 hp
   | some p =>
    obtain ⟨j, c⟩ := p
    rw [hg] at hs
    simp only [opsA] at hs
    split at hs
    ·rename_i t ht
     cases htc : t with
     | true =>
      obtain ⟨h1, h2⟩ := hs.1 htc
      obtain ⟨h3, h4⟩ := fJ hq pre hz' h2
      refine ⟨h3, fun x hx hf hr hn h0 hp => ?_⟩
      rcases List.mem_cons.1 hx with rfl | hx
      ·obtain ⟨v, g1, g2⟩ := sP (hq x hz b1) h1
       refine ⟨v, g1, ?_⟩
       rw [hg]
       refine ⟨t, ht, fun _ => g2, fun h => ?_⟩
       rw [htc] at h; cases h
      ·exact h4 x hx hf hr hn h0 hp
     | false =>
      have h2 := hs.2 htc
      obtain ⟨h3, h4⟩ := fJ hq pre hz' h2
      refine ⟨h3, fun x hx hf hr hn h0 hp => ?_⟩
      rcases List.mem_cons.1 hx with rfl | hx
      ·obtain ⟨v, g1, g2⟩ := hp
       rw [hg] at g2
       obtain ⟨t', ht', g3, g4⟩ := g2
       have : t' = t := by rw [ht] at ht'; cases ht'; rfl
       subst this
       refine ⟨v, g1, ?_⟩
       rw [hg]
       refine ⟨t', ht, fun h => ?_, g4⟩
       rw [htc] at h; cases h
      ·exact h4 x hx hf hr hn h0 hp
    ·exact hs.elim
  ·rename_i hb
   obtain ⟨h3, h4⟩ := fJ hq pre hz' hs
   refine ⟨h3, fun x hx hf hr hn h0 hp => ?_⟩
   rcases List.mem_cons.1 hx with rfl | hx
   ·exfalso
    have : memN x (b y) = false := by
     cases hm : memN x (b y) with
     | false => rfl
     | true => exact absurd (memN_iff.1 hm) hn
    rw [hf, hr, this] at hb
    simp at hb
   ·exact h4 x hx hf hr hn h0 hp
theorem PendOk.heap {x : AEnt} {τ : List (Nat × AV)} {h h' : List AObj} (hq : quietA x.2.2 = true) (hr : readsA x.2.2 = false) (hp : PendOk GL x τ h) : PendOk GL x τ h' := by
 obtain ⟨v, h1, h2⟩ := hp
 refine ⟨v, h1, ?_⟩
 split at h2
 ·exact h2.heap hq hr
 ·obtain ⟨t, h3, h4, h5⟩ := h2
  exact ⟨t, h3, fun h => (h4 h).heap hq hr, h5⟩
end
end Go.Rip
