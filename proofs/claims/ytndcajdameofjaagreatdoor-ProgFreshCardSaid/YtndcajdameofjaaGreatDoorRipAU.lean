/- A call that changes some objects, and names them. -/
import Derived.Test.YtndcajdameofjaaGreatDoorRipAI

namespace Go.Rip
open Go
/-- A call that changes some objects does so wherever they lie. The answer may name them. -/
theorem lift3 {P : Program} {GL : Glob} {f : FuncId} {args : List AV} {v : AV} {h1 h2 : List AObj} (_hv : bd h1.length v) (hb : bds h1.length args) (hbo : ∀ (i : Nat) (x : AObj), h1[i]? = some x → bdO h1.length x) (hbo2 : ∀ (i : Nat) (x : AObj), h2[i]? = some x → bdO h1.length x) (hlen : h2.length = h1.length)
    (hc : AC P GL (.fn f) args h1 fun r h' => h' = h2 ∧ r = .val v)
    (κ : Nat → Nat) {H H2 : List AObj} (hκ : ∀ (i : Nat) (x : AObj), h1[i]? = some x → H[κ i]? = some (renO κ x)) (hκ2 : ∀ (i : Nat) (x : AObj), h2[i]? = some x → H2[κ i]? = some (renO κ x)) (hH : H2.length = H.length) (hot : ∀ k, (∀ i, i < h1.length → κ i ≠ k) → H2[k]? = H[k]?)
    (hinj : ∀ i j, i < h1.length → j < h1.length → κ i = κ j → i = j) : AC P GL (.fn f) (rens κ args) H fun r h' => h' = H2 ∧ r = .val (ren κ v) := by
  intro E A G w vs hW ha
  have hlt : ∀ i, i < h1.length → κ i < E.n := fun i hi => by
    rw [hW.n]
    exact (List.getElem?_eq_some_iff.1 (hκ i _ (List.getElem?_eq_getElem hi))).1
  let E0 : Env := ⟨h1.length, fun i => E.blk (κ i), fun i => E.cap (κ i), fun i => E.tok (κ i), fun i => E.wid (κ i)⟩
  let G0 : Gd := ⟨G.i, fun b => G.h b ∨ ∃ k x, H[k]? = some x ∧ obk E k x = some b ∧ ∀ i, i < h1.length → κ i ≠ k⟩
  have hE : ∀ k, k < E0.n → κ k < E.n → E0.blk k = E.blk (κ k) ∧ E0.cap k = E.cap (κ k) ∧ E0.tok k = E.tok (κ k) ∧ E0.wid k = E.wid (κ k) := fun k _ _ => ⟨rfl, rfl, rfl, rfl⟩
  have hil : ∀ {i : Nat} {x : AObj}, h1[i]? = some x → i < h1.length := fun hx => (List.getElem?_eq_some_iff.1 hx).1
  have hob : ∀ {i : Nat} {x : AObj}, h1[i]? = some x → obk E0 i x = obk E (κ i) (renO κ x) := fun hx => obk_ren (E' := E0) (hil hx) (hlt _ (hil hx)) hE _
  have hW0 : Wf GL E0 A G0 h1 w := by
    refine ⟨fun n l hl E' => RepC.hands1 (G := G) (G' := G0) (fun _ h => h) _ _ _ (hW.gl n l hl E'), rfl, hW.a, hW.g, fun i x hx => ?_, fun i j x y b hx hy hbx hby => ?_, fun b hb => ?_, fun i x b hx hbx hbh => ?_⟩
    · exact ORel.hands1 (G := G) (G' := G0) (fun _ => Iff.rfl) (ORel.ren (E' := E0) (hil hx) (hlt _ (hil hx)) hE (hbo i x hx) (hW.o _ _ (hκ i x hx)))
    · rw [hob hx] at hbx
      rw [hob hy] at hby
      exact hinj _ _ (hil hx) (hil hy) (hW.d _ _ _ _ b (hκ i x hx) (hκ j y hy) hbx hby)
    · rcases hb with hb | ⟨k, x, hx, hb, _⟩
      · exact hW.hf b hb
      · exact obk_lt (hW.o k x hx) hb
    · rw [hob hx] at hbx
      rcases hbh with hbh | ⟨k, y, hy, hby, hne⟩
      · exact hW.ho _ _ b (hκ i x hx) hbx hbh
      · exact hne i (hil hx) (hW.d _ _ _ _ b (hκ i x hx) hy hbx hby)
  have ha0 : Reps E0 A G0 w args vs := Reps.hands1 (G := G) (G' := G0) (fun _ h => h) _ _ (Reps.ren (E := E) (E' := E0) hE args vs hb ha)
  refine (hc E0 A G0 w vs hW0 ha0).mono fun e w' => ?_
  rintro ⟨E1, A1, G1, r, h0, g1, g2, g3, g4, rfl, rfl⟩
  let G2 : Gd := ⟨G1.i, G.h⟩
  have hn1 : E1.n = h0.length := g1.n
  have hfw : Fwd E1 E κ := fun k hk => by
    have hk' : k < h1.length := by rw [hn1, hlen] at hk; exact hk
    obtain ⟨a1, a2, a3, a4⟩ := g3.2 k hk'
    exact ⟨hlt k hk', a1.symm, a2.symm, a3.symm, a4.symm⟩
  have hX : Ext A G w A1 G2 w' := ⟨g2.a, g2.g, g2.cell, g2.block, g2.size, g2.os, g2.output, g2.tape, fun _ => Iff.rfl, fun b hb => g2.off b (.inl hb)⟩
  have hh1 : ∀ b, G1.h b ↔ G0.h b := g2.hh
  -- an object of H is one of those that were spoken of, or not
  have hcase : ∀ (k : Nat) (x : AObj), H2[k]? = some x → (∃ i y, h0[i]? = some y ∧ k = κ i ∧ x = renO κ y) ∨ ((∀ i, i < h1.length → κ i ≠ k) ∧ H[k]? = some x) := by
    intro k x hx
    by_cases hk : ∃ i, i < h0.length ∧ κ i = k
    · obtain ⟨i, hi, rfl⟩ := hk
      have := hκ2 i _ (List.getElem?_eq_getElem hi)
      rw [hx] at this
      cases this
      exact .inl ⟨i, _, List.getElem?_eq_getElem hi, rfl, rfl⟩
    · have hne : ∀ i, i < h1.length → κ i ≠ k := fun i hi e => hk ⟨i, by rw [hlen]; exact hi, e⟩
      exact .inr ⟨hne, by rw [← hot k hne]; exact hx⟩
  have hil0 : ∀ {l : List AObj} {i : Nat} {x : AObj}, l[i]? = some x → i < l.length := fun hx => (List.getElem?_eq_some_iff.1 hx).1
  have hWf : Wf GL E A1 G2 H2 w' := by
    refine ⟨fun n l hl E' => RepC.hands1 (G := G1) (G' := G2) (fun _ h => h) _ _ _ (g1.gl n l hl E'), by rw [hH]; exact hW.n, g1.a, g1.g, fun k x hx => ?_, fun j k x y b hx hy hbx hby => ?_, fun b hb => g1.hf b ((hh1 b).2 (.inl hb)), fun k x b hx hbx hbh => ?_⟩
    · rcases hcase k x hx with ⟨i, y, hy, rfl, rfl⟩ | ⟨hne, hx0⟩
      · exact ORel.fwd (G := G1) (G' := G2) hfw (fun _ => Iff.rfl) (by rw [hn1]; exact hil0 hy) (g1.o i y hy)
      · exact (hW.o k x hx0).mono E.le_refl (by rw [hW.n]; exact (List.getElem?_eq_some_iff.1 hx0).1) hX fun b hb => g2.off b (.inr ⟨k, x, hx0, hb, hne⟩)
    · rcases hcase j x hx with ⟨i, x', hx', rfl, rfl⟩ | ⟨hne, hx0⟩ <;> rcases hcase k y hy with ⟨i', y', hy', rfl, rfl⟩ | ⟨hne', hy0⟩
      · rw [obk_fwd hfw (by rw [hn1]; exact hil0 hx')] at hbx
        rw [obk_fwd hfw (by rw [hn1]; exact hil0 hy')] at hby
        rw [g1.d _ _ _ _ b hx' hy' hbx hby]
      · rw [obk_fwd hfw (by rw [hn1]; exact hil0 hx')] at hbx
        exact absurd ((hh1 b).2 (.inr ⟨k, y, hy0, hby, hne'⟩)) (g1.ho _ _ _ hx' hbx)
      · rw [obk_fwd hfw (by rw [hn1]; exact hil0 hy')] at hby
        exact absurd ((hh1 b).2 (.inr ⟨j, x, hx0, hbx, hne⟩)) (g1.ho _ _ _ hy' hby)
      · exact hW.d _ _ _ _ b hx0 hy0 hbx hby
    · rcases hcase k x hx with ⟨i, y, hy, rfl, rfl⟩ | ⟨hne, hx0⟩
      · rw [obk_fwd hfw (by rw [hn1]; exact hil0 hy)] at hbx
        exact g1.ho _ _ _ hy hbx ((hh1 b).2 (.inl hbh))
      · exact hW.ho _ _ _ hx0 hbx hbh
  refine ⟨E, A1, G2, .val (ren κ v), H2, hWf, hX, E.le_refl, ?_, rfl, rfl⟩
  cases e with
  | panicked => exact g4.elim
  | outgrown => exact g4.elim
  | returned u =>
    have := Rep.fwd (G := G1) (G' := G2) hfw (fun _ h => h) _ _ g4
    exact this

/-- .. with other objects behind them. -/
theorem lift3_pre {P : Program} {GL : Glob} {f : FuncId} {args : List AV} {v : AV} {h1 h2 : List AObj} (hv : bd h1.length v) (hb : bds h1.length args) (hbo : ∀ (i : Nat) (x : AObj), h1[i]? = some x → bdO h1.length x) (hbo2 : ∀ (i : Nat) (x : AObj), h2[i]? = some x → bdO h1.length x) (hlen : h2.length = h1.length)
    (hc : AC P GL (.fn f) args h1 fun r h' => h' = h2 ∧ r = .val v) (ex : List AObj) : AC P GL (.fn f) args (h1 ++ ex) fun r h' => h' = h2 ++ ex ∧ r = .val v := by
  have := lift3 hv hb hbo hbo2 hlen hc (fun k => k) (H := h1 ++ ex) (H2 := h2 ++ ex) (fun i x hx => by rw [renO_id, List.getElem?_append_left (List.getElem?_eq_some_iff.1 hx).1]; exact hx)
    (fun i x hx => by rw [renO_id, List.getElem?_append_left (List.getElem?_eq_some_iff.1 hx).1]; exact hx) (by simp [hlen])
    (fun k hk => by
      have hk' : h1.length ≤ k := Nat.le_of_not_lt fun h => hk k h rfl
      rw [List.getElem?_append_right hk', List.getElem?_append_right (by omega), hlen]) (fun _ _ _ _ e => e)
  rwa [rens_id, ren_id] at this
end Go.Rip

/- Heaps of which only some objects are known: calls that keep the others; loops with a predicate of the heap. -/
namespace Go.Rip
open Go

/-- All objects but some are as they were. -/
def Keep (K : Nat → AObj → Prop) (h h' : List AObj) : Prop := h.length ≤ h'.length ∧ ∀ (i : Nat) (o : AObj), h[i]? = some o → ¬ K i o → h'[i]? = some o
abbrev All : Nat → AObj → Prop := fun _ _ => False
theorem Keep.refl (K : Nat → AObj → Prop) (h : List AObj) : Keep K h h := ⟨Nat.le_refl _, fun _ _ e _ => e⟩
theorem Keep.trans {K : Nat → AObj → Prop} {h h' h'' : List AObj} (a : Keep K h h') (b : Keep K h' h'') : Keep K h h'' := ⟨Nat.le_trans a.1 b.1, fun i o e n => b.2 i o (a.2 i o e n) n⟩
/-- .. where what the second part changes is what the first may, or came later. -/
theorem Keep.trans' {K K' : Nat → AObj → Prop} {h h' h'' : List AObj} (a : Keep K h h') (b : Keep K' h' h'') (hk : ∀ i o, h[i]? = some o → K' i o → K i o) : Keep K h h'' :=
  ⟨Nat.le_trans a.1 b.1, fun i o e n => b.2 i o (a.2 i o e n) fun q => n (hk i o e q)⟩
theorem Keep.mono {K K' : Nat → AObj → Prop} {h h' : List AObj} (a : Keep K h h') (hk : ∀ i o, h[i]? = some o → K i o → K' i o) : Keep K' h h' := ⟨a.1, fun i o e n => a.2 i o e fun x => n (hk i o e x)⟩
theorem Keep.get {K : Nat → AObj → Prop} {h h' : List AObj} (a : Keep K h h') {i : Nat} {o : AObj} (hi : h[i]? = some o) (hn : ¬ K i o) : h'[i]? = some o := a.2 i o hi hn
theorem Keep.got {h h' : List AObj} (a : Keep All h h') {i : Nat} {o : AObj} (hi : h[i]? = some o) : h'[i]? = some o := a.2 i o hi id
theorem Keep.of_all {K : Nat → AObj → Prop} {h h' : List AObj} (a : Keep All h h') : Keep K h h' := ⟨a.1, fun i o e _ => a.2 i o e id⟩
theorem Keep.nil {K : Nat → AObj → Prop} {h : List AObj} : Keep K [] h := ⟨Nat.zero_le _, fun i o hi => by simp at hi⟩

/-! ### heaps with a known end -/
theorem lt_of_get {h : List AObj} {k : Nat} {o : AObj} (hk : h[k]? = some o) : k < h.length := (List.getElem?_eq_some_iff.1 hk).1
theorem get_at (h l : List AObj) : (h ++ l)[h.length]? = l[0]? := by rw [List.getElem?_append_right (Nat.le_refl _), Nat.sub_self]
theorem get_at_add (h l : List AObj) (i : Nat) : (h ++ l)[h.length + i]? = l[i]? := by rw [List.getElem?_append_right (Nat.le_add_right _ _), Nat.add_sub_cancel_left]
theorem get_before {h l : List AObj} {k : Nat} {o : AObj} (hk : h[k]? = some o) : (h ++ l)[k]? = some o := by rw [List.getElem?_append_left (lt_of_get hk), hk]
theorem set_at (h l : List AObj) (o : AObj) : (h ++ l).set h.length o = h ++ l.set 0 o := by rw [List.set_append_right _ _ (Nat.le_refl _), Nat.sub_self]
theorem set_at_add (h l : List AObj) (i : Nat) (o : AObj) : (h ++ l).set (h.length + i) o = h ++ l.set i o := by rw [List.set_append_right _ _ (Nat.le_add_right _ _), Nat.add_sub_cancel_left]
theorem set_before {h l : List AObj} {k : Nat} {x : AObj} (hk : h[k]? = some x) (o : AObj) : (h ++ l).set k o = h.set k o ++ l := List.set_append_left _ _ (lt_of_get hk)
theorem get_set {h : List AObj} {k : Nat} {x o : AObj} (hk : h[k]? = some x) : (h.set k o)[k]? = some o := List.getElem?_set_self (lt_of_get hk)
theorem get_set_app {h l : List AObj} {k : Nat} {x o : AObj} (hk : h[k]? = some x) : (h.set k o ++ l)[k]? = some o := get_before (get_set hk)
theorem get_set_ne {h : List AObj} {k j : Nat} {o : AObj} (hk : k ≠ j) : (h.set k o)[j]? = h[j]? := List.getElem?_set_ne hk

theorem set_lt {h l : List AObj} {i : Nat} {o : AObj} (hi : i < h.length) : (h ++ l).set i o = h.set i o ++ l := List.set_append_left _ _ hi
theorem get_lt {h l : List AObj} {i : Nat} (hi : i < h.length) : (h ++ l)[i]? = h[i]? := List.getElem?_append_left hi
theorem get_ge {h l : List AObj} {i : Nat} (hi : h.length ≤ i) : (h ++ l)[i]? = l[i - h.length]? := List.getElem?_append_right hi
theorem set_back {h : List AObj} {k : Nat} {o x : AObj} (hk : h[k]? = some o) : (h.set k x).set k o = h := by
  rw [List.set_set]
  refine List.ext_getElem? fun i => ?_
  by_cases e : k = i
  · subst e; rw [List.getElem?_set_self (lt_of_get hk), hk]
  · rw [List.getElem?_set_ne e]
theorem get_app {h l : List AObj} {k : Nat} {o : AObj} (hk : h[k]? = some o) : (h ++ l)[k]? = some o := get_before hk
theorem Keep.app (K : Nat → AObj → Prop) (h l : List AObj) : Keep K h (h ++ l) := ⟨by simp, fun _ _ e _ => get_before e⟩
theorem Keep.left {K : Nat → AObj → Prop} {h l h' : List AObj} (a : Keep K (h ++ l) h') : Keep K h h' := (Keep.app K h l).trans a
theorem Keep.set {K : Nat → AObj → Prop} {h : List AObj} {k : Nat} {x : AObj} (o : AObj) (hx : h[k]? = some x) (hk : K k x) : Keep K h (h.set k o) :=
  ⟨by simp, fun i y hi hn => by
    by_cases e : k = i
    · subst e; rw [hx] at hi; cases hi; exact absurd hk hn
    · rw [List.getElem?_set_ne e]; exact hi⟩

/-- An object that came behind what was told is turned. -/
theorem Keep.turn {h h' : List AObj} (a : Keep All h h') {k : Nat} (o : AObj) {x : AObj} (hx : h'[k]? = some x) (hk : h.length ≤ k) : Keep All h (h'.set k o) :=
  a.trans' (K' := fun i _ => i = k) (Keep.set o hx rfl) fun i o' hi e => by have := lt_of_get hi; omega

/-! ### states -/
/-- Some of what a state says. -/
def Picks (τ : List (Nat × AV)) : List (Nat × AV) → Prop
  | [] => True
  | (i, x) :: r => tget τ i = x ∧ Picks τ r
theorem picks_nil (τ : List (Nat × AV)) : Picks τ [] = True := rfl
theorem picks_cons (τ : List (Nat × AV)) (i : Nat) (x : AV) (r : List (Nat × AV)) : Picks τ ((i, x) :: r) = (tget τ i = x ∧ Picks τ r) := rfl
theorem Picks.get {τ : List (Nat × AV)} : ∀ {r : List (Nat × AV)}, Picks τ r → ∀ i, tget r i = tget τ i ∨ tget r i = .any
  | [], _, i => .inr rfl
  | (j, x) :: r, h, i => by
    simp only [Picks] at h
    simp only [tget]
    split
    · rename_i hb
      have := Nat.eq_of_beq_eq_true hb
      subst this
      exact .inl h.1.symm
    · exact Picks.get h.2 i
theorem Wk.pick {GL : Glob} {m : Nat} {τ τ' : List (Nat × AV)} {h : List AObj} (hm : m ≤ h.length) (hp : Picks τ τ') : Wk GL m τ h τ' h := by
  intro E A G w f hW hf
  refine ⟨E, A, G, hW, fun i => ?_, Ext.refl _ _ _, by rw [hW.n]; exact hm, fun _ _ => ⟨rfl, rfl, rfl, rfl⟩⟩
  rcases hp.get i with e | e
  · rw [e]; exact hf i
  · rw [e]; simp [Rep]

/-- A loop with an invariant that says what stands in temporaries, and of the heap what it likes. -/
theorem s_forP {α : Type} {GL : Glob} {C : Calling} {m : Nat} {Pn : AV → List AObj → Prop} {s : List Fr} {Q : Post} {τ : List (Nat × AV)} {h : List AObj} {b : ACode} (hC : C.Mono) (S : Nat → α → List (Nat × AV)) (Φ : Nat → α → List AObj → Prop) (N : Nat)
    (h0 : ∃ a h', Wk GL m τ h (S 0 a) h' ∧ Φ 0 a h')
    (hs : ∀ j a h, j ≤ N → Φ j a h → wpA GL C m b (pst GL C m Pn (.lp (fun τ' h' => j < N ∧ ∃ a' h'', Wk GL m τ' h' (S (j + 1) a') h'' ∧ Φ (j + 1) a' h'') :: s) Q) Pn (S j a) h) :
    wpA GL C m (.loop b) (pst GL C m Pn s Q) Pn τ h := by
  obtain ⟨a0, h1, w0, f0⟩ := h0
  refine ⟨fun τ h n => ∃ j a, j ≤ N ∧ τ = S j a ∧ Φ j a h ∧ n = N - j, ⟨S 0 a0, h1, N, w0, 0, a0, Nat.zero_le _, rfl, f0, rfl⟩, ?_⟩
  rintro τ h n ⟨j, a, hj, rfl, hf, rfl⟩
  refine wpA_mono hC (fun _ _ h => h) b ?_ _ _ (hs j a h hj hf)
  intro e τ h he
  cases e
  · obtain ⟨q1, a', h'', q2, q3⟩ := he
    exact ⟨_, _, N - (j + 1), by omega, q2, j + 1, a', by omega, rfl, q3, rfl⟩
  · exact he
  · exact he

/-- What a call hands back, and of the heap what it likes. -/
def Gives (C : Calling) (f : FuncId) (args : List AV) (h : List AObj) (Φ : AV → List AObj → Prop) : Prop := C (.fn f) args h fun r h' => ∃ x, r = .val x ∧ Φ x h'
theorem call_gives {C : Calling} (hC : C.Mono) {f : FuncId} {args : List AV} {h : List AObj} {Φ : AV → List AObj → Prop} (hp : Gives C f args h Φ) {R : ARes → List AObj → Prop} (hR : ∀ x h', Φ x h' → R (.val x) h') : C (.fn f) args h R :=
  hC (.fn f) args h _ _ (fun r h' ⟨x, e, f⟩ => by rw [e]; exact hR x h' f) hp
theorem call_any {C : Calling} (hC : C.Mono) {c : CId} {args : List AV} {h : List AObj} {R0 R : ARes → List AObj → Prop} (hp : C c args h R0) (hR : ∀ r h', R0 r h' → R r h') : C c args h R := hC c args h _ _ hR hp
/-- The end of a function whose heap is told as it is. -/
theorem fin_gives {GL : Glob} {m : Nat} {x : AV} {h : List AObj} {Φ : AV → List AObj → Prop} (hm : m ≤ h.length) (hf : Φ x h) : ∃ y h', Wk GL m [(0, x)] h [(0, y)] h' ∧ ∃ z, ARes.val y = ARes.val z ∧ Φ z h' := ⟨x, h, Wk.refl hm, x, rfl, hf⟩
/-- The end of a function that hands back a value that names nothing: the heap is forgotten. -/
theorem Coded.gives {P : Program} {GL : Glob} {f : FuncId} {c : ACode} {rs : List ARet} {n : Nat} (hc : Coded P f c rs n) {args : List AV} {h : List AObj} {Φ : AV → List AObj → Prop} (ha : args.length ≤ n)
    (hs : bodyA GL (AC P GL) c rs args h fun r h' => ∃ x, r = .val x ∧ Φ x h') : Gives (AC P GL) f args h Φ := hc.call ha hs
theorem Coded.gen {P : Program} {GL : Glob} {f : FuncId} {c : ACode} {rs : List ARet} {n : Nat} (hc : Coded P f c rs n) {args : List AV} {h : List AObj} {R : ARes → List AObj → Prop} (ha : args.length ≤ n)
    (hs : bodyA GL (AC P GL) c rs args h R) : AC P GL (.gen f) args h R := by
  obtain ⟨fn, h1, h2, h3, rfl⟩ := hc
  exact agen_of_body h1 h2 h3 ha hs

/-! ### ranges over functions -/
def kbeginP (GL : Glob) (C : Calling) (k m : Nat) (aB : ACode) (R : ARes → List AObj → Prop) : Post := fun e τ1 h1 => match e with
  | .normal => match h1[k]? with
    | some (.loop τ n ps ac bd .ready pd) => wpA GL C m aB (pst GL C m (fun _ _ => False) [] (kround GL k m R)) (fun _ _ => False) τ1 (h1.set k (.loop τ n ps ac bd .busy pd))
    | _ => False
  | _ => False
section
variable {GL : Glob} {C : Calling} {k m : Nat} {aB : ACode} {R : ARes → List AObj → Prop} {τ1 : List (Nat × AV)} {h1 : List AObj}
theorem k_begin_n : kbeginP GL C k m aB R .normal τ1 h1 = match h1[k]? with
    | some (.loop τ n ps ac bd .ready pd) => wpA GL C m aB (pst GL C m (fun _ _ => False) [] (kround GL k m R)) (fun _ _ => False) τ1 (h1.set k (.loop τ n ps ac bd .busy pd))
    | _ => False := rfl
theorem k_round_n : kround GL k m R .normal τ1 h1 = match h1[k]? with
    | some (.loop τ n ps ac bd _ _) => ∃ h', Wk GL m [] (h1.set k (.loop τ n ps ac bd .ready none)) [] h' ∧ R (.val (.v (.bool true))) h'
    | _ => False := rfl
theorem k_range_v {Q : Post} {Pn : AV → List AObj → Prop} {x : AV} : krange k Q Pn τ1 (.val x) h1 = match h1[k]? with
    | some (.loop _ _ _ _ _ .ready none) => Q .normal τ1 (h1.set k .dead)
    | some (.loop _ _ _ _ _ .done (some (.exit id))) => Q (.exit id) τ1 (h1.set k .dead)
    | some (.loop _ _ _ _ _ .done (some .ret)) => Q .ret τ1 (h1.set k .dead)
    | _ => False := rfl
theorem s_rangeFunc {Pn : AV → List AObj → Prop} {s : List Fr} {Q : Post} {n : Nat} {f : AOpd} {ps : List Nat} {as bd : Code} : wpA GL C m (.rangeFunc n f ps as bd) (pst GL C m Pn s Q) Pn τ1 h1 = match aeval GL τ1 f with
    | .fn (.func g) first cap => C (.gen g) (first ++ [.yld h1.length] ++ cap) (h1 ++ [.loop τ1 n ps as bd .ready none]) (krange h1.length (pst GL C m Pn s Q) Pn τ1)
    | _ => False := rfl
end
theorem ayieldP {P : Program} {GL : Glob} {k n : Nat} {τ : List (Nat × AV)} {ps : List Nat} {ac bd : Code} {aA aB : ACode} {args : List AV} {h : List AObj} {R : ARes → List AObj → Prop} {pd : Option Code} (hk : h[k]? = some (.loop τ n ps ac bd .ready pd))
    (hA : comp P (n, []) ac = some aA) (hB : comp P (n, []) bd = some aB) (hlen : args.length = ps.length) (hps : ps.all (Nat.blt · n) = true) (nA : noRF aA = true) (nB : noRF aB = true)
    (hs : wpA GL (AC P GL) h.length aA (pst GL (AC P GL) h.length (fun _ _ => False) [] (kbeginP GL (AC P GL) k h.length aB R)) (fun _ _ => False) (bindsA ps args τ) h) : AC P GL (.yld k) args h R :=
  ayield hk hlen hps hA hB nA nB hs

/-- A pure call, told as one that gives. -/
theorem Pure.gives {C : Calling} {f : FuncId} {args : List AV} {v : AV} (hp : Pure C f args v) (hC : C.Mono) {h : List AObj} {Φ : AV → List AObj → Prop} (hf : Φ v h) : Gives C f args h Φ :=
  hC (.fn f) args h _ _ (fun r h' ⟨e1, e2⟩ => ⟨v, e2, by rw [e1]; exact hf⟩) (hp h)

section
variable {GL : Glob} {C : Calling} {os : List AEnt} {τ : List (Nat × AV)} {h : List AObj} {K : List (Nat × AV) → List AObj → Prop} {Pn : AV → List AObj → Prop} {d : Option Nat}
theorem o_cap : ∀ x, opsA GL C ((d, none, .cap x) :: os) τ h K Pn = (match aeval GL τ x with
    | .v (.slice none 0 0) => opsA GL C os (aput τ d (.v (.int .i64 0))) h K Pn
    | _ => False) := fun _ => rfl
theorem o_appendZ : ∀ T sz bytes z a n, opsA GL C ((d, none, .appendZ T sz bytes z a n) :: os) τ h K Pn = (match aeval GL τ a, intOfA (aeval GL τ n) with
    | .v (.slice none 0 0), some n => (0 < n ∧ n * bytes ≤ 2 ^ 47) ∧ opsA GL C os (aput τ d (.vec h.length sz n.toNat)) (h ++ [.buf T sz (List.replicate n.toNat z)]) K Pn
    | _, _ => False) := fun _ _ _ _ _ _ => rfl
end
attribute [go_sem ↓] o_cap o_appendZ s_rangeFunc k_begin_n k_round_n k_range_v
attribute [go_sem] bindsA
attribute [go_sem] picks_nil picks_cons get_at set_at
end Go.Rip
