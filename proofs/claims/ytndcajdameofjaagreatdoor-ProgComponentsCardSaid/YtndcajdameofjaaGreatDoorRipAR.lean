/- A call that changes some objects, and names them. -/
import Derived.Test.YtndcajdameofjaaGreatDoorRipAI
namespace Go.Rip
open Go
def Keep (K : Nat -> AObj -> Prop) (h h' : List AObj) : Prop := h.length <= h'.length /\ ∀ (i : Nat) (o : AObj), h[i]? = some o -> ¬ K i o -> h'[i]? = some o
abbrev All : Nat -> AObj -> Prop := fun _ _ => False
theorem Keep.refl (K : Nat -> AObj -> Prop) (h : List AObj) : Keep K h h := ⟨Nat.le_refl _, fun _ _ e _ => e⟩
theorem Keep.trans {K : Nat -> AObj -> Prop} {h h' h'' : List AObj} (a : Keep K h h') (b : Keep K h' h'') : Keep K h h'' := ⟨Nat.le_trans a.1 b.1, fun i o e n => b.2 i o (a.2 i o e n) n⟩
theorem Keep.trans' {K K' : Nat -> AObj -> Prop} {h h' h'' : List AObj} (a : Keep K h h') (b : Keep K' h' h'') (hk : ∀ i o, h[i]? = some o -> K' i o -> K i o) : Keep K h h'' :=
 ⟨Nat.le_trans a.1 b.1, fun i o e n => b.2 i o (a.2 i o e n) fun q => n (hk i o e q)⟩
theorem Keep.mono {K K' : Nat -> AObj -> Prop} {h h' : List AObj} (a : Keep K h h') (hk : ∀ i o, h[i]? = some o -> K i o -> K' i o) : Keep K' h h' := ⟨a.1, fun i o e n => a.2 i o e fun x => n (hk i o e x)⟩
theorem Keep.get {K : Nat -> AObj -> Prop} {h h' : List AObj} (a : Keep K h h') {i : Nat} {o : AObj} (hi : h[i]? = some o) (hn : ¬ K i o) : h'[i]? = some o := a.2 i o hi hn
theorem Keep.got {h h' : List AObj} (a : Keep All h h') {i : Nat} {o : AObj} (hi : h[i]? = some o) : h'[i]? = some o := a.2 i o hi id
theorem Keep.of_all {K : Nat -> AObj -> Prop} {h h' : List AObj} (a : Keep All h h') : Keep K h h' := ⟨a.1, fun i o e _ => a.2 i o e id⟩
theorem Keep.nil {K : Nat -> AObj -> Prop} {h : List AObj} : Keep K [] h := ⟨Nat.zero_le _, fun i o hi => by simp at hi⟩
theorem aV {h : List AObj} {k : Nat} {o : AObj} (hk : h[k]? = some o) : k < h.length := (List.getElem?_eq_some_iff.1 hk).1
theorem dF (h l : List AObj) : (h ++ l)[h.length]? = l[0]? := by rw [List.getElem?_append_right (Nat.le_refl _), Nat.sub_self]
theorem aT (h l : List AObj) (i : Nat) : (h ++ l)[h.length + i]? = l[i]? := by rw [List.getElem?_append_right (Nat.le_add_right _ _), Nat.add_sub_cancel_left]
theorem aE {h l : List AObj} {k : Nat} {o : AObj} (hk : h[k]? = some o) : (h ++ l)[k]? = some o := by rw [List.getElem?_append_left (aV hk), hk]
theorem set_at (h l : List AObj) (o : AObj) : (h ++ l).set h.length o = h ++ l.set 0 o := by rw [List.set_append_right _ _ (Nat.le_refl _), Nat.sub_self]
theorem cB (h l : List AObj) (i : Nat) (o : AObj) : (h ++ l).set (h.length + i) o = h ++ l.set i o := by rw [List.set_append_right _ _ (Nat.le_add_right _ _), Nat.add_sub_cancel_left]
theorem aO {h l : List AObj} {k : Nat} {x : AObj} (hk : h[k]? = some x) (o : AObj) : (h ++ l).set k o = h.set k o ++ l := List.set_append_left _ _ (aV hk)
theorem aJ {h : List AObj} {k : Nat} {x o : AObj} (hk : h[k]? = some x) : (h.set k o)[k]? = some o := List.getElem?_set_self (aV hk)
theorem aP {h l : List AObj} {k : Nat} {x o : AObj} (hk : h[k]? = some x) : (h.set k o ++ l)[k]? = some o := aE (aJ hk)
theorem aR {h : List AObj} {k j : Nat} {o : AObj} (hk : k ≠ j) : (h.set k o)[j]? = h[j]? := List.getElem?_set_ne hk
theorem set_lt {h l : List AObj} {i : Nat} {o : AObj} (hi : i < h.length) : (h ++ l).set i o = h.set i o ++ l := List.set_append_left _ _ hi
theorem get_lt {h l : List AObj} {i : Nat} (hi : i < h.length) : (h ++ l)[i]? = h[i]? := List.getElem?_append_left hi
theorem get_ge {h l : List AObj} {i : Nat} (hi : h.length <= i) : (h ++ l)[i]? = l[i - h.length]? := List.getElem?_append_right hi
theorem set_back {h : List AObj} {k : Nat} {o x : AObj} (hk : h[k]? = some o) : (h.set k x).set k o = h := by
 rw [List.set_set]
 refine List.ext_getElem? fun i => ?_
 by_cases e : k = i
 ·subst e; rw [List.getElem?_set_self (aV hk), hk]
 ·rw [List.getElem?_set_ne e]
theorem Keep.app (K : Nat -> AObj -> Prop) (h l : List AObj) : Keep K h (h ++ l) := ⟨by simp, fun _ _ e _ => aE e⟩
theorem Keep.left {K : Nat -> AObj -> Prop} {h l h' : List AObj} (a : Keep K (h ++ l) h') : Keep K h h' := (Keep.app K h l).trans a
theorem Keep.set {K : Nat -> AObj -> Prop} {h : List AObj} {k : Nat} {x : AObj} (o : AObj) (hx : h[k]? = some x) (hk : K k x) : Keep K h (h.set k o) :=
 ⟨by simp, fun i y hi hn => by
  by_cases e : k = i
  ·subst e; rw [hx] at hi; cases hi; exact absurd hk hn
  ·rw [List.getElem?_set_ne e]; exact hi⟩
theorem Keep.turn {h h' : List AObj} (a : Keep All h h') {k : Nat} (o : AObj) {x : AObj} (hx : h'[k]? = some x) (hk : h.length <= k) : Keep All h (h'.set k o) :=
 a.trans' (K' := fun i _ => i = k) (Keep.set o hx rfl) fun i o' hi e => by have := aV hi; omega
def Picks (τ : List (Nat × AV)) : List (Nat × AV) -> Prop
 | [] => True
 | (i, x) :: r => tget τ i = x /\ Picks τ r
theorem picks_nil (τ : List (Nat × AV)) : Picks τ [] = True := rfl
theorem picks_cons (τ : List (Nat × AV)) (i : Nat) (x : AV) (r : List (Nat × AV)) : Picks τ ((i, x) :: r) = (tget τ i = x /\ Picks τ r) := rfl
theorem Picks.get {τ : List (Nat × AV)} : ∀ {r : List (Nat × AV)}, Picks τ r -> ∀ i, tget r i = tget τ i ∨ tget r i = .any
 | [], _, i => .inr rfl
 | (j, x) :: r, h, i => by
  simp only [Picks] at h
  simp only [tget]
  split
  ·rename_i hb
   have := Nat.eq_of_beq_eq_true hb
   subst this
   exact .inl h.1.symm
  ·exact Picks.get h.2 i
theorem Wk.pick {GL : Glob} {m : Nat} {τ τ' : List (Nat × AV)} {h : List AObj} (hm : m <= h.length) (hp : Picks τ τ') : Wk GL m τ h τ' h := by
 intro E A G w f hW hf
 refine ⟨E, A, G, hW, fun i => ?_, Ext.refl _ _ _, by rw [hW.n]; exact hm, fun _ _ => ⟨rfl, rfl, rfl, rfl⟩⟩
 rcases hp.get i with e | e
 ·rw [e]; exact hf i
 ·rw [e]; simp [Rep]
theorem aZ {α : Type} {GL : Glob} {C : Calling} {m : Nat} {Pn : AV -> List AObj -> Prop} {s : List Fr} {Q : Post} {τ : List (Nat × AV)} {h : List AObj} {b : ACode} (hC : C.Mono) (S : Nat -> α -> List (Nat × AV)) (Φ : Nat -> α -> List AObj -> Prop) (N : Nat)
  (h0 : ∃ a h', Wk GL m τ h (S 0 a) h' /\ Φ 0 a h')
  (hs : ∀ j a h, j <= N -> Φ j a h -> wpA GL C m b (pst GL C m Pn (.lp (fun τ' h' => j < N /\ ∃ a' h'', Wk GL m τ' h' (S (j + 1) a') h'' /\ Φ (j + 1) a' h'') :: s) Q) Pn (S j a) h) :
  wpA GL C m (.loop b) (pst GL C m Pn s Q) Pn τ h := by
 obtain ⟨a0, h1, w0, f0⟩ := h0
 refine ⟨fun τ h n => ∃ j a, j <= N /\ τ = S j a /\ Φ j a h /\ n = N - j, ⟨S 0 a0, h1, N, w0, 0, a0, Nat.zero_le _, rfl, f0, rfl⟩, ?_⟩
 rintro τ h n ⟨j, a, hj, rfl, hf, rfl⟩
 refine dB hC (fun _ _ h => h) b ?_ _ _ (hs j a h hj hf)
 intro e τ h he
 cases e
 ·obtain ⟨q1, a', h'', q2, q3⟩ := he
  exact ⟨_, _, N - (j + 1), by omega, q2, j + 1, a', by omega, rfl, q3, rfl⟩
 ·exact he
 ·exact he
def Gives (C : Calling) (f : FuncId) (args : List AV) (h : List AObj) (Φ : AV -> List AObj -> Prop) : Prop := C (.fn f) args h fun r h' => ∃ x, r = .val x /\ Φ x h'
theorem aN {C : Calling} (hC : C.Mono) {f : FuncId} {args : List AV} {h : List AObj} {Φ : AV -> List AObj -> Prop} (hp : Gives C f args h Φ) {R : ARes -> List AObj -> Prop} (hR : ∀ x h', Φ x h' -> R (.val x) h') : C (.fn f) args h R :=
 hC (.fn f) args h _ _ (fun r h' ⟨x, e, f⟩ => by rw [e]; exact hR x h' f) hp
theorem call_any {C : Calling} (hC : C.Mono) {c : CId} {args : List AV} {h : List AObj} {R0 R : ARes -> List AObj -> Prop} (hp : C c args h R0) (hR : ∀ r h', R0 r h' -> R r h') : C c args h R := hC c args h _ _ hR hp
theorem aK {GL : Glob} {m : Nat} {x : AV} {h : List AObj} {Φ : AV -> List AObj -> Prop} (hm : m <= h.length) (hf : Φ x h) : ∃ y h', Wk GL m [(0, x)] h [(0, y)] h' /\ ∃ z, ARes.val y = ARes.val z /\ Φ z h' := ⟨x, h, Wk.refl hm, x, rfl, hf⟩
theorem Coded.gives {P : Program} {GL : Glob} {f : FuncId} {c : ACode} {rs : List ARet} {n : Nat} (hc : Coded P f c rs n) {args : List AV} {h : List AObj} {Φ : AV -> List AObj -> Prop} (ha : args.length <= n)
  (hs : bodyA GL (AC P GL) c rs args h fun r h' => ∃ x, r = .val x /\ Φ x h') : Gives (AC P GL) f args h Φ := hc.call ha hs
theorem Coded.gen {P : Program} {GL : Glob} {f : FuncId} {c : ACode} {rs : List ARet} {n : Nat} (hc : Coded P f c rs n) {args : List AV} {h : List AObj} {R : ARes -> List AObj -> Prop} (ha : args.length <= n)
  (hs : bodyA GL (AC P GL) c rs args h R) : AC P GL (.gen f) args h R := by
 obtain ⟨fn, h1, h2, h3, rfl⟩ := hc
 exact agen_of_body h1 h2 h3 ha hs
def kbeginP (GL : Glob) (C : Calling) (k m : Nat) (aB : ACode) (R : ARes -> List AObj -> Prop) : Post := fun e τ1 h1 => match e with
 | .normal => match h1[k]? with
  | some (.loop τ n ps ac bd .ready pd) => wpA GL C m aB (pst GL C m (fun _ _ => False) [] (kround GL k m R)) (fun _ _ => False) τ1 (h1.set k (.loop τ n ps ac bd .busy pd))
  | _ => False
 | _ => False
section
variable {GL : Glob} {C : Calling} {k m : Nat} {aB : ACode} {R : ARes -> List AObj -> Prop} {τ1 : List (Nat × AV)} {h1 : List AObj}
theorem k_begin_n : kbeginP GL C k m aB R .normal τ1 h1 = match h1[k]? with
  | some (.loop τ n ps ac bd .ready pd) => wpA GL C m aB (pst GL C m (fun _ _ => False) [] (kround GL k m R)) (fun _ _ => False) τ1 (h1.set k (.loop τ n ps ac bd .busy pd))
  | _ => False := rfl
theorem k_round_n : kround GL k m R .normal τ1 h1 = match h1[k]? with
  | some (.loop τ n ps ac bd _ _) => ∃ h', Wk GL m [] (h1.set k (.loop τ n ps ac bd .ready none)) [] h' /\ R (.val (.v (.bool true))) h'
  | _ => False := rfl
theorem k_range_v {Q : Post} {Pn : AV -> List AObj -> Prop} {x : AV} : krange k Q Pn τ1 (.val x) h1 = match h1[k]? with
  | some (.loop _ _ _ _ _ .ready none) => Q .normal τ1 (h1.set k .dead)
  | some (.loop _ _ _ _ _ .done (some (.exit id))) => Q (.exit id) τ1 (h1.set k .dead)
  | some (.loop _ _ _ _ _ .done (some .ret)) => Q .ret τ1 (h1.set k .dead)
  | _ => False := rfl
theorem s_rangeFunc {Pn : AV -> List AObj -> Prop} {s : List Fr} {Q : Post} {n : Nat} {f : AOpd} {ps : List Nat} {as bd : Code} : wpA GL C m (.rangeFunc n f ps as bd) (pst GL C m Pn s Q) Pn τ1 h1 = match aeval GL τ1 f with
  | .fn (.func g) first cap => C (.gen g) (first ++ [.yld h1.length] ++ cap) (h1 ++ [.loop τ1 n ps as bd .ready none]) (krange h1.length (pst GL C m Pn s Q) Pn τ1)
  | _ => False := rfl
end
theorem ayieldP {P : Program} {GL : Glob} {k n : Nat} {τ : List (Nat × AV)} {ps : List Nat} {ac bd : Code} {aA aB : ACode} {args : List AV} {h : List AObj} {R : ARes -> List AObj -> Prop} {pd : Option Code} (hk : h[k]? = some (.loop τ n ps ac bd .ready pd))
  (hA : comp P (n, []) ac = some aA) (hB : comp P (n, []) bd = some aB) (hlen : args.length = ps.length) (hps : ps.all (Nat.blt · n) = true) (nA : noRF aA = true) (nB : noRF aB = true)
  (hs : wpA GL (AC P GL) h.length aA (pst GL (AC P GL) h.length (fun _ _ => False) [] (kbeginP GL (AC P GL) k h.length aB R)) (fun _ _ => False) (bindsA ps args τ) h) : AC P GL (.yld k) args h R :=
 ayield hk hlen hps hA hB nA nB hs
section
variable {GL : Glob} {C : Calling} {os : List AEnt} {τ : List (Nat × AV)} {h : List AObj} {K : List (Nat × AV) -> List AObj -> Prop} {Pn : AV -> List AObj -> Prop} {d : Option Nat}
theorem o_cap : ∀ x, opsA GL C ((d, none, .cap x) :: os) τ h K Pn = (match aeval GL τ x with
  | .v (.slice none 0 0) => opsA GL C os (aput τ d (.v (.int .i64 0))) h K Pn
  | _ => False) := fun _ => rfl
theorem o_appendZ : ∀ T sz bytes z a n, opsA GL C ((d, none, .appendZ T sz bytes z a n) :: os) τ h K Pn = (match aeval GL τ a, intOfA (aeval GL τ n) with
  | .v (.slice none 0 0), some n => (0 < n /\ n * bytes <= 2 ^ 47) /\ opsA GL C os (aput τ d (.vec h.length sz n.toNat)) (h ++ [.buf T sz (List.replicate n.toNat z)]) K Pn
  | _, _ => False) := fun _ _ _ _ _ _ => rfl
end
attribute [go_sem ↓] o_cap o_appendZ s_rangeFunc k_begin_n k_round_n k_range_v
attribute [go_sem] bindsA
attribute [go_sem] picks_nil picks_cons dF set_at
end Go.Rip
