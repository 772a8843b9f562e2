/- read.Lex: the lexemes of a text, or where and why not. -/
import Derived.Test.YtbndjohkaodecaaGreatDoorRipAW
namespace Go.Rip
open Go Go.Proofs
set_option maxRecDepth 100000
variable {GL : Glob}
attribute [local irreducible] Pure
def lexV (l : List UInt8) : AV := match lexOut l with
 | .error e => .tup [.sl 5 [], .i e.2, .i e.1]
 | .ok ls => .tup [.sl 5 (ls.map encLx), .i 0, .i 0]
theorem bd_lexV (l : List UInt8) : bd 0 (lexV l) := by
 unfold lexV
 cases lexOut l <;> simp [go_sem]
theorem fW {l : List UInt8} {e n : Int} (h : lexOut l = .error (e, n)) : e ≠ 0 := by
 unfold lexOut at h
 split at h
 ·cases h; decide
 ·split at h
  ·cases h; decide
  ·split at h
   ·cases h; decide
   ·cases h
theorem h57 (hG : GLok GL) (l : List UInt8) (H : List AObj) (k : Nat) (c0 : H[k]? = some (.cells 9 [.str l])) (c1 : H[k + 1]? = some (.cells 23 [.v (.slice none 0 0)])) :
  AC Tryz.prog GL (.fn 57) [.ref k 0, .ref (k + 1) 0] H fun x h' => Keep (fun i _ => i = k + 1) H h' /\ ((∃ e n, x = .panic (wrongV e n) /\ lexOut l = .error (e, n)) ∨ ((∃ v, x = .val v) /\ ∃ ls o, lexOut l = .ok ls /\ h'[k + 1]? = some (.cells 23 [o]) /\ OutV ls o h')) := by
 refine k57.call (by simp) ?_
 simp -implicitDefEqProofs only [go_sem, c57, r57, c0]
 refine aJ hC (h58 hG l H) fun x h' ⟨hR, hk⟩ => ?_
 have c1' := hk.got c1
 have hl := hk.1
 unfold LexR at hR
 rcases hz : lexOut l with e | ls
 ·rw [hz] at hR
  subst hR
  simp -implicitDefEqProofs only [go_sem]
  exact aP (by omega) ⟨hk.of_all, .inl ⟨_, _, rfl, rfl⟩⟩
 ·rw [hz] at hR
  obtain ⟨o, rfl, ho⟩ := hR
  have fin : ∃ y h2, Wk GL H.length [(0, .tup [])] (h'.set (k + 1) (.cells 23 [o])) [(0, y)] h2 /\ Keep (fun i _ => i = k + 1) H h2 /\ ((∃ e n, ARes.val y = .panic (wrongV e n) /\ (Except.ok ls : Except (Int × Int) (List Lx)) = .error (e, n)) ∨ ((∃ v, ARes.val y = .val v) /\ ∃ ls' o', (Except.ok ls : Except (Int × Int) (List Lx)) = .ok ls' /\ h2[k + 1]? = some (.cells 23 [o']) /\ OutV ls' o' h2)) :=
   ⟨_, _, Wk.refl (by simp; omega), hk.of_all.trans (Keep.set _ c1' rfl), .inr ⟨⟨_, rfl⟩, ls, o, rfl, aH c1', iF (K := fun i _ => i = k + 1) ho (Keep.set _ c1' rfl) fun a ha e => by subst e; rw [c1'] at ha; cases ha⟩⟩
  rcases ho with ⟨rfl, rfl⟩ | ⟨b, rfl, hb⟩
  ·simp -implicitDefEqProofs only [go_sem, c1']
   exact fin
  ·simp -implicitDefEqProofs only [go_sem, c1']
   exact fin
theorem h18 (hG : GLok GL) (l : List UInt8) : Pure (PC GL) 18 [.str l] (lexV l) := by
 refine aN (by simp [go_sem]) (bd_lexV l) ?_
 refine k18.call (by simp) ?_
 have h1 := h56 (GL := GL) (g := 57) (caps := [.ref 0 0, .ref 1 0]) (h := [.cells 9 [.str l], .cells 23 [.v (.slice none 0 0)]]) (Bad := fun e n => lexOut l = .error (e, n)) (Ok := fun h' => ∃ ls o, lexOut l = .ok ls /\ h'[1]? = some (.cells 23 [o]) /\ OutV ls o h')
  (aJ hC (h57 hG l _ 0 rfl rfl) fun x h' ⟨hk, hx⟩ => ⟨hk.get (i := 2) rfl (by decide), hk.get (i := 3) rfl (by decide), hx⟩)
 simp -implicitDefEqProofs only [go_sem, c18, r18]
 refine aJ hC h1 fun x h' ⟨hm, hx⟩ => ?_
 rcases hx with ⟨e, n, rfl, hb⟩ | ⟨rfl, ls, o, hz, q1, ho⟩
 ·have he := fW hb
  have d1 : (e != 0) = true := by simpa using he
  have ev : lexV l = .tup [.sl 5 [], .i n, .i e] := by rw [lexV, hb]
  simp -implicitDefEqProofs only [go_sem, d1]
  rw [ev]
  exact aO (by simp [wkr, wkrs]) (by simp [go_sem])
 ·have ev : lexV l = .tup [.sl 5 (ls.map encLx), .i 0, .i 0] := by rw [lexV, hz]
  rcases ho with ⟨rfl, rfl⟩ | ⟨b, rfl, hb⟩
  ·rw [List.map_nil] at ev
   have d0 : ((0 : Int) != 0) = false := rfl
   simp -implicitDefEqProofs only [go_sem, q1, d0]
   rw [ev]
   exact aO (by simp [wkr, wkrs]) (by simp [go_sem])
  ·have d0 : ((0 : Int) != 0) = false := rfl
   simp -implicitDefEqProofs only [go_sem, q1, d0]
   rw [ev]
   exact aO (by simp [wkr, wkrs]) (by simp [go_sem])
end Go.Rip
