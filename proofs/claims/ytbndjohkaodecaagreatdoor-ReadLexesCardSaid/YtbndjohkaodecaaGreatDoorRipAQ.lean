/- Closed facts that every law's row needs: the types, the variables, the zero values. -/
import Derived.Test.YtbndjohkaodecaaGreatDoorRows
import Derived.Test.YtbndjohkaodecaaGreatDoorTie
import Derived.ProofKit
import Derived.LaidMore
import Derived.OpenShut
import Derived.Stop.Joined
import Derived.MakeChecks
import Derived.SevenTiedAt
import Derived.Carry
import Derived.Test.YtbndjohkaodecaaGreatDoorRipAL
import Derived.Test.YtbndjohkaodecaaGreatDoorRipAO
import Derived.Test.YtbndjohkaodecaaGreatDoorRipAP
namespace Go.Proofs.YtbndjohkaodecaaGreatDoor
set_option maxRecDepth 100000
open Go Go.ChangeShapes Go.WideShapes Go.ChangeAt Go.WideMaps Go.WideElems Go.RowKit Go.Rip
theorem own : ownKnob Tryz.prog.godebug = none := by kernel_rfl
def laidL : List (String × DataW Unit) := [("math/bits.deBruijn32tab", Rows.laid_math_bits_deBruijn32tab), ("math/bits.deBruijn64tab", Rows.laid_math_bits_deBruijn64tab), ("internal/strconv.uint64pow10", Rows.laid_internal_strconv_uint64pow10), ("strconv.ErrRange", Rows.laid_strconv_ErrRange), ("strconv.ErrSyntax", Rows.laid_strconv_ErrSyntax)]
theorem gP : Tryz.prog.globalNamed "internal/strconv.uint64pow10" = some 1 := by kernel_rfl
theorem tP : (Tryz.prog.globals[1]?).map (·.type) = some 205 := by kernel_rfl
theorem gR : Tryz.prog.globalNamed "strconv.ErrRange" = some 3 := by kernel_rfl
theorem tR : (Tryz.prog.globals[3]?).map (·.type) = some 108 := by kernel_rfl
theorem gS : Tryz.prog.globalNamed "strconv.ErrSyntax" = some 2 := by kernel_rfl
theorem tS : (Tryz.prog.globals[2]?).map (·.type) = some 108 := by kernel_rfl
theorem tyI : (Tryz.prog.underlying 108).any isIf = true := by kernel_rfl
theorem tyA : Tryz.prog.underlying 205 = some (.array Go.Lib.pow10Tab.length 190) := by kernel_rfl
theorem tyU : Tryz.prog.underlying 190 = some (.int .u64) := by kernel_rfl
theorem cU : Tryz.prog.cellsOf 190 = 1 := by kernel_rfl
noncomputable def zeros : Nat -> Option (Nat × TypeId) := fun g => (((begin Tryz.prog (fun _ _ => 0) default).world.heap[g]?).bind Obj.row?).map fun z => (z.1.size, z.2)
theorem zero0 : zeros 0 = some (1, 3) := by kernel_rfl
theorem zero1 : zeros 1 = some (20, 205) := by kernel_rfl
theorem zero2 : zeros 2 = some (1, 108) := by kernel_rfl
theorem zero3 : zeros 3 = some (1, 108) := by kernel_rfl
theorem sG : 3 < Tryz.prog.globals.size := of_decide_eq_true (by kernel_rfl)
theorem rG {W : World} (hsh : W.ShapedOpen Tryz.prog) {g n : Nat} {t : TypeId} (hg : g < Tryz.prog.globals.size) (hz : zeros g = some (n, t)) : ∃ cs, W.heap[g]? = some (.cells cs t) /\ cs.size = n := by
 unfold zeros at hz
 obtain ⟨z, h1, h2⟩ := Option.map_eq_some_iff.1 hz
 obtain ⟨zero, t'⟩ := z
 simp only [Prod.mk.injEq] at h2
 obtain ⟨rfl, rfl⟩ := h2
 obtain ⟨cs, a, b, -⟩ := hsh.1 g zero t' hg h1
 exact ⟨cs, a, b⟩
theorem max_int {W : World} (hsh : W.ShapedOpen Tryz.prog) : ∃ m, W.cell? ⟨0, 0, none⟩ = some (.int .i64 m) := by
 obtain ⟨z, h1, h2⟩ := Option.map_eq_some_iff.1 zero0
 obtain ⟨zero, t'⟩ := z
 simp only [Prod.mk.injEq] at h2
 obtain ⟨hs, rfl⟩ := h2
 exact cell_of_shapedOpen_int (zero := zero) hsh (Nat.lt_of_le_of_lt (by decide) sG) h1 hs (by kernel_rfl) (by kernel_rfl) (by kernel_rfl)
theorem qI {W : World} {n : Nat} {l : List AV} {cs : Array Value} {T : TypeId} (hh : W.heap[n]? = some (.cells cs T)) (hs : cs.size = l.length) (hc : ∀ (i : Nat) x, l[i]? = some x -> ∃ u, W.cell? ⟨n, i, none⟩ = some u /\ u.oneCell' = true /\ ∀ E', Rep E' (allA W) (allG W) W x u) : GlR (allA W) (allG W) W n l := by
 refine ⟨fun E' => RepC.of_get fun i x hx => ?_, ?_, cs, T, (0, 0), hh, hs⟩
 ·obtain ⟨u, h1, h2, h3⟩ := hc i x hx
  rw [Nat.zero_add]
  exact ⟨u, h1, ⟨u, h1⟩, h2, h3 E'⟩
 ·show n < W.heap.size
  rcases Nat.lt_or_ge n W.heap.size with h | h
  ·exact h
  ·rw [Array.getElem?_eq_none h] at hh; cases hh
theorem glob_ok {W : World} (h : laidMetH Tryz.prog laidL W) (hsh : W.ShapedOpen Tryz.prog) : ∃ GL, GLok GL /\ ∀ n l, (n, l) ∈ GL -> GlR (allA W) (allG W) W n l := by
 rw [MakeChecks.laidMetH_plain _ _ _ (by kernel_rfl)] at h
 obtain ⟨ps, ⟨_, _, _, _, _, _, _, _, _, _, ⟨_, _, _, _, _, _, _, _, _, _, ⟨g1, t1, cs1, f1, p1, q1, hg1, ht1, hv1, hd1, ⟨g3, t3, cs3, f3, p3, q3, hg3, ht3, hv3, hd3, ⟨g2, t2, cs2, f2, p2, q2, hg2, ht2, hv2, hd2, _, _⟩, _⟩, _⟩, _⟩, _⟩, _, _⟩ := h
 obtain rfl := Option.some.inj (gP.symm.trans hg1)
 obtain rfl := Option.some.inj (tP.symm.trans ht1)
 obtain rfl := Option.some.inj (gR.symm.trans hg3)
 obtain rfl := Option.some.inj (tR.symm.trans ht3)
 obtain rfl := Option.some.inj (gS.symm.trans hg2)
 obtain rfl := Option.some.inj (tS.symm.trans ht2)
 obtain ⟨m, hm⟩ := max_int hsh
 obtain ⟨u2, w2, e2⟩ := oV tyI hd2 rfl
 obtain ⟨u3, w3, e3⟩ := oV tyI hd3 rfl
 obtain ⟨c0, r0, s0⟩ := rG hsh (Nat.lt_of_le_of_lt (by decide) sG) zero0
 obtain ⟨c1, r1, s1⟩ := rG hsh (Nat.lt_of_le_of_lt (by decide) sG) zero1
 obtain ⟨c2, r2, s2⟩ := rG hsh (Nat.lt_of_le_of_lt (by decide) sG) zero2
 obtain ⟨c3, r3, s3⟩ := rG hsh sG zero3
 have k2 : W.cell? ⟨2, 0, none⟩ = some (.iface u2 w2) := by rw [World.var?_cell hg2 hv2 0, <- Array.getElem?_toList, e2]; rfl
 have k3 : W.cell? ⟨3, 0, none⟩ = some (.iface u3 w3) := by rw [World.var?_cell hg3 hv3 0, <- Array.getElem?_toList, e3]; rfl
 refine ⟨[(0, [.v (.int .i64 m)]), (1, Go.Lib.pow10Tab.map fun z => .v (.int .u64 z)), (2, [.iface u2 .any]), (3, [.iface u3 .any])], ⟨⟨m, by simp⟩, by simp, ⟨u2, by simp⟩, ⟨u3, by simp⟩⟩, fun n l hl => ?_⟩
 simp only [List.mem_cons, Prod.mk.injEq, List.not_mem_nil, or_false] at hl
 rcases hl with ⟨rfl, rfl⟩ | ⟨rfl, rfl⟩ | ⟨rfl, rfl⟩ | ⟨rfl, rfl⟩
 ·refine qI r0 s0 fun i x hx => ?_
  cases i with
  | zero => simp at hx; subst hx; exact ⟨.int .i64 m, hm, rfl, fun _ => by simp [Rep]⟩
  | succ i => simp at hx
 ·refine qI r1 (by rw [s1]; rfl) fun i x hx => ?_
  simp only [List.getElem?_map, Option.map_eq_some_iff] at hx
  obtain ⟨z, hz, rfl⟩ := hx
  refine ⟨.int .u64 z, ?_, rfl, fun _ => by simp [Rep]⟩
  rw [World.var?_cell hg1 hv1 i, <- Array.getElem?_toList]
  exact glob_nums tyA tyU cU hd1 rfl hz
 ·refine qI r2 s2 fun i x hx => ?_
  cases i with
  | zero => simp at hx; subst hx; exact ⟨.iface u2 w2, k2, rfl, fun _ => by simp [Rep]⟩
  | succ i => simp at hx
 ·refine qI r3 s3 fun i x hx => ?_
  cases i with
  | zero => simp at hx; subst hx; exact ⟨.iface u3 w3, k3, rfl, fun _ => by simp [Rep]⟩
  | succ i => simp at hx
theorem door_met (os : Os) (args : Array Value) : laidMetH Tryz.prog laidL ((World.doorLaid Tryz.prog 400 os).forCall (fun _ _ => 0) ⟨#[], args, []⟩).memory :=
 laidMetH_of_parts3 (fuel := 8) (laidMet_of_run' 8 (by kernel_rfl) (by kernel_rfl)) (by kernel_rfl) (by kernel_rfl)
def str0 : Value := .string ⟨#[]⟩
theorem strTy : Tryz.prog.underlying 9 = some .string := by kernel_rfl
theorem mainIs : Tryz.prog.mainIs = some (true, "0487231308984262cb8012114dd09b33cfa2734f14c88897aaaf00f71f20233c".toList) := by kernel_rfl
theorem looks : true = Tryz.prog.looks [] := by kernel_rfl
end Go.Proofs.YtbndjohkaodecaaGreatDoor
