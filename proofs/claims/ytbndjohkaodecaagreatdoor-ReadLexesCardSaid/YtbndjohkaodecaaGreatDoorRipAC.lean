/- The walk's rewriting rules. -/
import Derived.Laws.Tables
import Derived.Laws.StructEq
import Derived.Laws.Slices
import Derived.Laws.Build
import Derived.Lib.Builder
import Derived.Test.YtbndjohkaodecaaGreatDoorRipAB
import Derived.Test.YtbndjohkaodecaaGreatDoorRipAA
namespace Go.Rip
open Go
abbrev AV.i (n : Int) : AV := .v (.int .i64 n)
abbrev AV.b (b : Bool) : AV := .v (.bool b)
section
variable (l l' : List AV) (x : Value) (s : List UInt8) (k o i sz m : Nat) (f : Fn) (t : TypeId) (a : AV) (h : List AObj)
theorem aggo_agg (l : List AV) : aggOf (.agg l) = some l := rfl
theorem aggo_v : ∀ x, aggOf (.v x) = none := fun _ => rfl
theorem aggo_str : ∀ l, aggOf (.str l) = none := fun _ => rfl
theorem aggo_sl : ∀ z l, aggOf (.sl z l) = none := fun _ _ => rfl
theorem aggo_own : ∀ k z l, aggOf (.own k z l) = none := fun _ _ _ => rfl
theorem aggo_pel : ∀ l, aggOf (.pel l) = none := fun _ => rfl
theorem aggo_ref : ∀ k o, aggOf (.ref k o) = none := fun _ _ => rfl
theorem aggo_eref : ∀ k i o, aggOf (.eref k i o) = none := fun _ _ _ => rfl
theorem aggo_vec : ∀ k z m, aggOf (.vec k z m) = none := fun _ _ _ => rfl
theorem aggo_view : ∀ k z a m, aggOf (.view k z a m) = none := fun _ _ _ _ => rfl
theorem aggo_mp : ∀ k, aggOf (.mp k) = none := fun _ => rfl
theorem aggo_imp : ∀ a b, aggOf (.imp a b) = none := fun _ _ => rfl
theorem aggo_fn : ∀ f a b, aggOf (.fn f a b) = none := fun _ _ _ => rfl
theorem aggo_yld : ∀ k, aggOf (.yld k) = none := fun _ => rfl
theorem uV : ∀ t x, aggOf (.iface t x) = none := fun _ _ => rfl
theorem cells_agg : (AV.agg l).cells = l := rfl
theorem cells_v : (AV.v x).cells = [.v x] := rfl
theorem cells_str : (AV.str s).cells = [.str s] := rfl
theorem cells_sl : (AV.sl sz l).cells = [.sl sz l] := rfl
theorem cells_own : (AV.own k sz l).cells = [.own k sz l] := rfl
theorem cells_pel : (AV.pel l).cells = [.pel l] := rfl
theorem cells_ref : (AV.ref k o).cells = [.ref k o] := rfl
theorem vM : (AV.eref k i o).cells = [.eref k i o] := rfl
theorem cells_vec : (AV.vec k sz m).cells = [.vec k sz m] := rfl
theorem vN : (AV.view k sz o m).cells = [.view k sz o m] := rfl
theorem cells_mp : (AV.mp k).cells = [.mp k] := rfl
theorem cells_imp : (AV.imp l l').cells = [.imp l l'] := rfl
theorem cells_fn : (AV.fn f l l').cells = [.fn f l l'] := rfl
theorem cells_yld : (AV.yld k).cells = [.yld k] := rfl
theorem tZ : (AV.iface t a).cells = [.iface t a] := rfl
theorem cells_any : AV.any.cells = [.any] := rfl
theorem solid_agg : (AV.agg l).solid = true := rfl
theorem solid_int (q : IntKind) (n : Int) : (AV.v (.int q n)).solid = true := rfl
theorem vI (b : Bool) : (AV.v (.bool b)).solid = true := rfl
theorem solid_nil (p : Option Addr) : (AV.v (.slice p o i)).solid = true := rfl
theorem solid_map (p : Option Nat) : (AV.v (.map p)).solid = true := rfl
theorem wP : (AV.v .nilFunc).solid = true := rfl
theorem uF : (AV.v .nilIface).solid = true := rfl
theorem solid_str : (AV.str s).solid = true := rfl
theorem solid_sl : (AV.sl sz l).solid = true := rfl
theorem solid_own : (AV.own k sz l).solid = true := rfl
theorem solid_pel : (AV.pel l).solid = true := rfl
theorem solid_ref : (AV.ref k o).solid = true := rfl
theorem vA : (AV.eref k i o).solid = true := rfl
theorem solid_vec : (AV.vec k sz m).solid = true := rfl
theorem vU : (AV.view k sz o m).solid = true := rfl
theorem solid_mp : (AV.mp k).solid = true := rfl
theorem solid_imp : (AV.imp l l').solid = true := rfl
theorem solid_fn : (AV.fn f l l').solid = true := rfl
theorem solid_yld : (AV.yld k).solid = true := rfl
theorem sJ : (AV.iface t a).solid = true := rfl
theorem ptr_ref : ptrCells h (.ref k o) = match h[k]? with
  | some (.cells _ l) => some (l.drop o)
  | _ => none := rfl
theorem ptr_eref : ptrCells h (.eref k i o) = match h[k]? with
  | some (.buf _ _ l) => match l[i]? with
   | some x => some (x.cells.drop o)
   | none => none
  | _ => none := rfl
theorem ptr_pel : ptrCells h (.pel l) = some l := rfl
theorem add_ref (n : Nat) : ptrAdd n (.ref k o) = some (.ref k (o + n)) := rfl
theorem add_eref (n : Nat) : ptrAdd n (.eref k i o) = some (.eref k i (o + n)) := rfl
theorem add_pel (n : Nat) : ptrAdd n (.pel l) = some (.pel (l.drop n)) := rfl
theorem load_t (n : Nat) : loadA true n l = match Nat.ble n l.length with
  | true => some (.agg (l.take n))
  | false => none := rfl
theorem load_f (n : Nat) : loadA false n (a :: l) = some a := rfl
theorem elems_sl (z : Nat) : elemsA h z (.sl sz l) = match Nat.beq sz z with
  | true => some l
  | false => none := rfl
theorem elems_own (z : Nat) : elemsA h z (.own k sz l) = match Nat.beq sz z with
  | true => some l
  | false => none := rfl
theorem elems_vec (z : Nat) : elemsA h z (.vec k sz m) = match Nat.beq sz z with
  | true => match h[k]? with
   | some (.buf _ _ l) => match Nat.ble m l.length with
    | true => some (l.take m)
    | false => none
   | _ => none
  | false => none := rfl
theorem wC (z : Nat) : elemsA h z (.view k sz o m) = match Nat.beq sz z with
  | true => match h[k]? with
   | some (.buf _ _ l) => match Nat.ble (o + m) l.length with
    | true => some ((l.drop o).take m)
    | false => none
   | _ => none
  | false => none := rfl
theorem vec_vec : vecOf (.vec k sz m) = some (k, sz, 0, m) := rfl
theorem vec_view : vecOf (.view k sz o m) = some (k, sz, o, m) := rfl
theorem vec_nil : vecOf (.v (.slice none o i)) = none := rfl
theorem elems_nil (z : Nat) : elemsA h z (.v (.slice none 0 0)) = some [] := rfl
theorem sl_sl (z : Nat) : slA z (.sl sz l) = match Nat.beq sz z with
  | true => some l
  | false => none := rfl
theorem sl_own (z : Nat) : slA z (.own k sz l) = match Nat.beq sz z with
  | true => some l
  | false => none := rfl
theorem sl_nil (z : Nat) : slA z (.v (.slice none 0 0)) = some [] := rfl
theorem elem_sl : elemPtr (.sl sz l) i = .pel (l.getD i .any).cells := rfl
theorem elem_own : elemPtr (.own k sz l) i = .pel (l.getD i .any).cells := rfl
theorem elem_vec : elemPtr (.vec k sz m) i = .eref k i 0 := rfl
theorem len_sl : lenA h .sl (.sl sz l) = some l.length := rfl
theorem len_own : lenA h .sl (.own k sz l) = some l.length := rfl
theorem len_vec : lenA h .sl (.vec k sz m) = some m := rfl
theorem elem_view : elemPtr (.view k sz o m) i = .eref k (o + i) 0 := rfl
theorem len_view : lenA h .sl (.view k sz o m) = some m := rfl
theorem len_str : lenA h .str (.str s) = some s.length := rfl
theorem len_nil (p : Option Addr) : lenA h .sl (.v (.slice p o i)) = some o := rfl
theorem len_mp : lenA h .mp (.mp k) = match h[k]? with
  | some (.map ks _) => some ks.length
  | _ => none := rfl
theorem len_imp : lenA h .mp (.imp l l') = some l.length := rfl
theorem uQ : lenA h .mp (.v (.map none)) = some 0 := rfl
theorem uO (j n : Nat) : bounds (j : Int) n = (j < n) := by simp [bounds]
theorem dI (j : Int) (n : Nat) : bounds j n = (0 <= j /\ j < (n : Int)) := rfl
theorem map_mp : mapOf h (.mp k) = match h[k]? with
  | some (.map ks vs) => some (ks, vs)
  | _ => none := rfl
theorem map_imp : mapOf h (.imp l l') = some (l, l') := rfl
theorem map_nil : mapOf h (.v (.map none)) = some ([], []) := rfl
theorem splice_eq (off : Nat) : splice l off l' = l.take off ++ (l' ++ l.drop (off + l'.length)) := rfl
theorem resK_val (K Pn : AV -> List AObj -> Prop) : resK K Pn (.val a) h = K a h := rfl
theorem vG (K Pn : AV -> List AObj -> Prop) : resK K Pn (.panic a) h = Pn a h := rfl
theorem wJ (C : Calling) (g : FuncId) (args : List AV) (R : ARes -> List AObj -> Prop) : callVal C (.fn (.func g) l l') args h R = C (.fn g) (l ++ args ++ l') h R := rfl
theorem sK (C : Calling) (args : List AV) (R : ARes -> List AObj -> Prop) : callVal C (.yld k) args h R = C (.yld k) args h R := rfl
theorem beq_true (b : Bool) : (b == true) = b := by cases b <;> rfl
theorem beq_false (b : Bool) : (b == false) = !b := by cases b <;> rfl
end
attribute [go_sem ↓] o_bad oY uN o_nextMap uZ o_appendS wE vJ uI mE o_chk_len rL eqD_some eqD_none k_ret_r k_ret_n kont_eq eX dZ
 o_nil o_call o_callV o_panic o_move o_alloc o_box o_build qU o_load o_store vD o_bin o_un o_conv o_runeStr vK o_mkIface o_mkFunc o_mkMap o_mkSlice o_appendM o_appendB or_false false_or o_sliceV o_clear wO o_slice o_sliceQ wI uD o_field uE nP wK
 vB o_lookup rY o_extract o_append o_len o_max o_min
attribute [go_sem] gdW_bool gdW_undef aeval tget_cons aput ptr_ref ptr_eref ptr_pel add_ref add_eref add_pel load_t load_f len_sl len_own len_vec len_view len_str len_nil len_mp len_imp uQ storeA aggo_agg aggo_v aggo_str aggo_sl aggo_own aggo_pel aggo_ref aggo_eref aggo_vec aggo_view aggo_mp aggo_imp aggo_fn aggo_yld uV splice_eq fillA fillL binA intBin strBin unA intOfA optInt
 sl_sl sl_own sl_nil elems_sl elems_own elems_vec wC vec_vec vec_view vec_nil elems_nil elem_sl elem_own elem_vec elem_view cells_agg cells_v cells_str cells_sl cells_own cells_pel cells_ref vM cells_vec vN cells_mp cells_imp cells_fn cells_yld tZ cells_any
 solid_agg solid_int vI solid_nil solid_map wP uF solid_str solid_sl solid_own solid_pel solid_ref vA solid_vec vU solid_mp solid_imp solid_fn solid_yld sJ
 uO map_mp map_imp map_nil findA eqKQ eqAV eqAVs resK_val vG wJ sK retA retAll retOne args0 beq_true beq_false gget
 SlotsOk ObjsOk ren rens bd bds wkr wkrs wkO renO bdO renT bdT
 Nat.beq Nat.ble List.nil_append List.cons_append List.append_nil List.length_cons List.length_nil List.getElem?_cons_zero List.getElem?_cons_succ List.drop List.take Nat.zero_add Nat.add_zero List.set List.map List.length_append List.replicate
 Option.map Bool.and_true Bool.true_and Bool.not_true Bool.not_false Nat.reduceAdd Nat.reduceLT Nat.reduceLeDiff true_and and_true Int.toNat_natCast List.getD_cons_zero List.getD_cons_succ if_true ite_true
def Pure (C : Calling) (f : FuncId) (args : List AV) (v : AV) : Prop := ∀ h, C (.fn f) args h (fun r h' => h' = h /\ r = .val v)
def tyAgg (P : Program) (t : TypeId) : Option Bool :=
 match P.underlying t with
 | some (.struct _) => some true
 | some (.array _ _) => some true
 | some _ => some false
 | none => none
def tySize (P : Program) (t : TypeId) : Option Nat :=
 match P.info? t with
 | some i => some i.size
 | none => none
def tyBytes (P : Program) (t : TypeId) : Option Nat :=
 match P.info? t with
 | some i => some i.bytes
 | none => none
def liftC : Value -> AV
 | .string s => .str s.data.toList
 | x => .v x
def liftV : Value -> AV
 | .agg cs => match cs.toList.all (·.oneCell') with
  | true => .agg (cs.toList.map liftC)
  | false => .any
 | x => liftC x
def tyZero (P : Program) (t : TypeId) : Option AV :=
 match P.info? t with
 | some i => match i.zero with
  | some z => match Nat.beq z.cells.size i.size, z.cells.toList.all (·.oneCell'), tyAgg P t with
   | true, true, some true => match z with
    | .agg cs => some (.agg (cs.toList.map liftC))
    | _ => none
   | true, true, some false => match z with
    | .agg _ => none
    | z => some (liftC z)
   | _, _, _ => none
  | none => none
 | none => none
def fkOf (P : Program) (t : TypeId) : Option FK :=
 match P.underlying t with
 | some (.int k) => some (.int k)
 | some .bool => some .bool
 | some .string => some .str
 | _ => none
def plainFields (P : Program) : Nat -> List Field -> Option (List FK)
 | _, [] => some []
 | i, f :: fs => match f.name != "_" && Nat.beq f.offset i, fkOf P f.type, plainFields P (i + 1) fs with
  | true, some q, some l => some (q :: l)
  | _, _, _ => none
def plainStruct (P : Program) (t : TypeId) : Option (List FK) :=
 match P.underlying t with
 | some (.struct fs) => match !P.stoodInHeld t && !P.eqGuardType P.depth t with
  | true => plainFields P 0 fs.toList
  | false => none
 | _ => none
def keyKind (P : Program) (t : TypeId) : Option KQ :=
 match plainStruct P t with
 | some l => some (.st l)
 | none => match fkOf P t with
  | some q => some (.one q)
  | none => none
def compOpd : Operand -> AOpd
 | .tmp t => .t t
 | .const v => .c (liftV v)
 | .global g => .g g
 | .func f => .c (.fn (.func f) [] [])
def places (P : Program) (fs : Array Field) : Option (List (Nat × Nat)) := fs.toList.mapM (fun f => (P.info? f.type).map fun i => (f.offset, i.size))
def compParts (pl : Nat -> Option (Nat × Nat)) : List (Nat × Operand) -> Option (List (Nat × Nat × AOpd))
 | [] => some []
 | (i, x) :: r => match pl i, compParts pl r with
  | some (o, s), some l => some ((o, s, compOpd x) :: l)
  | _, _ => none
def isConst : Operand -> Bool
 | .const _ => true
 | _ => false
def eqKind (P : Program) (t : TypeId) (y : Operand) : EqK :=
 match P.underlying t with
 | some (.struct _) => match plainStruct P t with
  | some l => .st l
  | none => .no
 | some (.interface _) => match isConst y with
  | true => .nil
  | false => .no
 | some .bool => .bl
 | some (.slice _) => .sl
 | some (.func ..) => .fnc
 | some (.pointer te) => match P.info? te with
  | some _ => .ptr
  | none => .no
 | _ => .no
def binKind (P : Program) (op : BinOp) (t : TypeId) (y : Operand) : Option EqK :=
 match op with
 | .eql | .neq => some (eqKind P t y)
 | .add | .sub | .mul | .quo | .rem | .lss | .leq | .gtr | .geq | .and | .or | .xor => some .no
 | .shl | .shr => some .sh
 | _ => none
def isSliceTy (P : Program) (t : TypeId) : Bool :=
 match P.underlying t with
 | some (.slice _) => true
 | _ => false
def mutElem (P : Program) (e : TypeId) : Bool :=
 match P.underlying e with
 | some (.struct fs) => fs.toList.any fun f => match P.underlying f.type with
  | some (.slice e') => match P.underlying e' with
   | some (.struct gs) => Nat.ble 2 (gs.toList.filter fun g => isSliceTy P g.type).length
   | _ => false
  | _ => false
 | _ => false
def vecElem (P : Program) (e : TypeId) (len : Nat) : Bool := Nat.beq len 0 && (mutElem P e || (Nat.beq e 68 || Nat.beq e 24))
def marked (e : TypeId) : AOpd -> AOpd -> Bool
 | .t 24, .t 26 => Nat.beq e 3
 | .t 5, .t 6 => Nat.beq e 68 || Nat.beq e 24
 | .t 22, .t 25 => Nat.beq e 68
 | .t 23, .t 41 => Nat.beq e 9
 | _, _ => false
def markedB (e : TypeId) : AOpd -> AOpd -> Bool
 | .t 16, .t 18 => Nat.beq e 24
 | _, _ => false
def markedV (e : TypeId) (x : AOpd) (lo hi : Option AOpd) : Bool :=
 (Nat.beq e 60 || (Nat.beq e 68 || Nat.beq e 24)) && match x, lo, hi with
  | .t 8, some (.t 9), some (.t 10) => true
  | .t 20, none, some (.t 21) => true
  | .t 23, some (.t 24), none => true
  | .t 27, some (.t 29), some (.t 30) => true
  | _, _, _ => false
def compOp (P : Program) (o : Oper) : Option AOp :=
 match o.op with
 | .move x | .assign x => some (.move (compOpd x))
 | .pick c a b => some (.pick (compOpd c) (compOpd a) (compOpd b))
 | .alloc T => match tyZero P T with
  | some z => some (.alloc T z.cells)
  | none => none
 | .box T x => some (.box T (compOpd x))
 | .build t ps => match P.underlying t, tyZero P t with
  | some (.struct fs), some (.agg zs) => match places P fs with
   | some pl => match compParts (pl[·]?) ps.toList with
    | some l => some (.build zs l)
    | none => none
   | none => none
  | some (.array _ e), some (.agg zs) => match tySize P e with
   | some s => match compParts (fun i => some (i * s, s)) ps.toList with
    | some l => some (.build zs l)
    | none => none
   | none => none
  | _, _ => none
 | .buildSlice t len ps => match P.underlying t with
  | some (.slice e) => match tySize P e, tyZero P e with
   | some s, some z => match Nat.blt 0 s && Nat.ble (len * s) (2 ^ 24) with
    | true => match vecElem P e len, ps.toList, tyBytes P e with
     | true, [], some b => match Nat.blt 0 b with
      | true => some (.mkSlice e s b z (.c (.v (.int .i64 0))) (.c (.v (.int .i64 0))))
      | false => none
     | _, _, _ => some (.buildSlice e s z len (ps.toList.map fun (i, x) => (i, compOpd x)))
    | false => none
   | _, _ => none
  | _ => none
 | .load t a => match tyAgg P t, tySize P t with
  | some g, some n => some (.load g n (compOpd a))
  | _, _ => none
 | .store t a x => match tySize P t with
  | some n => some (.store n (compOpd a) (compOpd x))
  | none => none
 | .nilCheck x => some (.nilCheck (compOpd x))
 | .binOp op t x y _ => match binKind P op t y with
  | some q => some (.bin op q (compOpd x) (compOpd y))
  | none => none
 | .unOp op _ x => some (.un op (compOpd x))
 | .convert src dst x => match P.underlying src, P.underlying dst with
  | some (.int _), some (.int k) => some (.conv k (compOpd x))
  | some (.int _), some .string => some (.toStr false (compOpd x))
  | some (.slice e), some .string => match P.underlying e with
   | some (.int .u8) => some (.toStr true (compOpd x))
   | _ => none
  | _, _ => none
 | .makeInterface t x => match P.underlying t with
  | some (.interface _) => none
  | some _ => some (.mkIface t (compOpd x))
  | none => none
 | .makeFunc (.func f) a b => some (.mkFunc f (a.toList.map compOpd) (b.toList.map compOpd))
 | .makeMap _ none => some .mkMap
 | .makeSlice t l c => match P.underlying t with
  | some (.slice e) => match tySize P e, tyBytes P e, tyZero P e with
   | some s, some b, some z => match Nat.blt 0 s && Nat.blt 0 b with
    | true => some (.mkSlice e s b z (compOpd l) (compOpd c))
    | false => none
   | _, _, _ => none
  | _ => none
 | .slice t x lo hi mx => match P.underlying t with
  | some .string => match mx with
   | none => some (.sliceStr (compOpd x) (lo.map compOpd) (hi.map compOpd))
   | some _ => none
  | some (.slice e) => match tySize P e with
   | some s => match markedV e (compOpd x) (lo.map compOpd) (hi.map compOpd) with
    | true => some (.sliceV s (compOpd x) (lo.map compOpd) (hi.map compOpd) (mx.map compOpd))
    | false => some (.slice s (compOpd x) (lo.map compOpd) (hi.map compOpd) (mx.map compOpd))
   | none => none
  | some (.array n e) => match tySize P e, mx with
   | some s, none => match Nat.ble n (2 ^ 24) with
    | true => some (.sliceArr n s (compOpd x) (lo.map compOpd) (hi.map compOpd))
    | false => none
   | _, _ => none
  | _ => none
 | .fieldAddr s x i => match P.underlying s with
  | some (.struct fs) => match fs[i]? with
   | some f => match tySize P f.type with
    | some (_ + 1) => some (.fieldAddr f.offset (compOpd x))
    | _ => none
   | none => none
  | _ => none
 | .field s x i => match P.underlying s with
  | some (.struct fs) => match fs[i]? with
   | some f => match tyAgg P f.type, tySize P f.type with
    | some g, some n => some (.field g f.offset n (compOpd x))
    | _, _ => none
   | none => none
  | _ => none
 | .indexAddr t x i => match P.underlying t with
  | some (.slice e) => match tySize P e with
   | some s => some (.indexAddr s (compOpd x) (compOpd i))
   | none => none
  | some (.array n e) => match tySize P e with
   | some s => some (.indexAddrArr n s (compOpd x) (compOpd i))
   | none => none
  | _ => none
 | .index t x i => match P.underlying t with
  | some .string => some (.indexStr (compOpd x) (compOpd i))
  | some (.array n e) => match tyAgg P e, tySize P e with
   | some g, some s => some (.indexArr g n s (compOpd x) (compOpd i))
   | _, _ => none
  | _ => none
 | .lookup t x i ok => match P.underlying t with
  | some (.map k e) => match keyKind P k, tyZero P e with
   | some q, some z => some (.lookup q z (compOpd x) (compOpd i) ok)
   | _, _ => none
  | _ => none
 | .mapUpdate t m k x | .insert t m k x => match P.underlying t with
  | some (.map kt _) => match keyKind P kt with
   | some q => some (.mapUpdate q (compOpd m) (compOpd k) (compOpd x))
   | none => none
  | _ => none
 | .extract x i => some (.extract (compOpd x) i)
 | .range t x => match P.underlying t with
  | some .string => some (.rangeStr (compOpd x))
  | some (.map _ _) => some (.rangeMap (compOpd x))
  | _ => none
 | .next it true => some (.nextStr (compOpd it))
 | .next it false => some (.nextMap (compOpd it))
 | .entry it => some (.entryMap (compOpd it))
 | .typeAssert x _ T ok => match P.underlying T with
  | some (.interface _) => none
  | some _ => match tyZero P T with
   | some z => some (.tyAssert T z ok (compOpd x))
   | none => none
  | none => none
 | .panic x => some (.panic (compOpd x))
 | .call { callee := .value (.func f), args, .. } => some (.call f (args.toList.map compOpd))
 | .call { callee := .value x, args, .. } => some (.callV (compOpd x) (args.toList.map compOpd))
 | .call { callee := .builtin b, args, argTypes } => match b, args.toList, argTypes.toList with
  | .len, [x], [t] => match P.underlying t with
   | some .string => some (.len .str (compOpd x))
   | some (.slice _) => some (.len .sl (compOpd x))
   | some (.map _ _) => some (.len .mp (compOpd x))
   | _ => none
  | .cap, [x], [t] => match P.underlying t with
   | some (.slice _) => some (.cap (compOpd x))
   | _ => none
  | .clear, [x], [t] => match P.underlying t with
   | some (.slice e) => match tySize P e, tyZero P e with
    | some s, some z => match Nat.blt 0 s with
     | true => some (.clear e s z (compOpd x))
     | false => none
    | _, _ => none
   | _ => none
  | .append, [a, b], [t, u] => match P.underlying t, P.underlying u with
   | some (.slice e), some (.int _) => match tySize P e, tyBytes P e, tyZero P e with
    | some s, some y, some z => match Nat.blt 0 s && Nat.blt 0 y with
     | true => some (.appendZ e s y z (compOpd a) (compOpd b))
     | false => none
    | _, _, _ => none
   | some (.slice e), some .string => match tySize P e, tyBytes P e, tyZero P e with
    | some 1, some 1, some (.v (.int .u8 0)) => some (.appendS e 1 1 (compOpd a) (compOpd b))
    | _, _, _ => none
   | some (.slice e), some (.slice _) => match tySize P e, tyBytes P e, tyZero P e, t == u with
    | some s, some y, some _, true => match Nat.blt 0 s && Nat.blt 0 y with
     | true => match mutElem P e || marked e (compOpd a) (compOpd b) with
      | true => some (.appendM e s y (compOpd a) (compOpd b))
      | false => match markedB e (compOpd a) (compOpd b) with
       | true => some (.appendB e s y (compOpd a) (compOpd b))
       | false => some (.append e s y (compOpd a) (compOpd b))
     | false => none
    | _, _, _, _ => none
   | _, _ => none
  | .max, [a, b], _ => some (.max (compOpd a) (compOpd b))
  | .min, [a, b], _ => some (.min (compOpd a) (compOpd b))
  | _, _, _ => none
 | _ => none
def compGuard (ops : Array Oper) : Option (Nat × Bool) -> Option (Option (Nat × Bool))
 | none => some none
 | some (j, b) => match ops[j]? with
  | some o => match o.dst with
   | some d => some (some (d, b))
   | none => none
  | none => none
def memN (x : Nat) (l : List Nat) : Bool := l.any (Nat.beq x)
abbrev NB := Nat × List Nat
def dstOk (N : NB) : Option Nat -> Bool
 | none => true
 | some d => Nat.blt d N.1 && !memN d N.2
def compOpB (P : Program) (o : Oper) : AOp :=
 match compOp P o with
 | some a => a
 | none => .bad
def compOps (P : Program) (N : NB) (ops : Array Oper) : List Oper -> Option (List (Option Nat × Option (Nat × Bool) × AOp))
 | [] => some []
 | o :: r => match dstOk N o.dst, compGuard ops o.guard, compOps P N ops r with
  | true, some g, some l => some ((o.dst, g, compOpB P o) :: l)
  | _, _, _ => none
abbrev AEnt := Option Nat × Option (Nat × Bool) × AOp
abbrev E0 (op : AOp) : AEnt := (none, none, op)
abbrev E1 (d : Nat) (op : AOp) : AEnt := (some d, none, op)
abbrev E2 (d j : Nat) (b : Bool) (op : AOp) : AEnt := (some d, some (j, b), op)
abbrev CI (n : Int) : AOpd := .c (.v (.int .i64 n))
abbrev CB (b : Bool) : AOpd := .c (.v (.bool b))
def uni (a b : List Nat) : List Nat := a.foldr (fun x l => match memN x l with | true => l | false => x :: l) b
def ancs (B : List (List Nat)) : List (List Nat) -> List (List Nat)
 | [] => B
 | a :: r => ancs (B ++ [a.foldr (fun k l => uni (B.getD k []) l) (uni a [])]) r
def gdT : Option (Nat × Bool) -> List Nat
 | some (j, _) => [j]
 | none => []
def AEnt.names (e : AEnt) : List Nat := e.1.toList ++ (gdT e.2.1 ++ e.2.2.tmps)
def disj (d : Option Nat) (l : List Nat) : Bool :=
 match d with
 | none => true
 | some i => !memN i l
def alE : AEnt -> Bool
 | (some _, none, .alloc _ _) => true
 | _ => false
def pairOk (e : Nat -> AEnt) (fl : Nat -> Bool) (b : Nat -> List Nat) (x y : Nat) : Bool :=
 match fl x with
 | false => memN x (b y) || (!fl y && (alE (e y) && (disj (e y).1 (AEnt.names (e x)) && disj (e x).1 (AEnt.names (e y)))))
 | true => (memN x (b y) && !fl y || disj (e y).1 (AEnt.names (e x))) && (memN x (b y) || disj (e x).1 (AEnt.names (e y)))
def pairsOk (e : Nat -> AEnt) (fl : Nat -> Bool) (b : Nat -> List Nat) : List Nat -> Bool
 | [] => true
 | x :: r => r.all (pairOk e fl b x) && pairsOk e fl b r
def nodupN : List Nat -> Bool
 | [] => true
 | x :: r => !memN x r && nodupN r
def canon (fl al : Nat -> Bool) (b : Nat -> List Nat) (all : List Nat) : List Nat :=
 let nf := all.filter fun c => !fl c
 let sq := (nf.filter fun c => !al c).foldl (fun acc c => acc ++ ((nf.filter fun q => al q && (memN q (b c) && !memN q acc)) ++ [c])) []
 let sq := sq ++ nf.filter fun q => !memN q sq
 let acc := sq.foldl (fun acc c => all.foldl (fun acc q => match fl q && (!memN q acc && (b q).all (memN · acc)) with
  | true => acc ++ [q]
  | false => acc) acc ++ [c]) []
 acc ++ all.filter fun q => !memN q acc
def ancsOk (a b : Nat -> List Nat) : List Nat -> Bool
 | [] => true
 | i :: r => (a i).all (Nat.blt · i) && (b i).all (fun j => memN j (a i) || (a i).any fun k => memN j (b k)) && ancsOk a b r
def gdOk (g : Nat -> Option Nat) (b : Nat -> List Nat) : List Nat -> Bool
 | [] => true
 | i :: r => (match g i with | none => true | some j => memN j (b i)) && gdOk g b r
def chks (e : Nat -> AEnt) (fl : Nat -> Bool) (b : Nat -> List Nat) (y : Nat) : List Nat -> List AEnt
 | [] => []
 | x :: r => match fl x && readsA (e x).2.2 && !memN x (b y) with
  | true => (none, (e x).2.1, .chk (e x).1 (e x).2.2) :: chks e fl b y r
  | false => chks e fl b y r
def emit (e : Nat -> AEnt) (fl : Nat -> Bool) (b : Nat -> List Nat) : List Nat -> List Nat -> List AEnt
 | _, [] => []
 | pre, y :: r => e y :: ((match quietA (e y).2.2 with | true => [] | false => chks e fl b y pre) ++ emit e fl b (y :: pre) r)
def upTo : Nat -> List Nat
 | 0 => []
 | n + 1 => upTo n ++ [n]
def entAt (E : List AEnt) (i : Nat) : AEnt := E.getD i (none, none, .mkMap)
def topGo (a : Nat -> List Nat) (all : List Nat) : Nat -> List Nat -> List Nat
 | 0, acc => acc
 | n + 1, acc => match all.find? (fun i => !memN i acc && (a i).all (memN · acc)) with
  | some i => topGo a all n (acc ++ [i])
  | none => acc
def topOk (a : Nat -> List Nat) : List Nat -> List Nat -> Bool
 | _, [] => true
 | pre, i :: r => (a i).all (memN · pre) && topOk a (i :: pre) r
def allBind (ops : List Oper) : Bool := ops.all fun o => o.after.toList.all fun x => Region.binds .any x
def afterIn (md : Region.Mode) (o : Oper) : List Nat := (o.after.toList.filter (Region.binds md ·)).map (·.on)
def modeOk (ops : List Oper) (n : Nat) (md : Region.Mode) : Bool :=
 let A := ops.map (afterIn md)
 let og := topGo (A.getD · []) (upTo n) n []
 topOk (A.getD · []) [] og && ((upTo n).all (memN · og) && og.all (Nat.blt · n))
def modesOk (mixed : Bool) (ops : List Oper) (n : Nat) : Bool :=
 match mixed || allBind ops with
 | true => modeOk ops n .any
 | false => modeOk ops n .text && modeOk ops n .gc
def drawOk (n : Nat) (e : Nat -> AEnt) (fl : Nat -> Bool) (a b : Nat -> List Nat) (g : Nat -> Option Nat) (ord : List Nat) : Bool :=
 ancsOk a b (upTo n) && (gdOk g b (upTo n) && ((upTo n).all (memN · ord) && (nodupN ord && (ord.all (Nat.blt · n) && (pairsOk e fl b ord && (upTo n).all (fun i => (!fl i || (quietA (e i).2.2 && disj (e i).1 (gdT (e i).2.1 ++ (e i).2.2.tmps))) && (!alE (e i) || (upTo n).all fun j => Nat.beq i j || disj (e i).1 (e j).1.toList)))))))
def isAssign (o : Oper) : Bool :=
 match o.op with
 | .assign _ => true
 | _ => false
def frz : AOp -> AOp
 | .slice sz x lo hi mx => .sliceQ sz x lo hi mx
 | .buildSlice T sz z n ps => .buildSliceF T sz z n ps
 | op => op
def compDrawE (P : Program) (ops : Array Oper) (E : List AEnt) : Option (List AEnt) :=
 let A := ops.toList.map (afterIn .any)
 let B := ancs [] A
 let G := ops.toList.map fun o => o.guard.map (·.1)
 let F := (ops.toList.zip E).map fun (o, e) => quietA e.2.2 && !isAssign o
 let ord := canon (F.getD · false) (fun i => alE (entAt E i)) (B.getD · []) (upTo E.length)
 match drawOk E.length (entAt E) (F.getD · false) (A.getD · []) (B.getD · []) (G.getD · none) ord && modesOk (P.follows .mixedOrders) ops.toList E.length with
 | true => some (emit (entAt E) (F.getD · false) (B.getD · []) [] ord)
 | false => none
def compDraw (P : Program) (N : NB) (ops : Array Oper) : Option (List AEnt) :=
 match compOps P N ops ops.toList with
 | none => none
 | some E => match compDrawE P ops E with
  | some es => some es
  | none => compDrawE P ops (E.map fun (d, g, op) => (d, g, frz op))
def noRF : ACode -> Bool
 | .seq a b => noRF a && noRF b
 | .cond _ a b => noRF a && noRF b
 | .block _ b => noRF b
 | .loop b => noRF b
 | .rangeFunc .. => false
 | _ => true
def comp (P : Program) (N : NB) : Code -> Option ACode
 | .skip => some .skip
 | .region _ ops false => match compOps P N ops ops.toList with
  | some l => some (.region l)
  | none => none
 | .region _ ops true => match compDraw P N ops with
  | some l => some (.region l)
  | none => match compOps P N ops ops.toList, modesOk (P.follows .mixedOrders) ops.toList ops.size with
   | some E, true => some (.drawn (E.zip (ops.toList.map (afterIn .any))))
   | _, _ => none
 | .seq a b => match comp P N a, comp P N b with
  | some x, some y => some (.seq x y)
  | _, _ => none
 | .cond c a b => match comp P N a, comp P N b with
  | some x, some y => some (.cond (compOpd c) x y)
  | _, _ => none
 | .block id b => match comp P N b with
  | some x => some (.block id x)
  | none => none
 | .loop b => match comp P N b with
  | some x => some (.loop x)
  | none => none
 | .exit id => some (.exit id)
 | .ret => some .ret
 | .rangeFunc f ps as bd => some (.rangeFunc N.1 (compOpd f) ps.toList as bd)
 | .scope b => comp P N b
 | .label _ => some .skip
 | _ => some (.region [(none, none, .bad)])
def compRets (P : Program) : List ResultVar -> Option (List ARet)
 | [] => some []
 | .tmp t :: r => match compRets P r with
  | some l => some (.tmp t :: l)
  | none => none
 | .cell t T :: r => match tyAgg P T, tySize P T, compRets P r with
  | some g, some n, some l => some (.cell t g n :: l)
  | _, _, _ => none
def compFn (P : Program) (fn : Func) : Option (ACode × List ARet) :=
 match fn.body with
 | some c => match comp P (fn.ntmps, []) c, compRets P fn.results.toList with
  | some a, some r => some (a, r)
  | _, _ => none
 | none => none
def Env.push (E : Env) (b c : Nat) (t : Value) (wd : Nat) : Env :=
 ⟨E.n + 1, fun k => if k = E.n then b else E.blk k, fun k => if k = E.n then c else E.cap k, fun k => if k = E.n then t else E.tok k, fun k => if k = E.n then wd else E.wid k⟩
theorem Env.le_push (E : Env) (b c : Nat) (t : Value) (wd : Nat) : E.le (E.push b c t wd) :=
 ⟨Nat.le_succ _, fun k hk => by
  have : k ≠ E.n := Nat.ne_of_lt hk
  simp [Env.push, this]⟩
@[simp] theorem Env.push_n (E : Env) (b c : Nat) (t : Value) (wd : Nat) : (E.push b c t wd).n = E.n + 1 := rfl
@[simp] theorem Env.push_blk (E : Env) (b c : Nat) (t : Value) (wd : Nat) : (E.push b c t wd).blk E.n = b := by simp [Env.push]
@[simp] theorem Env.push_cap (E : Env) (b c : Nat) (t : Value) (wd : Nat) : (E.push b c t wd).cap E.n = c := by simp [Env.push]
@[simp] theorem Env.push_tok (E : Env) (b c : Nat) (t : Value) (wd : Nat) : (E.push b c t wd).tok E.n = t := by simp [Env.push]
@[simp] theorem Env.push_wid (E : Env) (b c : Nat) (t : Value) (wd : Nat) : (E.push b c t wd).wid E.n = wd := by simp [Env.push]
section
variable {GL : Glob} {E : Env} {A : Nat -> Nat -> Prop} {G : Gd} {h : List AObj} {w : World}
theorem Wf.a_lt (hW : Wf GL E A G h w) {b o : Nat} (ha : A b o) : b < w.heap.size := by
 obtain ⟨v, hv⟩ := hW.a b o ha
 exact World.block_lt_of_cell? w _ hv
def addA (A : Nat -> Nat -> Prop) (b : Nat) (N : Nat -> Prop) : Nat -> Nat -> Prop := fun b' o => A b' o ∨ (b' = b /\ N o)
theorem aV {w' : World} {row : Option Nat} {A' : Nat -> Nat -> Prop} (hW : Wf GL E A G h w) (hg : w.grownBy w' row) (hA : ∀ b o, A b o -> A' b o)
  (hrow : ∀ b, row = some b -> ¬ G.i b /\ ¬ G.h b /\ ∀ o, A b o -> w'.cell? ⟨b, o, none⟩ = w.cell? ⟨b, o, none⟩) (hoff : ∀ b o, A' b o -> A b o ∨ ¬ G.h b) : Ext A G w A' G w' := by
 refine ⟨hA, fun _ h => h, fun b o ha => ?_, fun b hb => ?_, hg.size, hg.os, hg.output, hg.tape, fun _ => Iff.rfl, fun b hb => ⟨?_, fun o ho => (hoff b o ho).resolve_right (fun h => h hb), id⟩⟩
 ·by_cases e : some b = row
  ·exact (hrow b e.symm).2.2 o ha
  ·exact World.cell?_of_block (a := ⟨b, o, none⟩) (hg.block b (hW.a_lt ha) e)
 ·by_cases e : some b = row
  ·exact absurd hb (hrow b e.symm).1
  ·exact hg.block b (hW.g b hb) e
 ·by_cases e : some b = row
  ·exact absurd hb (hrow b e.symm).2.1
  ·exact hg.block b (hW.hf b hb) e
theorem Wf.push (hW : Wf GL E A G h w) (O : Obj) (o : AObj) (c : Nat) (t : Value) (wd : Nat) (N : Nat -> Prop)
  (hN : ∀ i, N i -> ∃ v, (w.alloc O).cell? ⟨w.heap.size, i, none⟩ = some v)
  (hr : ORel (E.push w.heap.size c t wd) (addA A w.heap.size N) G (w.alloc O) E.n o)
  (hb : ∀ b, obk (E.push w.heap.size c t wd) E.n o = some b -> b = w.heap.size) :
  Wf GL (E.push w.heap.size c t wd) (addA A w.heap.size N) G (h ++ [o]) (w.alloc O) /\ Ext A G w (addA A w.heap.size N) G (w.alloc O) := by
 have hX : Ext A G w (addA A w.heap.size N) G (w.alloc O) := aV hW (World.grownBy_alloc w O none) (fun _ _ => .inl) (fun _ e => by cases e) (fun b o ho => ho.imp id fun h hh => by have := hW.hf b hh; omega)
 refine ⟨hW.step (E.le_push _ _ _ _) hX (by simp [hW.n]) ?_ ?_ (fun k => k = h.length) ?_ ?_ ?_ ?_, hX⟩
 ·rintro b o (ha | ⟨rfl, hn⟩)
  ·obtain ⟨v, hv⟩ := hW.a b o ha
   exact ⟨v, (hX.cell b o ha).trans hv⟩
  ·exact hN o hn
 ·intro b hb; exact Nat.lt_of_lt_of_le (hW.g b hb) (by simp)
 ·intro k x hx hk
  rw [List.getElem?_append] at hx
  split at hx
  ·refine ⟨hx, fun b hb' => ?_⟩
   have hk' : k < E.n := by rw [hW.n]; assumption
   have hlt := cJ (hW.o k x hx) hb'
   refine ⟨heap_alloc_old w O b hlt, fun o ho => ?_, id⟩
   rcases ho with ho | ⟨rfl, _⟩
   ·exact ho
   ·omega
  ·rename_i hge
   have : k - h.length = 0 := by
    have := (List.getElem?_eq_some_iff.1 hx).1
    simp at this; omega
   exact absurd (by omega) hk
 ·intro k x hx hk
  subst hk
  simp at hx
  subst hx
  rw [<- hW.n]; exact hr
 ·intro j k x y b hx hy hj hbx hby
  subst hj
  simp at hx
  subst hx
  rw [<- hW.n] at hbx
  have hb1 := hb b hbx
  by_cases hk : k = h.length
  ·exact hk.symm
  ·rw [List.getElem?_append] at hy
   split at hy
   ·have hk' : k < E.n := by rw [hW.n]; assumption
    rw [(E.le_push _ _ _ _).obk hk'] at hby
    have := cJ (hW.o k y hy) hby
    omega
   ·have := (List.getElem?_eq_some_iff.1 hy).1
    simp at this; omega
 ·intro k x b hx hk hbx hh
  subst hk
  simp at hx
  subst hx
  rw [<- hW.n] at hbx
  have := hb b hbx
  have := hW.hf b hh
  omega
theorem bK (A : Nat -> Nat -> Prop) (b : Nat) : addA A b (fun _ => False) = A := by
 funext b' o; simp [addA]
theorem Wf.push_cells (hW : Wf GL E A G h w) (T : TypeId) (cs : Array Value) (l : List AV) (ho : ∀ u ∈ cs.toList, u.oneCell' = true) (hr : Reps E A G w l cs.toList) :
  ∃ E', E.le E' /\ Ext A G w A G (w.alloc (.cells cs T)) /\ Wf GL E' A G (h ++ [.cells T l]) (w.alloc (.cells cs T)) /\
   Rep E' A G (w.alloc (.cells cs T)) (.ref h.length 0) (.pointer (some ⟨w.heap.size, 0, none⟩)) := by
 have := hW.push (.cells cs T) (.cells T l) 0 undef 0 (fun _ => False) (fun _ hf => hf.elim) ?_ ?_
 ·rw [bK] at this
  exact ⟨_, E.le_push _ _ _ _, this.2, this.1, by simp [Rep, <- hW.n]⟩
 ·rw [bK]
  have hX : Ext A G w A G (w.alloc (.cells cs T)) := aV hW (World.grownBy_alloc w _ none) (fun _ _ h => h) (fun _ e => by cases e) (fun _ _ => .inl)
  refine ⟨cs, by rw [Env.push_blk]; exact heap_alloc_new w _, ho, hr.mono (E.le_push _ _ _ _) hX, fun o ha => ?_, fun hg => ?_⟩
  ·rw [Env.push_blk] at ha; have := hW.a_lt ha; omega
  ·rw [Env.push_blk] at hg; have := hW.g _ hg; omega
 ·intro b hb; simp [obk] at hb; exact hb.symm
theorem Wf.put (hW : Wf GL E A G h w) {k : Nat} {o o' : AObj} (hk : h[k]? = some o) {w' : World} (hb : obk E k o = some (E.blk k)) (hb' : obk E k o' = some (E.blk k))
  (hg : w.grownBy w' (some (E.blk k))) (hA : ∀ i, ¬ A (E.blk k) i) (hG : ¬ G.i (E.blk k)) (hX : Ext A G w A G w') (hr : ORel E A G w' k o') : Wf GL E A G (h.set k o') w' := by
 refine hW.step E.le_refl hX (by simp [hW.n]) ?_ ?_ (fun j => j = k) ?_ ?_ ?_ ?_
 ·intro b i ha
  obtain ⟨v, hv⟩ := hW.a b i ha
  exact ⟨v, (hX.cell b i ha).trans hv⟩
 ·intro b hb; exact Nat.lt_of_lt_of_le (hW.g b hb) hg.size
 ·intro j x hx hj
  rw [List.getElem?_set_ne (Ne.symm hj)] at hx
  refine ⟨hx, fun b hbx => ⟨hg.block b (cJ (hW.o j x hx) hbx) (fun e => ?_), fun _ h => h, id⟩⟩
  simp at e
  subst e
  exact hj (hW.d j k x o _ hx hk hbx hb)
 ·intro j x hx hj
  subst hj
  have hlt := (List.getElem?_eq_some_iff.1 hk).1
  simp [hlt] at hx
  subst hx; exact hr
 ·intro i j x y b hx hy hi hbx hby
  subst hi
  have hlt := (List.getElem?_eq_some_iff.1 hk).1
  simp [hlt] at hx
  subst hx
  rw [hb'] at hbx
  by_cases hj : j = i
  ·exact hj.symm
  ·rw [List.getElem?_set_ne (Ne.symm hj)] at hy
   exact hW.d i j o y b hk hy (by rw [hb]; exact hbx) hby
 ·intro j x b hx hj hbx
  subst hj
  have hlt := (List.getElem?_eq_some_iff.1 hk).1
  simp [hlt] at hx
  subst hx
  rw [hb'] at hbx
  exact hW.ho j o b hk (by rw [hb]; exact hbx)
theorem Ext.drawn {A : Nat -> Nat -> Prop} {G : Gd} {w : World} : Ext A G w A G { w with drawn := w.drawn + 1 } :=
 ⟨fun _ _ h => h, fun _ h => h, fun _ _ _ => rfl, fun _ _ => rfl, Nat.le_refl _, rfl, rfl, rfl, fun _ => Iff.rfl, fun _ _ => ⟨rfl, fun _ h => h, id⟩⟩
theorem Wf.drawn {E : Env} {A : Nat -> Nat -> Prop} {G : Gd} {h : List AObj} {w : World} (hW : Wf GL E A G h w) : Wf GL E A G h { w with drawn := w.drawn + 1 } :=
 hW.step E.le_refl Ext.drawn hW.n hW.a hW.g (fun _ => False) (fun _ _ hx _ => ⟨hx, fun _ _ => ⟨rfl, fun _ h => h, id⟩⟩) (fun _ _ _ h => h.elim) (fun _ _ _ _ _ _ _ h => h.elim) (fun _ _ _ _ h => h.elim)
end
def OpOk (P : Program) (GL : Glob) (E : Env) (A : Nat -> Nat -> Prop) (G : Gd) (w : World) (s : Sem Next) (K : AV -> List AObj -> Prop) : Prop :=
 ∃ nx v w' E' A' G' x h', s.run P w = .ok nx w' /\ (nx = .value v ∨ nx = .skip /\ v = undef) /\ E.le E' /\ Ext A G w A' G' w' /\ Wf GL E' A' G' h' w' /\ Rep E' A' G' w' x v /\ K x h'
def Opds (GL : Glob) (E : Env) (A : Nat -> Nat -> Prop) (G : Gd) (w : World) (τ : List (Nat × AV)) (ρ : Operand -> Value) : Prop :=
 ∀ x, Rep E A G w (aeval GL τ (compOpd x)) (ρ x)
theorem tD {E : Env} {A : Nat -> Nat -> Prop} {G : Gd} {w : World} (v : Value) : Rep E A G w (liftV v) v := by
 have hc : ∀ v : Value, Rep E A G w (liftC v) v := fun v => by cases v <;> simp [liftC, Rep]
 have hcs : ∀ l : List Value, Reps E A G w (l.map liftC) l := fun l => by
  induction l with
  | nil => simp [Reps]
  | cons x xs ih => simp only [List.map_cons, Reps]; exact ⟨x, xs, rfl, hc x, ih⟩
 cases v with
 | agg cs =>
  simp only [liftV]
  split
  ·rename_i ho
   simp only [Rep]
   exact ⟨cs, rfl, fun u hu => List.all_eq_true.1 ho u hu, hcs _⟩
  ·simp [Rep]
 | _ => simpa [liftV] using hc _
theorem sA {GL : Glob} {E : Env} {A : Nat -> Nat -> Prop} {G : Gd} {w : World} (n : Nat) : ∀ (L : Glob), (∀ n l, (n, l) ∈ L -> ∀ E', RepC E' A G w n 0 l) -> Rep E A G w (gget L n) (.pointer (some ⟨n, 0, none⟩))
 | [], _ => by simp [gget, Rep]
 | (j, l) :: r, h => by
  simp only [gget]
  split
  ·rename_i hb
   have := Nat.eq_of_beq_eq_true hb
   subst this
   simp only [Rep]
   exact ⟨n, 0, rfl, h n l (by simp) E⟩
  ·exact sA (GL := GL) n r fun n l hl => h n l (by simp [hl])
theorem opds_of {GL : Glob} {E : Env} {A : Nat -> Nat -> Prop} {G : Gd} {h : List AObj} {w : World} {τ : List (Nat × AV)} {a : Act} (hW : Wf GL E A G h w)
  (ht : ∀ i, Rep E A G w (tget τ i) (a.tmps.getD i undef)) : Opds GL E A G w τ a.eval := by
 intro x
 cases x with
 | tmp t => exact ht t
 | const v => exact tD v
 | global g => exact sA (GL := GL) g GL fun n l hl => (hW.gl n l hl).1
 | func f => simp only [compOpd, aeval, Act.eval, Rep]; exact ⟨#[], #[], rfl, by simp [Reps], by simp [Reps]⟩
section
variable {P : Program} {GL : Glob} {E : Env} {A : Nat -> Nat -> Prop} {G : Gd} {h : List AObj} {w : World} {τ : List (Nat × AV)} {ρ : Operand -> Value} {K : AV -> List AObj -> Prop}
theorem OpOk.quiet {s : Sem Value} {v : Value} {x : AV} (hW : Wf GL E A G h w) (hs : s.run P w = .ok v w) (hr : Rep E A G w x v) (hk : K x h) :
  OpOk P GL E A G w (do pure (.value (<- s))) K :=
 ⟨.value v, v, w, E, A, G, x, h, by simp [hs], .inl rfl, E.le_refl, Ext.refl _ _ _, hW, hr, hk⟩
theorem OpOk.quiet' {s : Sem Next} {v : Value} {x : AV} (hW : Wf GL E A G h w) (hs : s.run P w = .ok (.value v) w) (hr : Rep E A G w x v) (hk : K x h) :
  OpOk P GL E A G w s K :=
 ⟨.value v, v, w, E, A, G, x, h, hs, .inl rfl, E.le_refl, Ext.refl _ _ _, hW, hr, hk⟩
theorem cY {v : Value} {k : IntKind} {n : Int} (h : Rep E A G w (.v (.int k n)) v) : v = .int k n := by simpa [Rep] using h
theorem bV {v : Value} {x : AV} {n : Int} (h : Rep E A G w x v) (hx : intOfA x = some n) : ∃ k, v = .int k n := by
 unfold intOfA at hx
 split at hx
 ·cases hx; exact ⟨_, cY h⟩
 ·cases hx
theorem dN {t : TypeId} {b : Bool} (h : tyAgg P t = some b) (w : World) : (isAgg t).run P w = .ok b w := by
 unfold tyAgg at h
 simp only [isAgg, Sem.run_bind, underlying]
 split at h <;> (rename_i hu; first | (cases h; simp [hu]) | cases h)
theorem bG {t : TypeId} {n : Nat} (h : tySize P t = some n) (w : World) : (sizeOf t).run P w = .ok n w := by
 unfold tySize at h
 split at h
 ·rename_i i hi; cases h; simp [sizeOf, typeInfo, hi]
 ·cases h
theorem bL {t : TypeId} {z : AV} (h : tyZero P t = some z) : ∃ i zv, P.info? t = some i /\ i.zero = some zv /\ zv.cells.size = i.size /\ (∀ u ∈ zv.cells.toList, u.oneCell' = true) /\
  ∀ E A G w, Rep E A G w z zv /\ Reps E A G w z.cells zv.cells.toList := by
 unfold tyZero at h
 split at h
 ·rename_i i hi
  split at h
  ·rename_i zv hz
   split at h
   ·rename_i h1 h2 h3
    split at h
    ·rename_i cs
     cases h
     refine ⟨i, _, hi, hz, Nat.eq_of_beq_eq_true h1, fun u hu => List.all_eq_true.1 h2 u hu, fun E A G w => ?_⟩
     have := tD (E := E) (A := A) (G := G) (w := w) (.agg cs)
     simp only [Value.cells] at h2
     simp only [liftV, h2] at this
     refine ⟨this, ?_⟩
     simp only [Rep] at this
     obtain ⟨cs', e, _, hr⟩ := this
     cases e
     exact hr
    ·cases h
   ·rename_i h1 h2 h3
    split at h
    ·cases h
    ·rename_i hna
     cases h
     have hcl : zv.cells = #[zv] := by cases zv <;> first | rfl | exact absurd rfl (hna _)
     have hc : ∀ E A G w, Rep E A G w (liftC zv) zv := fun E A G w => by cases zv <;> simp [liftC, Rep]
     have hc2 : (liftC zv).cells = [liftC zv] := by cases zv <;> rfl
     refine ⟨i, _, hi, hz, Nat.eq_of_beq_eq_true h1, fun u hu => List.all_eq_true.1 h2 u hu, fun E A G w => ⟨hc _ _ _ _, ?_⟩⟩
     rw [hc2, hcl]; exact Reps.one (hc _ _ _ _)
   ·cases h
  ·cases h
 ·cases h
theorem ok_move (hW : Wf GL E A G h w) (hρ : Opds GL E A G w τ ρ) {x : Operand} (hs : K (aeval GL τ (compOpd x)) h) : OpOk P GL E A G w (pure (.value (ρ x))) K :=
 OpOk.quiet' hW (by simp) (hρ x) hs
theorem ok_pick (hW : Wf GL E A G h w) (hρ : Opds GL E A G w τ ρ) {c x y : Operand} (hs : stepA GL (.pick (compOpd c) (compOpd x) (compOpd y)) τ h K) :
  OpOk P GL E A G w (do pure (.value (if <- asBool (ρ c) then ρ x else ρ y))) K := by
 simp only [stepA] at hs
 have hc := hρ c
 split at hs
 ·rename_i t ht
  rw [ht] at hc
  simp only [Rep] at hc
  cases t
  ·exact OpOk.quiet' hW (by simp [hc, asBool]) (hρ y) (hs.2 rfl)
  ·exact OpOk.quiet' hW (by simp [hc, asBool]) (hρ x) (hs.1 rfl)
 ·exact hs.elim
theorem ok_alloc (hW : Wf GL E A G h w) {T : TypeId} {z : AV} (hz : tyZero P T = some z) (hs : K (.ref h.length 0) (h ++ [.cells T z.cells])) :
  OpOk P GL E A G w (do pure (.value (<- Instr.alloc T true (.tuple #[])))) K := by
 obtain ⟨i, zv, h1, h2, _, h4, h5⟩ := bL hz
 obtain ⟨E', hE, hX, hW', hr⟩ := hW.push_cells T zv.cells z.cells h4 (h5 _ _ _ _).2
 exact ⟨_, _, _, E', A, G, _, _, by simp [Instr.alloc, zeroValue, typeInfo, h1, h2, newVar, newRow], .inl rfl, hE, hX, hW', hr, hs⟩
theorem ok_box (hW : Wf GL E A G h w) (hρ : Opds GL E A G w τ ρ) {T : TypeId} {x : Operand} (hs : stepA GL (.box T (compOpd x)) τ h K) :
  OpOk P GL E A G w (do pure (.value (<- Instr.box T (ρ x)))) K := by
 simp only [stepA] at hs
 split at hs
 ·rename_i hx
  have hr := hρ x
  have hc := hr.one hx
  obtain ⟨E', hE, hX, hW', hr'⟩ := hW.push_cells T (ρ x).cells _ hc (hr.cells hx)
  exact ⟨_, _, _, E', A, G, _, _, by simp [Instr.box, newVar, newRow], .inl rfl, hE, hX, hW', hr', hs⟩
 ·exact hs.elim
end
theorem foldl_set (vs : List Value) : ∀ (cs : Array Value) (off k : Nat), off + k + vs.length <= cs.size ->
  ((vs.zipIdx k).foldl (fun cs (p : Value × Nat) => cs.setIfInBounds (off + p.2) p.1) cs).toList = cs.toList.take (off + k) ++ (vs ++ cs.toList.drop (off + k + vs.length)) := by
 induction vs with
 | nil => intro cs off k h; simp
 | cons v vs ih =>
  intro cs off k h
  simp only [List.zipIdx_cons, List.foldl_cons]
  simp only [List.length_cons] at h
  rw [ih _ off (k + 1) (by simp; omega)]
  simp only [Array.toList_setIfInBounds, List.length_cons]
  have hlt : off + k < cs.toList.length := by simp; omega
  have e1 : (cs.toList.set (off + k) v).take (off + (k + 1)) = cs.toList.take (off + k) ++ [v] := by
   rw [show off + (k + 1) = (off + k) + 1 by omega, List.take_succ_eq_append_getElem (by simpa using hlt)]
   simp [List.take_set_of_le]
  have e2 : (cs.toList.set (off + k) v).drop (off + (k + 1) + vs.length) = cs.toList.drop (off + k + (vs.length + 1)) := by
   rw [List.drop_set_of_lt (by omega), show off + (k + 1) + vs.length = off + k + (vs.length + 1) by omega]
  rw [e1, e2]
  simp
section
variable {P : Program} {GL : Glob} {E : Env} {A : Nat -> Nat -> Prop} {G : Gd} {h : List AObj} {w : World} {τ : List (Nat × AV)} {ρ : Operand -> Value} {K : AV -> List AObj -> Prop}
theorem Reps.splice {l : List AV} {vs : List Value} {c : List AV} {us : List Value} (h1 : Reps E A G w l vs) (h2 : Reps E A G w c us) (off : Nat) :
  Reps E A G w (Rip.splice l off c) (vs.take off ++ (us ++ vs.drop (off + us.length))) := by
 rw [Rip.splice, h2.length]
 exact (h1.take off).append (h2.append (h1.drop _))
theorem gA {vs us : List Value} {off n : Nat} {u : Value} (h : u ∈ vs.take off ++ (us ++ vs.drop n)) : u ∈ vs ∨ u ∈ us := by
 simp only [List.mem_append] at h
 rcases h with h | h | h
 ·exact .inl (List.mem_of_mem_take h)
 ·exact .inr h
 ·exact .inl (List.mem_of_mem_drop h)
theorem mL (hρ : Opds GL E A G w τ ρ) (pl : Nat -> Option (Nat × Nat)) : ∀ (parts : List (Nat × Operand)) (l : List (Nat × Nat × AOpd)) (zs cs : List AV) (cells : Array Value),
  compParts pl parts = some l -> fillA zs (l.map fun (o, s, x) => (o, s, aeval GL τ x)) = some cs -> Reps E A G w zs cells.toList -> (∀ u ∈ cells.toList, u.oneCell' = true) ->
  ∃ cells', Instr.fill pl cells (parts.map fun (i, x) => (i, ρ x)) = some cells' /\ Reps E A G w cs cells'.toList /\ (∀ u ∈ cells'.toList, u.oneCell' = true)
 | [], l, zs, cs, cells, hc, hf, hr, ho => by
  simp only [compParts, Option.some.injEq] at hc
  subst hc
  simp only [List.map_nil, fillA, Option.some.injEq] at hf
  subst hf
  exact ⟨cells, rfl, hr, ho⟩
 | (i, x) :: r, l, zs, cs, cells, hc, hf, hr, ho => by
  simp only [compParts] at hc
  split at hc
  ·rename_i o s l' hp hl
   cases hc
   simp only [List.map_cons, fillA] at hf
   split at hf
   ·rename_i hb
    simp only [Bool.and_eq_true] at hb
    obtain ⟨⟨hb1, hb2⟩, hb3⟩ := hb
    have hb2 := Nat.eq_of_beq_eq_true hb2
    have hb3 := Nat.le_of_ble_eq_true hb3
    have hx := hρ x
    have hxc := hx.cells hb1
    have hlen := hxc.length
    have hzl := hr.length
    simp only [Array.length_toList] at hlen hzl
    have hfold : ((ρ x).cells.zipIdx.foldl (fun cs (p : Value × Nat) => cs.setIfInBounds (o + p.2) p.1) cells).toList = cells.toList.take o ++ ((ρ x).cells.toList ++ cells.toList.drop (o + (ρ x).cells.toList.length)) := by
     have := foldl_set (ρ x).cells.toList cells o 0 (by simp only [Array.length_toList]; omega)
     rw [<- Array.foldl_toList, Array.toList_zipIdx]
     simpa using this
    obtain ⟨cells', hf', hr', ho'⟩ := mL hρ pl r l' _ cs _ hl hf (by rw [hfold]; exact hr.splice hxc o)
     (fun u hu => by rw [hfold] at hu; exact (gA hu).elim (ho u) (hx.one hb1 u))
    refine ⟨cells', ?_, hr', ho'⟩
    simp only [List.map_cons, Instr.fill, hp]
    rw [if_neg (by simp only [Bool.or_eq_true, decide_eq_true_eq, not_or]; omega)]
    exact hf'
   ·cases hf
  ·cases hc
theorem ok_build (hW : Wf GL E A G h w) (hρ : Opds GL E A G w τ ρ) {t : TypeId} {ps : Array (Nat × Operand)} {o : Oper} (ho : o.op = .build t ps) {a : AOp} (hc : compOp P o = some a) (hs : stepA GL a τ h K) :
  OpOk P GL E A G w (do pure (.value (<- Instr.build t (ps.map fun (i, x) => (i, ρ x))))) K := by
 simp only [compOp, ho] at hc
 split at hc
 ·rename_i fs zs hu hz
  split at hc
  ·rename_i pl hpl
   split at hc
   ·rename_i l hl
    cases hc
    simp only [stepA] at hs
    split at hs
    ·rename_i cs hf
     obtain ⟨i, zv, h1, h2, _, h4, h5⟩ := bL hz
     have hzr := (h5 E A G w).1
     simp only [Rep] at hzr
     obtain ⟨zc, rfl, hzo, hzr⟩ := hzr
     obtain ⟨cells, hfill, hr, hone⟩ := mL hρ _ ps.toList l zs cs zc hl hf hzr hzo
     have hb : P.built t ((ps.map fun (i, x) => (i, ρ x)).toList) = some cells := by
      simp only [places] at hpl
      simp only [Program.built, h1, hu, h2, hpl, Array.toList_map]
      simpa [Value.cells] using hfill
     exact OpOk.quiet hW (run_build w t _ cells hb) (by simp only [Rep]; exact ⟨cells, rfl, hone, hr⟩) hs
    ·exact hs.elim
   ·cases hc
  ·cases hc
 ·rename_i n e zs hu hz
  split at hc
  ·rename_i s hsz
   split at hc
   ·rename_i l hl
    cases hc
    simp only [stepA] at hs
    split at hs
    ·rename_i cs hf
     obtain ⟨i, zv, h1, h2, _, h4, h5⟩ := bL hz
     have hzr := (h5 E A G w).1
     simp only [Rep] at hzr
     obtain ⟨zc, rfl, hzo, hzr⟩ := hzr
     obtain ⟨cells, hfill, hr, hone⟩ := mL hρ _ ps.toList l zs cs zc hl hf hzr hzo
     have hb : P.built t ((ps.map fun (i, x) => (i, ρ x)).toList) = some cells := by
      unfold tySize at hsz
      split at hsz
      ·rename_i ie hie
       cases hsz
       simp only [Program.built, h1, hu, h2, hie, Array.toList_map]
       exact hfill
      ·cases hsz
     exact OpOk.quiet hW (run_build w t _ cells hb) (by simp only [Rep]; exact ⟨cells, rfl, hone, hr⟩) hs
    ·exact hs.elim
   ·cases hc
  ·cases hc
 ·cases hc
theorem cP (b o j : Nat) : (⟨b, o, none⟩ : Addr).add j = ⟨b, o + j, none⟩ := by unfold Addr.add; split <;> simp_all
theorem fD {sz : Nat} : ∀ {l : List AV}, (∀ x ∈ l, x.cells.length = sz) -> ∀ {i : Nat} {x : AV}, l[i]? = some x -> ∀ {j : Nat} {y : AV}, x.cells[j]? = some y -> (l.flatMap AV.cells)[i * sz + j]? = some y
 | [], _, i, x, hx, _, _, _ => by simp at hx
 | z :: zs, hl, i, x, hx, j, y, hy => by
  rw [List.flatMap_cons]
  cases i with
  | zero =>
   simp at hx; subst hx
   rw [Nat.zero_mul, Nat.zero_add, List.getElem?_append_left (List.getElem?_eq_some_iff.1 hy).1]
   exact hy
  | succ i =>
   simp at hx
   have hz := hl z (by simp)
   rw [List.getElem?_append_right (by rw [hz, Nat.add_mul]; omega), hz]
   have := fD (fun x hx => hl x (by simp [hx])) hx hy
   rw [show (i + 1) * sz + j - sz = i * sz + j by rw [Nat.add_mul]; omega]
   exact this
theorem sH (hW : Wf GL E A G h w) {x : AV} {v : Value} (hx : Rep E A G w x v) {l : List AV} (hl : ptrCells h x = some l) :
  ∃ b o, v = .pointer (some ⟨b, o, none⟩) /\ ∀ i y, l[i]? = some y -> ∃ u, w.cell? ⟨b, o + i, none⟩ = some u /\ u.oneCell' = true /\ Rep E A G w y u := by
 cases x <;> simp only [ptrCells, reduceCtorEq] at hl
 case pel l' =>
  cases hl
  simp only [Rep] at hx
  obtain ⟨b, o, rfl, hr⟩ := hx
  refine ⟨b, o, rfl, fun i y hy => ?_⟩
  obtain ⟨u, h1, _, h3, h4⟩ := hr.get hy
  exact ⟨u, h1, h3, h4⟩
 case ref k off =>
  split at hl
  ·rename_i T l' ho
   cases hl
   simp only [Rep] at hx
   obtain ⟨hk, rfl⟩ := hx
   obtain ⟨cs, h1, h9, h2, _⟩ := hW.o k _ ho
   refine ⟨E.blk k, off, rfl, fun i y hy => ?_⟩
   rw [List.getElem?_drop] at hy
   obtain ⟨u, hu, hr⟩ := h2.get hy
   refine ⟨u, ?_, h9 u (List.mem_of_getElem? hu), hr⟩
   rw [cell_of_row w _ _ cs T (0, 0) h1]
   simpa using hu
  ·cases hl
 case eref k i off =>
  split at hl
  ·rename_i T sz l' ho
   split at hl
   ·rename_i z hz
    cases hl
    simp only [Rep] at hx
    obtain ⟨hk, rfl⟩ := hx
    obtain ⟨cs, h1, h9, h5, h6, h7, h8, h2, _⟩ := hW.o k _ ho
    refine ⟨E.blk k, i * E.wid k + off, rfl, fun j y hy => ?_⟩
    rw [List.getElem?_drop] at hy
    have hf := fD h8 hz hy
    obtain ⟨u, hu, hr⟩ := h2.get hf
    rw [List.getElem?_take] at hu
    split at hu
    ·refine ⟨u, ?_, h9 u (List.mem_of_getElem? hu), hr⟩
     rw [cell_of_row w _ _ cs T (0, 0) h1, h5, Nat.add_assoc]
     simpa using hu
    ·cases hu
   ·cases hl
  ·cases hl
theorem sY {b o : Nat} {l : List AV} (hr : ∀ i y, l[i]? = some y -> ∃ u, w.cell? ⟨b, o + i, none⟩ = some u /\ u.oneCell' = true /\ Rep E A G w y u) {t : TypeId} {agg : Bool} {n : Nat}
  (ha : tyAgg P t = some agg) (hn : tySize P t = some n) {x : AV} (hx : loadA agg n l = some x) : ∃ v, (loadVar t ⟨b, o, none⟩).run P w = .ok v w /\ Rep E A G w x v /\ (agg = false -> v.oneCell' = true) := by
 cases agg with
 | true =>
  simp only [loadA] at hx
  split at hx
  ·rename_i hb
   cases hx
   have hb := Nat.le_of_ble_eq_true hb
   have hex : ∃ us : List Value, us.length = n /\ ∀ i u, us[i]? = some u -> w.cell? ⟨b, o + i, none⟩ = some u /\ u.oneCell' = true /\ ∀ y, l[i]? = some y -> Rep E A G w y u := by
    refine ⟨(List.range n).map fun i => (w.cell? ⟨b, o + i, none⟩).getD undef, by simp, fun i u hu => ?_⟩
    have hi : i < n := by
     have := (List.getElem?_eq_some_iff.1 hu).1
     simpa using this
    obtain ⟨u', h1, h2, h3⟩ := hr i _ (List.getElem?_eq_getElem (by omega))
    simp [hi, h1] at hu
    subst hu
    exact ⟨h1, h2, fun y hy => by rw [List.getElem?_eq_getElem (by omega)] at hy; cases hy; exact h3⟩
   obtain ⟨us, hl, hu⟩ := hex
   refine ⟨.agg us.toArray, ?_, ?_, by simp⟩
   ·have := run_loadCells_list (P := P) w ⟨b, o, none⟩ us (fun j v hv => by rw [cP]; exact (hu j v hv).1)
    rw [hl] at this
    simp [loadVar, dN ha, bG hn, this]
   ·simp only [Rep]
    refine ⟨_, rfl, fun u hm => ?_, Reps.of_get (by simp [hl]; omega) fun i y u hy hu' => ?_⟩
    ·obtain ⟨i, hi⟩ := List.mem_iff_getElem?.1 hm
     exact (hu i u hi).2.1
    ·rw [List.getElem?_take] at hy
     split at hy
     ·exact (hu i u hu').2.2 y hy
     ·cases hy
  ·cases hx
 | false =>
  cases l with
  | nil => simp [loadA] at hx
  | cons y ys =>
   simp only [loadA, Option.some.injEq] at hx
   subst hx
   obtain ⟨u, h1, h2, h3⟩ := hr 0 y (by simp)
   exact ⟨u, by simp [loadVar, dN ha, run_load, show w.cell? ⟨b, o, none⟩ = some u from h1], h3, fun _ => h2⟩
theorem ok_load (hW : Wf GL E A G h w) (hρ : Opds GL E A G w τ ρ) {t : TypeId} {a : Operand} {o : Oper} (ho : o.op = .load t a) {ao : AOp} (hc : compOp P o = some ao) (hs : stepA GL ao τ h K) :
  OpOk P GL E A G w (do pure (.value (<- Instr.loadAt t (ρ a)))) K := by
 simp only [compOp, ho] at hc
 split at hc
 ·rename_i g n ha hn
  cases hc
  simp only [stepA] at hs
  split at hs
  ·rename_i l hl
   split at hs
   ·rename_i x hx
    obtain ⟨b, off, hv, hr⟩ := sH hW (hρ a) hl
    obtain ⟨v, h1, h2, _⟩ := sY hr ha hn hx
    refine OpOk.quiet hW (v := v) ?_ h2 hs
    simp [Instr.loadAt, hv, Instr.sureAddr, h1]
   ·exact hs.elim
  ·exact hs.elim
 ·cases hc
theorem oW {a b d : List AV} {off : Nat} (h : off + d.length <= a.length) : Rip.splice (a ++ b) off d = Rip.splice a off d ++ b := by
 simp only [Rip.splice]
 rw [List.take_append_of_le_length (by omega), List.drop_append_of_le_length h]
 simp
theorem pE {a d : List AV} {off : Nat} (h : off + d.length <= a.length) : (Rip.splice a off d).length = a.length := by
 simp only [Rip.splice, List.length_append, List.length_take, List.length_drop]
 omega
theorem lX {sz off : Nat} {x x' : AV} {d : List AV} (hx' : x'.cells = Rip.splice x.cells off d) (hd : off + d.length <= sz) : ∀ {l : List AV} {i : Nat}, (∀ y ∈ l, y.cells.length = sz) -> l[i]? = some x ->
  (l.set i x').flatMap AV.cells = Rip.splice (l.flatMap AV.cells) (i * sz + off) d
 | [], _, _, h => by simp at h
 | y :: ys, i, hl, hi => by
  have hy := hl y (by simp)
  cases i with
  | zero =>
   simp only [List.getElem?_cons_zero, Option.some.injEq] at hi
   subst hi
   simp only [List.set_cons_zero, List.flatMap_cons, Nat.zero_mul, Nat.zero_add, hx']
   rw [oW (by omega)]
  | succ i =>
   have ih := lX hx' hd (l := ys) (i := i) (fun z hz => hl z (by simp [hz])) (by simpa using hi)
   have e1 : (i + 1) * sz + off = y.cells.length + (i * sz + off) := by rw [hy, Nat.add_mul, Nat.one_mul]; omega
   rw [List.set_cons_succ, List.flatMap_cons, List.flatMap_cons, ih, Rip.splice, Rip.splice, e1, List.take_length_add_append, Nat.add_assoc y.cells.length, List.drop_length_add_append]
   simp
theorem lG {cs us : List Value} {p L : Nat} (h : p + us.length <= L) : (cs.take p ++ (us ++ cs.drop (p + us.length))).take L = (cs.take L).take p ++ (us ++ (cs.take L).drop (p + us.length)) := by
 by_cases hp : p <= cs.length
 ·rw [List.take_append, List.take_append, List.length_take, Nat.min_eq_left hp, List.take_take, List.take_take, List.take_of_length_le (by omega : us.length <= L - p), List.drop_take]
  rw [Nat.min_eq_right (by omega), Nat.min_eq_left (by omega)]
  rw [show L - p - us.length = L - (p + us.length) by omega]
 ·have h1 : cs.drop (p + us.length) = [] := List.drop_eq_nil_of_le (by omega)
  have h2 : cs.take p = cs := List.take_of_length_le (by omega)
  have h3 : cs.take L = cs := List.take_of_length_le (by omega)
  rw [h1, h2, h3, h1, h2, List.append_nil, List.take_of_length_le (by simp; omega)]
theorem ok_store (hW : Wf GL E A G h w) (hρ : Opds GL E A G w τ ρ) {t : TypeId} {a x : Operand} {o : Oper} (ho : o.op = .store t a x) {ao : AOp} (hc : compOp P o = some ao) (hs : stepA GL ao τ h K) :
  OpOk P GL E A G w (do Instr.storeAt t (ρ a) (ρ x); pure .skip) K := by
 simp only [compOp, ho] at hc
 split at hc
 ·rename_i n hn
  cases hc
  simp only [stepA] at hs
  split at hs
  ·rename_i h' hst
   have ha := hρ a
   have hx := hρ x
   generalize aeval GL τ (compOpd a) = pa at ha hst
   generalize aeval GL τ (compOpd x) = px at hx hst
   cases pa <;> simp only [storeA, reduceCtorEq] at hst
   case ref k off =>
    split at hst
    ·rename_i T l hk
     split at hst
     ·rename_i hb
      cases hst
      simp only [Bool.and_eq_true] at hb
      obtain ⟨⟨hb1, hb2⟩, hb3⟩ := hb
      have hb2 := Nat.eq_of_beq_eq_true hb2
      have hb3 := Nat.le_of_ble_eq_true hb3
      simp only [Rep] at ha
      obtain ⟨hkn, hav⟩ := ha
      obtain ⟨cs, h1, h9, h2, h3, h4⟩ := hW.o k _ hk
      have hxc := hx.cells hb1
      have hone := hx.one hb1
      have hlen := hxc.length
      have hl := h2.length
      simp only [Array.length_toList] at hlen hl
      have hrun := run_storeCells_at P (E.blk k) off T (ρ x).cells.toList 0 cs w h1 (by simp only [Array.length_toList]; omega) hone
      simp only [Nat.add_zero] at hrun
      have hg : w.grownBy (w.setRow (E.blk k) (cs.toList.take off ++ (ρ x).cells.toList ++ cs.toList.drop (off + (ρ x).cells.toList.length)).toArray) (some (E.blk k)) :=
       ⟨rfl, rfl, rfl, by simp, fun j _ hj => setRow_other w _ j _ (fun e => hj (by rw [e]))⟩
      have hX := aV hW hg (fun _ _ h => h) (fun b e => by cases e; exact ⟨h4, hW.ho k _ _ hk rfl, fun o ho => absurd ho (h3 o)⟩) (fun _ _ => .inl)
      refine ⟨.skip, undef, _, E, A, G, .v undef, _, ?_, .inr ⟨rfl, rfl⟩, E.le_refl, hX, hW.put hk rfl rfl hg h3 h4 hX ?_, by simp [Rep], hs⟩
      ·simp only [Instr.storeAt, hav, Instr.sureAddr, storeVar, Sem.run_bind, Sem.run_pure, Result.andThen_ok, bG hn]
       rw [if_neg (by omega)]
       simp [hrun]
      ·refine ⟨_, setRow_heap w _ cs _ T _ h1, fun u hu => ?_, ?_, h3, h4⟩
       ·simp only [List.append_assoc] at hu
        exact (gA hu).elim (h9 u) (hone u)
       ·have := (h2.splice hxc off).mono E.le_refl hX
        simpa only [List.append_assoc] using this
     ·cases hst
    ·cases hst
   case eref k i off =>
    split at hst
    ·rename_i T sz l hk
     simp only [Rep] at ha
     obtain ⟨hkn, hav⟩ := ha
     obtain ⟨cs, h1, h9, h5, h6, h7, h8, h2, h3, h4⟩ := hW.o k _ hk
     have hlr := h2.length
     -- what is written, once its place and shape are known
     have put : ∀ (y y' : AV), l[i]? = some y -> y'.cells = Rip.splice y.cells off px.cells -> px.solid = true -> px.cells.length = n -> off + n <= sz -> K (.v undef) (h.set k (.buf T sz (l.set i y'))) ->
       OpOk P GL E A G w (do Instr.storeAt t (ρ a) (ρ x); pure .skip) K := by
      intro y y' hy hy' hb1 hb2 hb3 hs
      have hxc := hx.cells hb1
      have hone := hx.one hb1
      have hlen := hxc.length
      simp only [Array.length_toList] at hlen
      have hil := (List.getElem?_eq_some_iff.1 hy).1
      have hin : i * sz + off + n <= l.length * sz := by
       have : (i + 1) * sz <= l.length * sz := Nat.mul_le_mul_right _ hil
       rw [Nat.add_mul, Nat.one_mul] at this
       omega
      have hin2 : l.length * sz <= cs.size := by rw [h7]; exact Nat.mul_le_mul_right _ h6
      have hrun := run_storeCells_at P (E.blk k) (i * sz + off) T (ρ x).cells.toList 0 cs w h1 (by simp only [Array.length_toList]; omega) hone
      simp only [Nat.add_zero] at hrun
      have hg : w.grownBy (w.setRow (E.blk k) (cs.toList.take (i * sz + off) ++ (ρ x).cells.toList ++ cs.toList.drop (i * sz + off + (ρ x).cells.toList.length)).toArray) (some (E.blk k)) :=
       ⟨rfl, rfl, rfl, by simp, fun j _ hj => setRow_other w _ j _ (fun e => hj (by rw [e]))⟩
      have hX := aV hW hg (fun _ _ h => h) (fun b e => by cases e; exact ⟨h4, hW.ho k _ _ hk rfl, fun o ho => absurd ho (h3 o)⟩) (fun _ _ => .inl)
      refine ⟨.skip, undef, _, E, A, G, .v undef, _, ?_, .inr ⟨rfl, rfl⟩, E.le_refl, hX, hW.put hk rfl rfl hg h3 h4 hX ?_, by simp [Rep], hs⟩
      ·simp only [Instr.storeAt, hav, Instr.sureAddr, storeVar, Sem.run_bind, Sem.run_pure, Result.andThen_ok, bG hn, h5]
       rw [if_neg (by omega)]
       simp [hrun]
      ·have hcl : ∀ z ∈ l.set i y', z.cells.length = sz := fun z hz => by
        rcases List.mem_or_eq_of_mem_set hz with hz | rfl
        ·exact h8 z hz
        ·have hyl := h8 y (List.mem_of_getElem? hy)
         rw [hy', pE (by omega), hyl]
       refine ⟨_, setRow_heap w _ cs _ T _ h1, fun u hu => ?_, h5, by simpa using h6, ?_, hcl, ?_, h3, h4⟩
       ·simp only [List.append_assoc] at hu
        exact (gA hu).elim (h9 u) (hone u)
       ·rw [<- h7]
        simp only [List.size_toArray, List.length_append, List.length_take, List.length_drop, Array.length_toList]
        omega
       ·have hsp := (h2.splice hxc (i * sz + off)).mono E.le_refl hX
        rw [lX hy' (by omega) h8 hy, List.length_set]
        simp only [List.append_assoc] at hsp ⊢
        rw [lG (by simp only [Array.length_toList]; omega)]
        exact hsp
     split at hst
     ·rename_i y hcl
      split at hst
      ·rename_i cl hag
       have hag : y = .agg cl := by cases y <;> simp [aggOf] at hag; rw [hag]
       subst hag
       split at hst
       ·rename_i hb
        cases hst
        simp only [Bool.and_eq_true] at hb
        obtain ⟨⟨hb1, hb2⟩, hb3⟩ := hb
        have hb2 := Nat.eq_of_beq_eq_true hb2
        have hb3 := Nat.le_of_ble_eq_true hb3
        have hyl := h8 _ (List.mem_of_getElem? hcl)
        simp only [AV.cells] at hyl
        exact put _ _ hcl rfl hb1 hb2 (by omega) hs
       ·cases hst
      ·split at hst
       ·rename_i hb
        cases hst
        simp only [Bool.and_eq_true] at hb
        obtain ⟨⟨⟨⟨hb1, hb2⟩, hb3⟩, hb4⟩, hb5⟩ := hb
        have hb2 := Nat.eq_of_beq_eq_true hb2
        have hb3 := Nat.eq_of_beq_eq_true hb3
        have hb4 := Nat.eq_of_beq_eq_true hb4
        have hb5 := Nat.eq_of_beq_eq_true hb5
        subst hb4
        have hyl := h8 _ (List.mem_of_getElem? hcl)
        refine put y px hcl ?_ hb1 (by omega) (by omega) hs
        simp only [Rip.splice, List.take_zero, List.nil_append, Nat.zero_add]
        rw [List.drop_eq_nil_of_le (by omega), List.append_nil]
       ·cases hst
     ·cases hst
    ·cases hst
  ·exact hs.elim
 ·cases hc
end
theorem kT (a b : List UInt8) : ((ByteArray.mk a.toArray) == (ByteArray.mk b.toArray)) = (a == b) := by
 have h : ((ByteArray.mk a.toArray) == (ByteArray.mk b.toArray)) = (a.toArray == b.toArray) := rfl
 rw [h, Bool.eq_iff_iff, beq_iff_eq, beq_iff_eq]
 constructor
 ·intro e; exact Array.toList_inj.2 e |> fun e => by simpa using e
 ·intro e; rw [e]
section
variable {P : Program} {GL : Glob} {E : Env} {A : Nat -> Nat -> Prop} {G : Gd} {h : List AObj} {w : World} {τ : List (Nat × AV)} {ρ : Operand -> Value} {K : AV -> List AObj -> Prop}
theorem vZ {op : BinOp} {t : TypeId} {k : IntKind} {a b : Int} {v : Value} (h : intBin op k a b = some v) : (binOp op t (.int k a) (.int k b)).run P w = .ok v w := by
 cases op <;> simp only [intBin, Option.some.injEq, reduceCtorEq] at h <;> (try (subst h; simp [binOp, Op.intArith, Op.intCmp, Op.intBits, bitAnd, bitOr, bitXor]; done))
 all_goals
  split at h
  ·cases h
  ·rename_i hb
   cases h
   simp [binOp, Op.intDiv, hb]
theorem qS {op : BinOp} {t : TypeId} {k yk : IntKind} {a b : Int} {v : Value} (h : shiftBin op k a b = some v) : (binOp op t (.int k a) (.int yk b)).run P w = .ok v w /\ ∀ x y, (eqGuard op t x y (.int k a) (.int yk b)).run P w = .ok () w := by
 cases op <;> simp only [shiftBin, reduceCtorEq] at h
 all_goals
  split at h
  ·cases h
  ·rename_i hb
   cases h
   exact ⟨by simp [binOp, Op.shift, hb], fun x y => by simp [eqGuard]⟩
theorem uY {op : BinOp} {t : TypeId} {a b : List UInt8} {x : AV} (h : strBin op a b = some x) : ∃ v, (binOp op t (.string ⟨a.toArray⟩) (.string ⟨b.toArray⟩)).run P w = .ok v w /\ Rep E A G w x v := by
 by_cases ha : op = .add
 ·subst ha
  simp only [strBin] at h
  split at h
  ·rename_i hb
   have hb := Nat.le_of_ble_eq_true hb
   cases h
   have e : (ByteArray.mk a.toArray) ++ (ByteArray.mk b.toArray) = ⟨(a ++ b).toArray⟩ := by
    apply ByteArray.ext
    rw [ByteArray.data_append]
    simp
   have n : ¬ ((((ByteArray.mk a.toArray).size + (ByteArray.mk b.toArray).size : Nat) : Int) > IntKind.i64.max) := by
    show ¬ (((a.toArray.size + b.toArray.size : Nat) : Int) > IntKind.i64.max)
    have : IntKind.i64.max = 9223372036854775807 := rfl
    simp; omega
   exact ⟨.string ⟨(a ++ b).toArray⟩, by rw [binOp_string_add, Op.stringOp]; simp only [if_neg n, e]; rfl, by simp [Rep]⟩
  ·cases h
 ·cases op <;> simp only [strBin, Option.some.injEq, reduceCtorEq] at h <;> first | exact absurd rfl ha | (subst h; exact ⟨_, by simp [binOp, Op.stringOp]; rfl, by simp [Rep]⟩)
theorem jQ {t : TypeId} {q : FK} (h : fkOf P t = some q) : P.underlying t = some (match q with | .int k => .int k | .bool => .bool | .str => .string) := by
 unfold fkOf at h
 split at h <;> first | (rename_i hu; cases h; exact hu) | cases h
theorem eqAV_run {t : TypeId} {q : FK} {x y : AV} {u v : Value} {d : Nat} {r : Bool} (hx : Rep E A G w x u) (hy : Rep E A G w y v) (he : eqAV q x y = some r) (ht : fkOf P t = some q) :
  (Op.equalIn (d + 1) t u v).run P w = .ok r w := by
 have ht := jQ ht
 unfold eqAV at he
 split at he
 ·have hx := cY hx
  have hy := cY hy
  subst hx; subst hy
  split at he
  ·rename_i hkk
   cases he
   obtain ⟨rfl, rfl⟩ := hkk
   simp [Op.equalIn, run_underlying ht]
  ·cases he
 ·cases he
  simp only [Rep] at hx hy
  subst hx; subst hy
  simp [Op.equalIn, run_underlying ht]
 ·cases he
  simp only [Rep] at hx hy
  subst hx; subst hy
  simp [Op.equalIn, run_underlying ht, kT]
 ·cases he
theorem uJ {t : TypeId} {q : FK} (h : fkOf P t = some q) : tyAgg P t = some false := by
 have h := jQ h
 unfold tyAgg
 rw [h]
 cases q <;> rfl
theorem jX {d : Nat} {xs ys : Array Value} : ∀ (fs : List Field) (i : Nat) (qs : List FK) (la lb : List AV) (r : Bool), plainFields P i fs = some qs ->
  Reps E A G w la (xs.toList.drop i) -> Reps E A G w lb (ys.toList.drop i) -> eqAVs qs la lb = some r -> (Op.eqFields (d + 1) xs ys fs).run P w = .ok r w
 | [], i, qs, la, lb, r, hp, ha, hb, he => by
  simp only [plainFields, Option.some.injEq] at hp
  subst hp
  cases la <;> cases lb <;> simp [eqAVs] at he
  subst he
  simp [Op.eqFields]
 | f :: fs, i, qs, la, lb, r, hp, ha, hb, he => by
  simp only [plainFields] at hp
  split at hp
  ·rename_i q qs' h1 h2 h3
   cases hp
   simp only [Bool.and_eq_true] at h1
   obtain ⟨hn, ho⟩ := h1
   have ho := Nat.eq_of_beq_eq_true ho
   cases la with
   | nil => cases lb <;> simp [eqAVs] at he
   | cons a la =>
    cases lb with
    | nil => simp [eqAVs] at he
    | cons b lb =>
     simp only [eqAVs] at he
     split at he
     ·rename_i p p' e1 e2
      cases he
      simp only [Reps] at ha hb
      obtain ⟨u, us, hu, hua, hus⟩ := ha
      obtain ⟨v, vs, hv, hva, hvs⟩ := hb
      have hd : ∀ {zs : List Value} {z : Value} {zr : List Value}, zs.drop i = z :: zr -> zs[i]? = some z /\ zs.drop (i + 1) = zr := by
       intro zs z zr h
       refine ⟨?_, ?_⟩
       ·have := congrArg (·[0]?) h
        simpa using this
       ·have := congrArg (List.drop 1) h
        simpa [List.drop_drop] using this
      obtain ⟨hu1, hu2⟩ := hd hu
      obtain ⟨hv1, hv2⟩ := hd hv
      have ih := jX (d := d) (xs := xs) (ys := ys) fs (i + 1) qs' la lb p' h3 (by rw [hu2]; exact hus) (by rw [hv2]; exact hvs) e2
      have hpa : (part f.type xs f.offset).run P w = .ok u w := by
       have : xs[f.offset]? = some u := by rw [ho]; simpa using hu1
       simp [part, dN (uJ h2), this]
      have hpb : (part f.type ys f.offset).run P w = .ok v w := by
       have : ys[f.offset]? = some v := by rw [ho]; simpa using hv1
       simp [part, dN (uJ h2), this]
      have heq := eqAV_run (d := d) hua hva e1 h2
      simp only [Op.eqFields, Sem.run_ite, Sem.run_bind, hpa, hpb, heq, Result.andThen_ok]
      rw [if_pos (by simpa using hn)]
      cases p
      ·simp
      ·simp [ih]
     ·cases he
  ·cases hp
theorem gE {t : TypeId} {qs : List FK} {a b : List AV} {xs ys : Array Value} {r : Bool} {d : Nat} (hp : plainStruct P t = some qs) (ha : Reps E A G w a xs.toList) (hb : Reps E A G w b ys.toList)
  (he : eqAVs qs a b = some r) : (Op.equalIn (d + 2) t (.agg xs) (.agg ys)).run P w = .ok r w /\ P.eqGuardType P.depth t = false := by
 unfold plainStruct at hp
 split at hp
 ·rename_i fs hu
  split at hp
  ·rename_i hb'
   simp only [Bool.and_eq_true, Bool.not_eq_true'] at hb'
   have hf : P.fieldsOf t = fs := by simp [Program.fieldsOf, hu]
   refine ⟨?_, hb'.2⟩
   rw [run_equalIn_struct w (d + 1) t xs ys (by rw [hf]; exact hu) hb'.1, hf]
   exact jX fs.toList 0 qs a b r hp (by simpa using ha) (by simpa using hb) he
  ·cases hp
 ·cases hp
theorem qX {op : BinOp} {t : TypeId} {y : Operand} {q : EqK} (hq : binKind P op t y = some q) : (∀ l, q = .st l -> plainStruct P t = some l) /\ (q = .nil -> (∃ v, y = .const v) /\ ∃ ms, P.underlying t = some (.interface ms)) /\ (q = .bl -> P.underlying t = some .bool) /\ (q = .sl -> ∃ e, P.underlying t = some (.slice e)) := by
 have h0 : q = .no -> (∀ l, q = .st l -> plainStruct P t = some l) /\ (q = .nil -> (∃ v, y = .const v) /\ ∃ ms, P.underlying t = some (.interface ms)) /\ (q = .bl -> P.underlying t = some .bool) /\ (q = .sl -> ∃ e, P.underlying t = some (.slice e)) := fun e => by subst e; simp
 have h1 : q = eqKind P t y -> (∀ l, q = .st l -> plainStruct P t = some l) /\ (q = .nil -> (∃ v, y = .const v) /\ ∃ ms, P.underlying t = some (.interface ms)) /\ (q = .bl -> P.underlying t = some .bool) /\ (q = .sl -> ∃ e, P.underlying t = some (.slice e)) := by
  intro e
  unfold eqKind at e
  split at e
  ·split at e
   ·rename_i l hl
    subst e
    exact ⟨fun l' hl' => (by cases hl'; exact hl), fun hn => (by cases hn), fun hn => (by cases hn), fun hn => (by cases hn)⟩
   ·exact h0 e
  ·rename_i ms hu
   split at e
   ·rename_i hcst
    refine ⟨fun l hl => ?_, fun _ => ⟨?_, ms, hu⟩, fun hn => (by rw [e] at hn; cases hn), fun hn => (by rw [e] at hn; cases hn)⟩
    ·rw [e] at hl; cases hl
    ·cases y with
     | const v => exact ⟨v, rfl⟩
     | _ => simp [isConst] at hcst
   ·exact h0 e
  ·rename_i hu
   subst e
   exact ⟨fun l hl => (by cases hl), fun hn => (by cases hn), fun _ => hu, fun hn => (by cases hn)⟩
  ·rename_i e' hu
   subst e
   exact ⟨fun l hl => (by cases hl), fun hn => (by cases hn), fun hn => (by cases hn), fun _ => ⟨e', hu⟩⟩
  ·subst e
   exact ⟨fun l hl => (by cases hl), fun hn => (by cases hn), fun hn => (by cases hn), fun hn => (by cases hn)⟩
  ·split at e
   ·subst e
    exact ⟨fun l hl => (by cases hl), fun hn => (by cases hn), fun hn => (by cases hn), fun hn => (by cases hn)⟩
   ·exact h0 e
  ·exact h0 e
 cases op <;> simp only [binKind, Option.some.injEq, reduceCtorEq] at hq <;> first | exact h0 hq.symm | exact h1 hq.symm | (subst hq; simp)
theorem pB {op : BinOp} {t : TypeId} {y : Operand} {q : EqK} (hq : binKind P op t y = some q) : (q = .fnc -> ∃ a b c, P.underlying t = some (.func a b c)) /\ (q = .ptr -> ∃ te i, P.underlying t = some (.pointer te) /\ P.info? te = some i) := by
 have h1 : q = eqKind P t y -> (q = .fnc -> ∃ a b c, P.underlying t = some (.func a b c)) /\ (q = .ptr -> ∃ te i, P.underlying t = some (.pointer te) /\ P.info? te = some i) := by
  intro e
  unfold eqKind at e
  refine ⟨fun hn => ?_, fun hn => ?_⟩ <;> subst hn <;> (repeat' split at e) <;> first | (cases e; done) | (rename_i h; exact ⟨_, _, _, h⟩) | (rename_i h _ _ k; exact ⟨_, _, h, k⟩)
 cases op <;> simp only [binKind, Option.some.injEq, reduceCtorEq] at hq <;> first | exact h1 hq.symm | (subst hq; simp)
theorem nK {d : Nat} {t : TypeId} {a b c} {f : Fn} {x y : Array Value} (hu : P.underlying t = some (.func a b c)) : (Op.equalIn (d + 1) t (.func f x y) .nilFunc).run P w = .ok false w := by
 simp [Op.equalIn, run_underlying hu]
theorem nN {d : Nat} {t : TypeId} {a b c} (hu : P.underlying t = some (.func a b c)) : (Op.equalIn (d + 1) t .nilFunc .nilFunc).run P w = .ok true w := by
 simp [Op.equalIn, run_underlying hu]
theorem fV {d : Nat} {t te : TypeId} {p : Option Addr} (hu : P.underlying t = some (.pointer te)) : (Op.equalIn (d + 1) t (.pointer p) (.pointer none)).run P w = .ok p.isNone w := by
 cases p <;> simp [Op.equalIn, run_underlying hu]
theorem kC {d : Nat} {t : TypeId} {a b : Bool} (hu : P.underlying t = some .bool) : (Op.equalIn (d + 1) t (.bool a) (.bool b)).run P w = .ok (a == b) w := by
 simp [Op.equalIn, run_underlying hu]
theorem oI {d : Nat} {t : TypeId} {ms : Array (String × TypeId)} (hu : P.underlying t = some (.interface ms)) : (Op.equalIn (d + 1) t .nilIface .nilIface).run P w = .ok true w := by
 simp [Op.equalIn, run_underlying hu]
theorem mW {d : Nat} {t u : TypeId} {x : Value} {ms : Array (String × TypeId)} (hu : P.underlying t = some (.interface ms)) : (Op.equalIn (d + 1) t (.iface u x) .nilIface).run P w = .ok false w := by
 simp [Op.equalIn, run_underlying hu]
theorem mX {d : Nat} {t e : TypeId} {a : Addr} {n c m k : Nat} (hu : P.underlying t = some (.slice e)) : (Op.equalIn (d + 1) t (.slice (some a) n c) (.slice none m k)).run P w = .ok false w := by
 simp [Op.equalIn, run_underlying hu]
theorem nT {d : Nat} {t e : TypeId} {p : Option Addr} {n c m k : Nat} (hu : P.underlying t = some (.slice e)) : (Op.equalIn (d + 1) t (.slice p n c) (.slice none m k)).run P w = .ok p.isNone w := by
 cases p <;> simp [Op.equalIn, run_underlying hu]
theorem ok_bin (hW : Wf GL E A G h w) (hρ : Opds GL E A G w τ ρ) {op : BinOp} {t yt : TypeId} {x y : Operand} {o : Oper} (ho : o.op = .binOp op t x y yt) {ao : AOp} (hc : compOp P o = some ao) (hs : stepA GL ao τ h K) :
  OpOk P GL E A G w (do pure (.value (<- (do eqGuard op t x y (ρ x) (ρ y); binOp op t (ρ x) (ρ y))))) K := by
 have hx := hρ x
 have hy := hρ y
 have key : ∃ q, binKind P op t y = some q /\ (match binA op q (aeval GL τ (compOpd x)) (aeval GL τ (compOpd y)) with
   | some r => K r h
   | none => False) := by
  simp only [compOp, ho] at hc
  split at hc
  ·rename_i q hq
   cases hc
   exact ⟨q, hq, hs⟩
  ·cases hc
 obtain ⟨q, hq, hk⟩ := key
 obtain ⟨hq1, hq2, hq3, hq4⟩ := qX hq
 obtain ⟨hq5, hq6⟩ := pB hq
 split at hk
 ·rename_i r hr
  have fin : ∃ v, (do eqGuard op t x y (ρ x) (ρ y); binOp op t (ρ x) (ρ y) : Sem Value).run P w = .ok v w /\ Rep E A G w r v := by
   unfold binA at hr
   split at hr
   ·rename_i k a k' b hxa hyb
    rw [hxa] at hx
    rw [hyb] at hy
    have hx := cY hx
    have hy := cY hy
    split at hr
    ·cases hv : shiftBin op k a b with
     | none => simp [hv] at hr
     | some v =>
      simp [hv] at hr
      subst hr
      obtain ⟨v1, v2⟩ := qS (P := P) (w := w) (t := t) (yk := k') hv
      refine ⟨v, ?_, by simp [Rep]⟩
      rw [hx, hy]
      simp only [Sem.run_bind, v2, Result.andThen_ok, v1]
    split at hr
    ·rename_i hkk
     subst hkk
     cases hv : intBin op k a b with
     | none => simp [hv] at hr
     | some v =>
      simp [hv] at hr
      subst hr
      refine ⟨v, ?_, by simp [Rep]⟩
      rw [hx, hy]
      have : (eqGuard op t x y (.int k a) (.int k b)).run P w = .ok () w := by cases op <;> simp [eqGuard]
      simp only [Sem.run_bind, this, Result.andThen_ok, vZ hv]
    ·cases hr
   ·rename_i a b hxa hyb
    rw [hxa] at hx
    rw [hyb] at hy
    simp only [Rep] at hx hy
    obtain ⟨v, h1, h2⟩ := uY (P := P) (E := E) (A := A) (G := G) (w := w) (t := t) hr
    refine ⟨v, ?_, h2⟩
    rw [hx, hy]
    have : (eqGuard op t x y (.string ⟨a.toArray⟩) (.string ⟨b.toArray⟩)).run P w = .ok () w := by cases op <;> simp [eqGuard]
    simp only [Sem.run_bind, this, Result.andThen_ok, h1]
   ·rename_i a b hxa hyb
    rw [hxa] at hx
    rw [hyb] at hy
    simp only [Rep] at hx hy
    obtain ⟨xs, hx, _, hra⟩ := hx
    obtain ⟨ys, hy, _, hrb⟩ := hy
    rw [hx, hy]
    split at hr
    ·rename_i l
     cases he : eqAVs l a b with
     | none => simp [he] at hr
     | some r' =>
      simp [he] at hr
      subst hr
      obtain ⟨h1, h2⟩ := gE (d := 9998) (hq1 _ rfl) hra hrb he
      exact ⟨.bool r', by simp [run_eqGuard_agg w _ t x y xs ys h2, run_eql_struct, h1], by simp [Rep]⟩
    ·rename_i l
     cases he : eqAVs l a b with
     | none => simp [he] at hr
     | some r' =>
      simp [he] at hr
      subst hr
      obtain ⟨h1, h2⟩ := gE (d := 9998) (hq1 _ rfl) hra hrb he
      exact ⟨.bool (!r'), by simp [run_eqGuard_agg w _ t x y xs ys h2, run_neq_struct, h1], by simp [Rep]⟩
    ·cases hr
   ·rename_i a b hxa hyb
    rw [hxa] at hx
    rw [hyb] at hy
    simp only [Rep] at hx hy
    rw [hx, hy]
    split at hr
    ·have hu := hq3 rfl
     cases hr
     exact ⟨.bool (a == b), by simp only [eqGuard, binOp, Op.equal, Op.maxDepth]; simp [kC (d := 9999) hu], by simp [Rep]⟩
    ·have hu := hq3 rfl
     cases hr
     exact ⟨.bool (!(a == b)), by simp only [eqGuard, binOp, Op.equal, Op.maxDepth]; simp [kC (d := 9999) hu], by simp [Rep]⟩
    ·cases hr
   ·rename_i hxa hyb
    rw [hxa] at hx
    rw [hyb] at hy
    simp only [Rep] at hx hy
    rw [hx, hy]
    split at hr
    ·obtain ⟨⟨v, rfl⟩, ms, hu⟩ := hq2 rfl
     cases hr
     exact ⟨.bool true, by simp only [eqGuard, binOp, Op.equal, Op.maxDepth]; simp [oI (d := 9999) hu], by simp [Rep]⟩
    ·obtain ⟨⟨v, rfl⟩, ms, hu⟩ := hq2 rfl
     cases hr
     exact ⟨.bool false, by simp only [eqGuard, binOp, Op.equal, Op.maxDepth]; simp [oI (d := 9999) hu], by simp [Rep]⟩
    ·cases hr
   ·rename_i t' x' hxa hyb
    rw [hxa] at hx
    rw [hyb] at hy
    simp only [Rep] at hx hy
    obtain ⟨u, hx, _⟩ := hx
    rw [hx, hy]
    split at hr
    ·obtain ⟨⟨v, rfl⟩, ms, hu⟩ := hq2 rfl
     cases hr
     exact ⟨.bool false, by simp only [eqGuard, binOp, Op.equal, Op.maxDepth]; simp [mW (d := 9999) hu], by simp [Rep]⟩
    ·obtain ⟨⟨v, rfl⟩, ms, hu⟩ := hq2 rfl
     cases hr
     exact ⟨.bool true, by simp only [eqGuard, binOp, Op.equal, Op.maxDepth]; simp [mW (d := 9999) hu], by simp [Rep]⟩
    ·cases hr
   ·rename_i hxa hyb
    rw [hxa] at hx
    rw [hyb] at hy
    simp only [Rep] at hx hy
    obtain ⟨p, n, c, hx, _, _, _, hp⟩ := hx
    rcases hp with hp | ⟨b, o, rfl, _⟩
    ·cases hp
    rw [hx, hy]
    split at hr
    ·obtain ⟨e, hu⟩ := hq4 rfl
     cases hr
     exact ⟨.bool false, by simp only [eqGuard, binOp, Op.equal, Op.maxDepth]; simp [mX (d := 9999) hu], by simp [Rep]⟩
    ·obtain ⟨e, hu⟩ := hq4 rfl
     cases hr
     exact ⟨.bool true, by simp only [eqGuard, binOp, Op.equal, Op.maxDepth]; simp [mX (d := 9999) hu], by simp [Rep]⟩
    ·cases hr
   ·rename_i p _ _ _ _ hxa hyb
    rw [hxa] at hx
    rw [hyb] at hy
    simp only [Rep] at hx hy
    rw [hx, hy]
    split at hr
    ·obtain ⟨e, hu⟩ := hq4 rfl
     cases hr
     exact ⟨.bool p.isNone, by simp only [eqGuard, binOp, Op.equal, Op.maxDepth]; simp [nT (d := 9999) hu], by simp [Rep]⟩
    ·obtain ⟨e, hu⟩ := hq4 rfl
     cases hr
     exact ⟨.bool p.isSome, by simp only [eqGuard, binOp, Op.equal, Op.maxDepth]; cases p <;> simp [nT (d := 9999) hu], by simp [Rep]⟩
    ·cases hr
   ·rename_i hxa hyb
    rw [hxa] at hx
    rw [hyb] at hy
    simp only [Rep] at hx hy
    obtain ⟨xa, xb, hx, _⟩ := hx
    rw [hx, hy]
    split at hr
    ·obtain ⟨a, b, c, hu⟩ := hq5 rfl
     cases hr
     exact ⟨.bool false, by simp only [eqGuard, binOp, Op.equal, Op.maxDepth]; simp [nK (d := 9999) hu], by simp [Rep]⟩
    ·obtain ⟨a, b, c, hu⟩ := hq5 rfl
     cases hr
     exact ⟨.bool true, by simp only [eqGuard, binOp, Op.equal, Op.maxDepth]; simp [nK (d := 9999) hu], by simp [Rep]⟩
    ·cases hr
   ·rename_i hxa hyb
    rw [hxa] at hx
    rw [hyb] at hy
    simp only [Rep] at hx hy
    rw [hx, hy]
    split at hr
    ·obtain ⟨a, b, c, hu⟩ := hq5 rfl
     cases hr
     exact ⟨.bool true, by simp only [eqGuard, binOp, Op.equal, Op.maxDepth]; simp [nN (d := 9999) hu], by simp [Rep]⟩
    ·obtain ⟨a, b, c, hu⟩ := hq5 rfl
     cases hr
     exact ⟨.bool false, by simp only [eqGuard, binOp, Op.equal, Op.maxDepth]; simp [nN (d := 9999) hu], by simp [Rep]⟩
    ·cases hr
   ·rename_i hxa hyb
    rw [hxa] at hx
    rw [hyb] at hy
    simp only [Rep] at hx hy
    rw [hx, hy]
    split at hr
    ·obtain ⟨te, i, hu, hi⟩ := hq6 rfl
     cases hr
     exact ⟨.bool true, by simp only [eqGuard, binOp, Op.equal, Op.maxDepth]; simp [fV (d := 9999) hu], by simp [Rep]⟩
    ·obtain ⟨te, i, hu, hi⟩ := hq6 rfl
     cases hr
     exact ⟨.bool false, by simp only [eqGuard, binOp, Op.equal, Op.maxDepth]; simp [fV (d := 9999) hu], by simp [Rep]⟩
    ·cases hr
   ·rename_i hxa hyb
    rw [hxa] at hx
    rw [hyb] at hy
    simp only [Rep] at hx hy
    obtain ⟨_, hx⟩ := hx
    rw [hx, hy]
    split at hr
    ·obtain ⟨te, i, hu, hi⟩ := hq6 rfl
     cases hr
     exact ⟨.bool false, by simp only [eqGuard, binOp, Op.equal, Op.maxDepth]; simp [fV (d := 9999) hu], by simp [Rep]⟩
    ·obtain ⟨te, i, hu, hi⟩ := hq6 rfl
     cases hr
     exact ⟨.bool true, by simp only [eqGuard, binOp, Op.equal, Op.maxDepth]; simp [fV (d := 9999) hu], by simp [Rep]⟩
    ·cases hr
   ·rename_i k o k' o' hxa hyb
    rw [hxa] at hx
    rw [hyb] at hy
    simp only [Rep] at hx hy
    obtain ⟨_, hx⟩ := hx
    obtain ⟨_, hy⟩ := hy
    rw [hx, hy]
    split at hr
    ·rename_i hb
     simp only [Bool.and_eq_true] at hb
     obtain rfl := Nat.eq_of_beq_eq_true hb.1
     obtain rfl := Nat.eq_of_beq_eq_true hb.2
     obtain ⟨te, i, hu, hi⟩ := hq6 rfl
     cases hr
     exact ⟨.bool true, by simp only [eqGuard]; simp [run_eql_ptr_same w _ hu hi], by simp [Rep]⟩
    ·rename_i hb
     simp only [Bool.and_eq_true] at hb
     obtain rfl := Nat.eq_of_beq_eq_true hb.1
     obtain rfl := Nat.eq_of_beq_eq_true hb.2
     obtain ⟨te, i, hu, hi⟩ := hq6 rfl
     cases hr
     exact ⟨.bool false, by simp only [eqGuard]; simp [Go.Lib.run_neq_ptr_same w _ hu hi], by simp [Rep]⟩
    ·cases hr
   ·cases hr
  obtain ⟨v, h1, h2⟩ := fin
  exact OpOk.quiet hW h1 h2 hk
 ·exact hk.elim
theorem ok_un (hW : Wf GL E A G h w) (hρ : Opds GL E A G w τ ρ) {op : UnOp} {x : Operand} (hs : stepA GL (.un op (compOpd x)) τ h K) : OpOk P GL E A G w (do pure (.value (<- Op.unary op (ρ x)))) K := by
 have hx := hρ x
 simp only [stepA] at hs
 split at hs
 ·rename_i r hr
  unfold unA at hr
  split at hr
  ·rename_i b hxa
   rw [hxa] at hx
   simp only [Rep] at hx
   cases hr
   exact OpOk.quiet hW (v := .bool (!b)) (by simp [Op.unary, hx]) (by simp [Rep]) hs
  ·rename_i k n hxa
   rw [hxa] at hx
   simp only [Rep] at hx
   cases hr
   exact OpOk.quiet hW (v := .int k (k.wrap (0 - n))) (by simp [Op.unary, Op.intArith, hx]) (by simp [Rep]) hs
  ·cases hr
 ·exact hs.elim
theorem vS (hW : Wf GL E A G h w) (hρ : Opds GL E A G w τ ρ) {t : TypeId} {x : Operand} {o : Oper} (ho : o.op = .makeInterface t x) {ao : AOp} (hc : compOp P o = some ao) (hs : stepA GL ao τ h K) :
  OpOk P GL E A G w (do pure (.value (<- Instr.makeInterface t (ρ x)))) K := by
 simp only [compOp, ho] at hc
 split at hc
 ·cases hc
 ·rename_i d hn hd
  cases hc
  have : P.concrete t = true := by
   unfold Program.concrete
   rw [hd]
   cases d <;> first | rfl | exact absurd rfl (hn _)
  exact OpOk.quiet hW (run_makeInterface w t (ρ x) this) (by simp only [Rep]; exact ⟨_, rfl, hρ x⟩) hs
 ·cases hc
theorem fO (hρ : Opds GL E A G w τ ρ) : ∀ l : List Operand, Reps E A G w ((l.map compOpd).map (aeval GL τ)) (l.map ρ)
 | [] => by simp [Reps]
 | x :: xs => by simp only [List.map_cons, Reps]; exact ⟨_, _, rfl, hρ x, fO hρ xs⟩
theorem ok_mkFunc (hW : Wf GL E A G h w) (hρ : Opds GL E A G w τ ρ) {f : FuncId} {a b : Array Operand} (hs : stepA GL (.mkFunc f (a.toList.map compOpd) (b.toList.map compOpd)) τ h K) :
  OpOk P GL E A G w (do pure (.value (<- Instr.makeFunc (.func f) (a.map ρ) (b.map ρ)))) K := by
 refine OpOk.quiet hW (v := .func (.func f) (a.map ρ) (b.map ρ)) (by simp [Instr.makeFunc]) ?_ hs
 simp only [Rep]
 exact ⟨_, _, rfl, by simpa using fO hρ a.toList, by simpa using fO hρ b.toList⟩
theorem tU (hW : Wf GL E A G h w) (hρ : Opds GL E A G w τ ρ) {x : Operand} {o : Oper} (ho : o.op = .nilCheck x) (hs : stepA GL (.nilCheck (compOpd x)) τ h K) : OpOk P GL E A G w (execOp ρ o) K := by
 have hx := hρ x
 have key : ∀ a, ρ x = .pointer (some a) -> (execOp ρ o).run P w = .ok (.value (ρ x)) w := fun a ha => by simp [execOp, ho, ha]
 simp only [stepA] at hs
 split at hs
 ·rename_i hxa; rw [hxa] at hx
  have h1 := hx
  simp only [Rep] at h1
  exact OpOk.quiet' hW (key _ h1.2) hx hs
 ·rename_i hxa; rw [hxa] at hx
  have h1 := hx
  simp only [Rep] at h1
  exact OpOk.quiet' hW (key _ h1.2) hx hs
 ·rename_i hxa; rw [hxa] at hx
  have h1 := hx
  simp only [Rep] at h1
  obtain ⟨_, _, h1, _⟩ := h1
  exact OpOk.quiet' hW (key _ h1) hx hs
 ·exact hs.elim
theorem oH {x r : AV} {v : Value} {n : Nat} (hx : Rep E A G w x v) (hr : ptrAdd n x = some r) : ∃ b o, v = .pointer (some ⟨b, o, none⟩) /\ Rep E A G w r (.pointer (some ⟨b, o + n, none⟩)) := by
 unfold ptrAdd at hr
 split at hr <;> first | cases hr | skip
 ·rename_i k o
  simp only [Rep] at hx
  obtain ⟨hk, rfl⟩ := hx
  exact ⟨_, _, rfl, by simp [Rep, hk]⟩
 ·rename_i k i o
  simp only [Rep] at hx
  obtain ⟨hk, rfl⟩ := hx
  exact ⟨_, _, rfl, by simp [Rep, hk, Nat.add_assoc]⟩
 ·rename_i l
  simp only [Rep] at hx
  obtain ⟨b, o, rfl, hc⟩ := hx
  exact ⟨b, o, rfl, by simp only [Rep]; exact ⟨b, o + n, rfl, hc.drop n⟩⟩
theorem oC (b o : Nat) (f : Field) {n : Nat} (hn : tySize P f.type = some (n + 1)) : (fieldPlace ⟨b, o, none⟩ f).run P w = .ok ⟨b, o + f.offset, none⟩ w := by
 simp [fieldPlace, bG hn, cP]
theorem qN (hW : Wf GL E A G h w) (hρ : Opds GL E A G w τ ρ) {s : TypeId} {x : Operand} {i : Nat} {o : Oper} (ho : o.op = .fieldAddr s x i) {ao : AOp} (hc : compOp P o = some ao) (hs : stepA GL ao τ h K) :
  OpOk P GL E A G w (do pure (.value (<- Instr.fieldAt s (ρ x) i))) K := by
 simp only [compOp, ho] at hc
 split at hc
 ·rename_i fs hu
  split at hc
  ·rename_i f hf
   split at hc
   ·rename_i n hn
    cases hc
    simp only [stepA] at hs
    split at hs
    ·rename_i r hr
     obtain ⟨b, off, hv, h2⟩ := oH (hρ x) hr
     refine OpOk.quiet hW ?_ h2 hs
     simp [Instr.fieldAt, run_underlying hu, hf, hv, Instr.sureAddr, oC b off f hn]
    ·exact hs.elim
   ·cases hc
  ·cases hc
 ·cases hc
theorem sB {cs : Array Value} {l : List AV} (hr : Reps E A G w l cs.toList) (ho : ∀ u ∈ cs.toList, u.oneCell' = true) {t : TypeId} {agg : Bool} {n off : Nat} (ha : tyAgg P t = some agg) (hn : tySize P t = some n)
  {x : AV} (hx : loadA agg n (l.drop off) = some x) : ∃ v, (part t cs off).run P w = .ok v w /\ Rep E A G w x v := by
 cases agg with
 | true =>
  simp only [loadA] at hx
  split at hx
  ·rename_i hb
   cases hx
   have hb := Nat.le_of_ble_eq_true hb
   refine ⟨.agg (cs.extract off (off + n)), by simp [part, dN ha, bG hn], ?_⟩
   simp only [Rep]
   refine ⟨_, rfl, fun u hu => ?_, ?_⟩
   ·simp only [Array.toList_extract, List.extract_eq_take_drop] at hu
    exact ho u (List.mem_of_mem_drop (List.mem_of_mem_take hu))
   ·simp only [Array.toList_extract, List.extract_eq_take_drop]
    rw [show off + n - off = n by omega]
    exact (hr.drop off).take n
  ·cases hx
 | false =>
  cases hl : l.drop off with
  | nil => simp [loadA, hl] at hx
  | cons y ys =>
   simp only [loadA, hl, Option.some.injEq] at hx
   subst hx
   have : (l.drop off)[0]? = some y := by rw [hl]; rfl
   rw [List.getElem?_drop, Nat.add_zero] at this
   obtain ⟨u, hu, hr'⟩ := hr.get this
   exact ⟨u, by simp [part, dN ha, show cs[off]? = some u by simpa using hu], hr'⟩
theorem ok_field (hW : Wf GL E A G h w) (hρ : Opds GL E A G w τ ρ) {s : TypeId} {x : Operand} {i : Nat} {o : Oper} (ho : o.op = .field s x i) {ao : AOp} (hc : compOp P o = some ao) (hs : stepA GL ao τ h K) :
  OpOk P GL E A G w (do pure (.value (<- Instr.field s (ρ x) i))) K := by
 have hx := hρ x
 simp only [compOp, ho] at hc
 split at hc
 ·rename_i fs hu
  split at hc
  ·rename_i f hf
   split at hc
   ·rename_i g n ha hn
    cases hc
    simp only [stepA] at hs
    split at hs
    ·rename_i l hl
     split at hs
     ·rename_i r hr
      rw [hl] at hx
      simp only [Rep] at hx
      obtain ⟨cs, hv, ho1, hrs⟩ := hx
      obtain ⟨v, h1, h2⟩ := sB hrs ho1 ha hn hr
      exact OpOk.quiet hW (by simp [Instr.field, run_underlying hu, hf, hv, asAgg, h1]) h2 hs
     ·exact hs.elim
    ·exact hs.elim
   ·cases hc
  ·cases hc
 ·cases hc
theorem rS (hW : Wf GL E A G h w) (hρ : Opds GL E A G w τ ρ) {t : TypeId} {x i : Operand} {o : Oper} (ho : o.op = .index t x i) {ao : AOp} (hc : compOp P o = some ao) (hs : stepA GL ao τ h K) :
  OpOk P GL E A G w (do pure (.value (<- Instr.index t (ρ x) (ρ i)))) K := by
 have hx := hρ x
 have hi := hρ i
 simp only [compOp, ho] at hc
 split at hc
 ·rename_i hu
  cases hc
  simp only [stepA] at hs
  split at hs
  ·rename_i l j hxa hia
   rw [hxa] at hx
   simp only [Rep] at hx
   obtain ⟨k, hi⟩ := bV hi hia
   obtain ⟨⟨b1, b2⟩, hs⟩ := hs
   refine OpOk.quiet hW (v := .int .u8 (l.getD j.toNat 0).toNat) ?_ (by simp [Rep]) hs
   have hj : j.toNat < l.length := by omega
   have hge : (ByteArray.mk l.toArray)[j.toNat]? = some (l.getD j.toNat 0) := by
    have h1 : (ByteArray.mk l.toArray)[j.toNat]? = (l.toArray)[j.toNat]? := by
     simp only [getElem?_def]; rfl
    rw [h1]; simp [List.getD, hj]
   simp [Instr.index, asIntOf, hi, run_underlying hu, hx, b1, hge]
  ·exact hs.elim
 ·rename_i n e hu
  split at hc
  ·rename_i g sz ha hn
   cases hc
   simp only [stepA] at hs
   split at hs
   ·rename_i l j hxa hia
    rw [hxa] at hx
    simp only [Rep] at hx
    obtain ⟨cs, hv, ho1, hrs⟩ := hx
    obtain ⟨k, hi⟩ := bV hi hia
    obtain ⟨⟨b1, b2⟩, hs⟩ := hs
    split at hs
    ·rename_i r hr
     obtain ⟨v, h1, h2⟩ := sB hrs ho1 ha hn hr
     exact OpOk.quiet hW (by simp [Instr.index, asIntOf, hi, run_underlying hu, hv, b1, b2, bG hn, h1]) h2 hs
    ·exact hs.elim
   ·exact hs.elim
  ·cases hc
 ·cases hc
theorem wQ (hW : Wf GL E A G h w) (hρ : Opds GL E A G w τ ρ) {x : Operand} {i : Nat} (hs : stepA GL (.extract (compOpd x) i) τ h K) : OpOk P GL E A G w (do pure (.value (<- Instr.extract (ρ x) i))) K := by
 have hx := hρ x
 simp only [stepA] at hs
 split at hs
 ·rename_i l hxa
  rw [hxa] at hx
  simp only [Rep] at hx
  obtain ⟨cs, hv, hr⟩ := hx
  split at hs
  ·rename_i r hl
   obtain ⟨u, hu, hr'⟩ := hr.get hl
   exact OpOk.quiet hW (by simp [Instr.extract, hv, show cs[i]? = some u by simpa using hu]) hr' hs
  ·exact hs.elim
 ·exact hs.elim
theorem ok_max (hW : Wf GL E A G h w) (hρ : Opds GL E A G w τ ρ) {x y : Operand} (hs : stepA GL (.max (compOpd x) (compOpd y)) τ h K) {ts : Array TypeId} {ty : TypeId} :
  OpOk P GL E A G w (do pure (.value (<- Builtin.max_ ts ty #[ρ x, ρ y]))) K := by
 have hx := hρ x
 have hy := hρ y
 simp only [stepA] at hs
 split at hs
 ·rename_i k a k' b hxa hya
  rw [hxa] at hx
  rw [hya] at hy
  have hx := cY hx
  have hy := cY hy
  exact OpOk.quiet hW (v := .int k (imax a b)) (by simp [Builtin.max_, hx, hy, Builtin.max2, imax]) (by simp [Rep]) hs
 ·exact hs.elim
theorem ok_min (hW : Wf GL E A G h w) (hρ : Opds GL E A G w τ ρ) {x y : Operand} (hs : stepA GL (.min (compOpd x) (compOpd y)) τ h K) {ts : Array TypeId} {ty : TypeId} :
  OpOk P GL E A G w (do pure (.value (<- Builtin.min_ ts ty #[ρ x, ρ y]))) K := by
 have hx := hρ x
 have hy := hρ y
 simp only [stepA] at hs
 split at hs
 ·rename_i k a k' b hxa hya
  rw [hxa] at hx
  rw [hya] at hy
  have hx := cY hx
  have hy := cY hy
  exact OpOk.quiet hW (v := .int k (imin a b)) (by simp [Builtin.min_, hx, hy, Builtin.min2, imin]) (by simp [Rep]) hs
 ·exact hs.elim
end
section
variable {P : Program} {GL : Glob} {E : Env} {A : Nat -> Nat -> Prop} {G : Gd} {h : List AObj} {w : World} {τ : List (Nat × AV)} {ρ : Operand -> Value} {K : AV -> List AObj -> Prop}
theorem elems_rep {x : AV} {v : Value} {sz : Nat} {l : List AV} (hx : Rep E A G w x v) (hl : elemsA h sz x = some l) : ∃ p c, v = .slice p l.length c /\ l.length <= c /\
  (∀ i, i < l.length -> ∃ b o, p = some ⟨b, o, none⟩ /\ Rep E A G w (elemPtr x i) (.pointer (some ⟨b, o + i * sz, none⟩))) := by
 have key : ∀ {p : Option Addr} {l : List AV} {sz i : Nat}, (l = [] ∨ ∃ b o, p = some ⟨b, o, none⟩ /\ RepL E A G w sz b o l) -> i < l.length -> ∃ b o, p = some ⟨b, o, none⟩ /\ Rep E A G w (.pel (l.getD i .any).cells) (.pointer (some ⟨b, o + i * sz, none⟩)) := by
  intro p l sz i h hi
  rcases h with rfl | ⟨b, o, hp, hr⟩
  ·simp at hi
  ·refine ⟨b, o, hp, ?_⟩
   have := (hr.get (List.getElem?_eq_getElem hi)).2
   simp only [Rep]
   exact ⟨b, _, rfl, by simpa [List.getD, hi] using this⟩
 unfold elemsA at hl
 split at hl
 ·rename_i s l'
  split at hl
  ·rename_i hb
   cases hl
   have := Nat.eq_of_beq_eq_true hb
   subst this
   simp only [Rep] at hx
   obtain ⟨p, n, c, rfl, rfl, h2, _, h4⟩ := hx
   exact ⟨p, c, rfl, h2, fun i hi => key h4 hi⟩
  ·cases hl
 ·rename_i k s l'
  split at hl
  ·rename_i hb
   cases hl
   have := Nat.eq_of_beq_eq_true hb
   subst this
   simp only [Rep] at hx
   obtain ⟨_, _, p, n, c, rfl, rfl, h2, _, h4⟩ := hx
   exact ⟨p, c, rfl, h2, fun i hi => key h4 hi⟩
  ·cases hl
 ·rename_i k s m
  split at hl
  ·rename_i hb
   have := Nat.eq_of_beq_eq_true hb
   subst this
   split at hl
   ·rename_i T s' l' ho
    split at hl
    ·rename_i hm
     have hm := Nat.le_of_ble_eq_true hm
     cases hl
     simp only [Rep] at hx
     obtain ⟨hk, h1, rfl, h2, h3⟩ := hx
     have hml : (l'.take m).length = m := by simp; omega
     rw [hml]
     refine ⟨_, _, rfl, h2, fun i hi => ⟨_, 0, rfl, ?_⟩⟩
     simp only [elemPtr, Rep, h1]
     exact ⟨hk, by simp⟩
    ·cases hl
   ·cases hl
  ·cases hl
 ·rename_i k s a m
  split at hl
  ·rename_i hb
   have := Nat.eq_of_beq_eq_true hb
   subst this
   split at hl
   ·rename_i T s' l' ho
    split at hl
    ·rename_i hm
     have hm := Nat.le_of_ble_eq_true hm
     cases hl
     simp only [Rep] at hx
     obtain ⟨hk, h1, rfl, h2, h3⟩ := hx
     have hml : ((l'.drop a).take m).length = m := by simp; omega
     rw [hml]
     refine ⟨_, _, rfl, by omega, fun i hi => ⟨_, a * s, rfl, ?_⟩⟩
     simp only [elemPtr, Rep, h1]
     exact ⟨hk, by simp [Nat.add_mul]⟩
    ·cases hl
   ·cases hl
  ·cases hl
 ·cases hl
  simp only [Rep] at hx
  subst hx
  exact ⟨none, 0, rfl, Nat.le_refl _, fun i hi => by simp at hi⟩
 ·cases hl
theorem rH (hW : Wf GL E A G h w) (hρ : Opds GL E A G w τ ρ) {t : TypeId} {x i : Operand} {o : Oper} (ho : o.op = .indexAddr t x i) {ao : AOp} (hc : compOp P o = some ao) (hs : stepA GL ao τ h K) :
  OpOk P GL E A G w (do pure (.value (<- Instr.indexAt t (ρ x) (ρ i)))) K := by
 have hx := hρ x
 have hi := hρ i
 simp only [compOp, ho] at hc
 split at hc
 ·rename_i e hu
  split at hc
  ·rename_i sz hn
   cases hc
   simp only [stepA] at hs
   split at hs
   ·rename_i l j hl hj
    obtain ⟨⟨b1, b2⟩, hs⟩ := hs
    obtain ⟨k, hiv⟩ := bV hi hj
    obtain ⟨p, c, hv, hle, hel⟩ := elems_rep hx hl
    obtain ⟨b, off, rfl, hr⟩ := hel j.toNat (by omega)
    refine OpOk.quiet hW ?_ hr hs
    simp [Instr.indexAt, asIntOf, hiv, hv, run_underlying hu, b1, b2, bG hn, cP]
   ·exact hs.elim
  ·cases hc
 ·rename_i n e hu
  split at hc
  ·rename_i sz hn
   cases hc
   simp only [stepA] at hs
   split at hs
   ·rename_i j hj
    obtain ⟨⟨b1, b2⟩, hs⟩ := hs
    obtain ⟨k, hiv⟩ := bV hi hj
    split at hs
    ·rename_i r hr
     obtain ⟨b, off, hv, h2⟩ := oH hx hr
     refine OpOk.quiet hW ?_ h2 hs
     simp [Instr.indexAt, asIntOf, hiv, hv, run_underlying hu, b1, b2, bG hn, cP, Instr.sureAddr]
    ·exact hs.elim
   ·exact hs.elim
  ·cases hc
 ·cases hc
theorem ok_len (hW : Wf GL E A G h w) (hρ : Opds GL E A G w τ ρ) {x : Operand} {t ty : TypeId} {q : LK} (hq : match P.underlying t with
   | some .string => q = .str
   | some (.slice _) => q = .sl
   | some (.map _ _) => q = .mp
   | _ => False) (hs : stepA GL (.len q (compOpd x)) τ h K) : OpOk P GL E A G w (do pure (.value (<- Builtin.len_ #[t] ty #[ρ x]))) K := by
 have hx := hρ x
 simp only [stepA] at hs
 split at hs
 ·rename_i n hn
  suffices hh : (Builtin.len_ #[t] ty #[ρ x]).run P w = .ok (goInt n) w by exact OpOk.quiet hW hh (by simp [Rep, goInt]) hs
  clear hs
  generalize aeval GL τ (compOpd x) = ax at hx hn
  cases q with
  | str =>
   have hu : P.underlying t = some .string := by split at hq <;> first | assumption | cases hq
   cases ax <;> simp only [lenA, reduceCtorEq, Option.some.injEq] at hn
   case str l =>
    subst hn
    simp only [Rep] at hx
    simp [Builtin.len_, run_underlying hu, hx]
    rfl
  | sl =>
   have hu : ∃ e, P.underlying t = some (.slice e) := by split at hq <;> first | exact ⟨_, by assumption⟩ | cases hq
   obtain ⟨e, hu⟩ := hu
   cases ax <;> simp only [lenA, reduceCtorEq, Option.some.injEq] at hn
   case v y =>
    cases y <;> simp only [reduceCtorEq, Option.some.injEq] at hn
    subst hn
    simp only [Rep] at hx
    simp [Builtin.len_, run_underlying hu, hx]
   case sl s l => subst hn; simp only [Rep] at hx; obtain ⟨p, n, c, hv, rfl, _⟩ := hx; simp [Builtin.len_, run_underlying hu, hv]
   case own k s l => subst hn; simp only [Rep] at hx; obtain ⟨_, _, p, n, c, hv, rfl, _⟩ := hx; simp [Builtin.len_, run_underlying hu, hv]
   case vec k s m => subst hn; simp only [Rep] at hx; obtain ⟨_, _, hv, _⟩ := hx; simp [Builtin.len_, run_underlying hu, hv]
   case view k s a m => subst hn; simp only [Rep] at hx; obtain ⟨_, _, hv, _⟩ := hx; simp [Builtin.len_, run_underlying hu, hv]
  | mp =>
   have hu : ∃ k e, P.underlying t = some (.map k e) := by split at hq <;> first | exact ⟨_, _, by assumption⟩ | cases hq
   obtain ⟨kt, e, hu⟩ := hu
   cases ax <;> simp only [lenA, reduceCtorEq, Option.some.injEq] at hn
   case v y =>
    cases y with
    | map r =>
     cases r with
     | none =>
      simp only [Option.some.injEq] at hn
      subst hn
      simp only [Rep] at hx
      simp [Builtin.len_, run_underlying hu, hx]
     | some r => simp at hn
    | _ => simp at hn
   case mp k =>
    split at hn
    ·rename_i ks vs ho
     cases hn
     simp only [Rep] at hx
     obtain ⟨es, cl, h1, h2, _⟩ := hW.o k _ ho
     have := h2.length
     simp at this
     simp [Builtin.len_, run_underlying hu, hx, getObj, Sem.run, h1, this]
    ·cases hn
   case imp ks vs =>
    subst hn
    simp only [Rep] at hx
    obtain ⟨b, es, cl, hv, _, h1, h2, _⟩ := hx
    have := h2.length
    simp at this
    simp [Builtin.len_, run_underlying hu, hv, getObj, Sem.run, h1, this]
 ·exact hs.elim
end
end Go.Rip
