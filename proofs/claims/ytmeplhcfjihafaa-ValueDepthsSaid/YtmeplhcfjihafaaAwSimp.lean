/- The equations by which the walks reckon. -/
import Derived.Test.YtmeplhcfjihafaaAwTypes
import Derived.Test.YtmeplhcfjihafaaAwStep
namespace Go.Aw
attribute [go_sem] seqO_nil seqO_none seqO_some drawO_nil drawO_none drawO_some seqC_mk drawC_mk List.reverse_cons List.reverse_nil opW putT putH ev constAV moveW pickW binOW nilW isNilC_tmp isNilC_int isNilC_bool isNilC_str isNilC_iface isNilC_ptr isNilC_map isNilC_slice binW eqW binPV binInt binStr shiftInt isShift unW unPV loadW loadA loadP storeW cellsA setCells oneAll AV.one PV.one
  allocW newW boxW buildW partsA fillA mkAgg allP buildSliceW idxOK cellsOK makeSliceW fieldAddrW indexAddrW indexAddrP elemP indexW fieldW extractW lenW sliceW sliceStr sliceP bnd
  makeIfaceW nilCheckW assertW failsW fnOf WFn RW.eff lendP lendU apartL LB.blk appendW elems news convertW bytesOf byteOf1 minmaxW copyW cutElems dstPart callW pcallW RV.eff pureArgs frzA unlift pureA pure1 pureL andThen inBlk EndW resW cellV oneOr argsT upd_same
  ofL ofH AV.ren renL AV.labsIn labsInL Blk.ren Blk.labsIn renL_p labsInL_p map_renL_lift labsIn_lift labs readsA Op.operands Call.operands
theorem upd_at {α : Type} (f : Nat → Option α) (i j : Nat) (v : Option α) : upd f i v j = if j = i then v else f j := rfl
attribute [go_sem] upd_at
theorem if_t {α : Type} {x y : α} : (if True then x else y) = x := rfl
theorem if_f {α : Type} {x y : α} : (if False then x else y) = y := rfl
theorem if_tp {x y : Prop} : (if True then x else y) = x := rfl
theorem if_fp {x y : Prop} : (if False then x else y) = y := rfl
attribute [go_sem] if_t if_f if_tp if_fp List.map_cons List.map_nil List.getElem?_cons_zero List.getElem?_cons_succ List.getElem?_nil List.length_cons List.length_nil List.drop_zero List.drop_succ_cons List.drop_nil List.take_succ_cons List.take_zero List.take_nil List.set_cons_zero List.set_cons_succ List.cons_append List.nil_append Option.bind_some Option.map_some Option.bind_none Option.map_none Nat.add_zero Nat.zero_add true_and and_true Bool.and_true Bool.true_and
  List.flatMap_cons List.flatMap_nil List.filterMap_cons List.filterMap_nil
end Go.Aw
