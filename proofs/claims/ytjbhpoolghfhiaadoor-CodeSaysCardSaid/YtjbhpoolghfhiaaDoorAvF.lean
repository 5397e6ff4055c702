/- What the types and functions of this claim's program are, as rewriting wants it; written by a program of this session's own. No condition: closed facts. -/
import Derived.Test.YtjbhpoolghfhiaaDoorAvE
import Derived.Test.YtjbhpoolghfhiaaDoorProg
namespace Go.Proofs.YtjbhpoolghfhiaaDoor
open Go
@[go_sem] theorem tf_size3 : sizeT Tryd.prog 3 = 1 := by kernel_rfl
@[go_sem] theorem tf_agg3 : aggT Tryd.prog 3 = false := by kernel_rfl
@[go_sem] theorem tf_known3 : knownT Tryd.prog 3 = true := by kernel_rfl
@[go_sem] theorem tf_bytes3 : bytesT Tryd.prog 3 = 8 := by kernel_rfl
@[go_sem] theorem tf_zero3 (K : List AV → Prop) : zeroCellsT Tryd.prog 3 K = K [.r (.v (.int .i64 0))] := by kernel_rfl
@[go_sem] theorem tf_zis3 : (zeroT Tryd.prog 3).isSome = true := by kernel_rfl
@[go_sem] theorem tf_int3 : intT Tryd.prog 3 = some .i64 := by kernel_rfl
@[go_sem] theorem tf_flo3 : floatT Tryd.prog 3 = none := by kernel_rfl
@[go_sem] theorem tf_sl3 : sliceT Tryd.prog 3 = false := by kernel_rfl
@[go_sem] theorem tf_str3 : stringT Tryd.prog 3 = false := by kernel_rfl
@[go_sem] theorem tf_bool3 : boolT Tryd.prog 3 = false := by kernel_rfl
@[go_sem] theorem tf_ptr3 : ptrT Tryd.prog 3 = false := by kernel_rfl
@[go_sem] theorem tf_zval3 : zeroT Tryd.prog 3 = some (.int .i64 0) := by kernel_rfl
@[go_sem] theorem tf_elem3 : elemT Tryd.prog 3 = none := by kernel_rfl
@[go_sem] theorem tf_size4 : sizeT Tryd.prog 4 = 1 := by kernel_rfl
@[go_sem] theorem tf_agg4 : aggT Tryd.prog 4 = false := by kernel_rfl
@[go_sem] theorem tf_known4 : knownT Tryd.prog 4 = true := by kernel_rfl
@[go_sem] theorem tf_bytes4 : bytesT Tryd.prog 4 = 1 := by kernel_rfl
@[go_sem] theorem tf_zero4 (K : List AV → Prop) : zeroCellsT Tryd.prog 4 K = K [.r (.v (.bool false))] := by kernel_rfl
@[go_sem] theorem tf_zis4 : (zeroT Tryd.prog 4).isSome = true := by kernel_rfl
@[go_sem] theorem tf_int4 : intT Tryd.prog 4 = none := by kernel_rfl
@[go_sem] theorem tf_flo4 : floatT Tryd.prog 4 = none := by kernel_rfl
@[go_sem] theorem tf_sl4 : sliceT Tryd.prog 4 = false := by kernel_rfl
@[go_sem] theorem tf_str4 : stringT Tryd.prog 4 = false := by kernel_rfl
@[go_sem] theorem tf_bool4 : boolT Tryd.prog 4 = true := by kernel_rfl
@[go_sem] theorem tf_ptr4 : ptrT Tryd.prog 4 = false := by kernel_rfl
@[go_sem] theorem tf_zval4 : zeroT Tryd.prog 4 = some (.bool false) := by kernel_rfl
@[go_sem] theorem tf_elem4 : elemT Tryd.prog 4 = none := by kernel_rfl
@[go_sem] theorem tf_size5 : sizeT Tryd.prog 5 = 1 := by kernel_rfl
@[go_sem] theorem tf_agg5 : aggT Tryd.prog 5 = false := by kernel_rfl
@[go_sem] theorem tf_known5 : knownT Tryd.prog 5 = true := by kernel_rfl
@[go_sem] theorem tf_bytes5 : bytesT Tryd.prog 5 = 1 := by kernel_rfl
@[go_sem] theorem tf_zero5 (K : List AV → Prop) : zeroCellsT Tryd.prog 5 K = K [.r (.v (.int .u8 0))] := by kernel_rfl
@[go_sem] theorem tf_zis5 : (zeroT Tryd.prog 5).isSome = true := by kernel_rfl
@[go_sem] theorem tf_int5 : intT Tryd.prog 5 = some .u8 := by kernel_rfl
@[go_sem] theorem tf_flo5 : floatT Tryd.prog 5 = none := by kernel_rfl
@[go_sem] theorem tf_sl5 : sliceT Tryd.prog 5 = false := by kernel_rfl
@[go_sem] theorem tf_str5 : stringT Tryd.prog 5 = false := by kernel_rfl
@[go_sem] theorem tf_bool5 : boolT Tryd.prog 5 = false := by kernel_rfl
@[go_sem] theorem tf_ptr5 : ptrT Tryd.prog 5 = false := by kernel_rfl
@[go_sem] theorem tf_zval5 : zeroT Tryd.prog 5 = some (.int .u8 0) := by kernel_rfl
@[go_sem] theorem tf_elem5 : elemT Tryd.prog 5 = none := by kernel_rfl
@[go_sem] theorem tf_size9 : sizeT Tryd.prog 9 = 1 := by kernel_rfl
@[go_sem] theorem tf_agg9 : aggT Tryd.prog 9 = false := by kernel_rfl
@[go_sem] theorem tf_known9 : knownT Tryd.prog 9 = true := by kernel_rfl
@[go_sem] theorem tf_bytes9 : bytesT Tryd.prog 9 = 16 := by kernel_rfl
@[go_sem] theorem tf_zero9 (K : List AV → Prop) : zeroCellsT Tryd.prog 9 K = K [.r (.v (.string ⟨#[]⟩))] := by kernel_rfl
@[go_sem] theorem tf_zis9 : (zeroT Tryd.prog 9).isSome = true := by kernel_rfl
@[go_sem] theorem tf_int9 : intT Tryd.prog 9 = none := by kernel_rfl
@[go_sem] theorem tf_flo9 : floatT Tryd.prog 9 = none := by kernel_rfl
@[go_sem] theorem tf_sl9 : sliceT Tryd.prog 9 = false := by kernel_rfl
@[go_sem] theorem tf_str9 : stringT Tryd.prog 9 = true := by kernel_rfl
@[go_sem] theorem tf_bool9 : boolT Tryd.prog 9 = false := by kernel_rfl
@[go_sem] theorem tf_ptr9 : ptrT Tryd.prog 9 = false := by kernel_rfl
@[go_sem] theorem tf_zval9 : zeroT Tryd.prog 9 = some (.string ⟨#[]⟩) := by kernel_rfl
@[go_sem] theorem tf_elem9 : elemT Tryd.prog 9 = none := by kernel_rfl
@[go_sem] theorem tf_size21 : sizeT Tryd.prog 21 = 1 := by kernel_rfl
@[go_sem] theorem tf_agg21 : aggT Tryd.prog 21 = false := by kernel_rfl
@[go_sem] theorem tf_known21 : knownT Tryd.prog 21 = true := by kernel_rfl
@[go_sem] theorem tf_bytes21 : bytesT Tryd.prog 21 = 4 := by kernel_rfl
@[go_sem] theorem tf_zero21 (K : List AV → Prop) : zeroCellsT Tryd.prog 21 K = K [.r (.v (.int .i32 0))] := by kernel_rfl
@[go_sem] theorem tf_zis21 : (zeroT Tryd.prog 21).isSome = true := by kernel_rfl
@[go_sem] theorem tf_int21 : intT Tryd.prog 21 = some .i32 := by kernel_rfl
@[go_sem] theorem tf_flo21 : floatT Tryd.prog 21 = none := by kernel_rfl
@[go_sem] theorem tf_sl21 : sliceT Tryd.prog 21 = false := by kernel_rfl
@[go_sem] theorem tf_str21 : stringT Tryd.prog 21 = false := by kernel_rfl
@[go_sem] theorem tf_bool21 : boolT Tryd.prog 21 = false := by kernel_rfl
@[go_sem] theorem tf_ptr21 : ptrT Tryd.prog 21 = false := by kernel_rfl
@[go_sem] theorem tf_zval21 : zeroT Tryd.prog 21 = some (.int .i32 0) := by kernel_rfl
@[go_sem] theorem tf_elem21 : elemT Tryd.prog 21 = none := by kernel_rfl
@[go_sem] theorem tf_size23 : sizeT Tryd.prog 23 = 2 := by kernel_rfl
@[go_sem] theorem tf_agg23 : aggT Tryd.prog 23 = true := by kernel_rfl
@[go_sem] theorem tf_known23 : knownT Tryd.prog 23 = true := by kernel_rfl
@[go_sem] theorem tf_bytes23 : bytesT Tryd.prog 23 = 16 := by kernel_rfl
@[go_sem] theorem tf_zero23 (K : List AV → Prop) : zeroCellsT Tryd.prog 23 K = K [.r (.v (.int .i64 0)), .r (.v (.int .i64 0))] := by kernel_rfl
@[go_sem] theorem tf_zis23 : (zeroT Tryd.prog 23).isSome = true := by kernel_rfl
@[go_sem] theorem tf_int23 : intT Tryd.prog 23 = none := by kernel_rfl
@[go_sem] theorem tf_flo23 : floatT Tryd.prog 23 = none := by kernel_rfl
@[go_sem] theorem tf_sl23 : sliceT Tryd.prog 23 = false := by kernel_rfl
@[go_sem] theorem tf_str23 : stringT Tryd.prog 23 = false := by kernel_rfl
@[go_sem] theorem tf_bool23 : boolT Tryd.prog 23 = false := by kernel_rfl
@[go_sem] theorem tf_ptr23 : ptrT Tryd.prog 23 = false := by kernel_rfl
@[go_sem] theorem tf_elem23 : elemT Tryd.prog 23 = none := by kernel_rfl
@[go_sem] theorem tf_struct23 : structT Tryd.prog 23 = true := by kernel_rfl
@[go_sem] theorem tf_bld23 : buildT Tryd.prog 23 = true := by kernel_rfl
@[go_sem] theorem tf_eqg23 : Tryd.prog.eqGuardType Tryd.prog.depth 23 = false := by kernel_rfl
@[go_sem] theorem tf_f23_0 : fieldT Tryd.prog 23 0 = some (0, 1) := by kernel_rfl
@[go_sem] theorem tf_part23_0 : partT Tryd.prog 23 0 = some (0, 1) := by kernel_rfl
@[go_sem] theorem tf_f23_1 : fieldT Tryd.prog 23 1 = some (1, 1) := by kernel_rfl
@[go_sem] theorem tf_part23_1 : partT Tryd.prog 23 1 = some (1, 1) := by kernel_rfl
@[go_sem] theorem tf_kinds23 : kindsT Tryd.prog 8 23 = some [0, 0] := by kernel_rfl
@[go_sem] theorem tf_size29 : sizeT Tryd.prog 29 = 1 := by kernel_rfl
@[go_sem] theorem tf_agg29 : aggT Tryd.prog 29 = false := by kernel_rfl
@[go_sem] theorem tf_known29 : knownT Tryd.prog 29 = true := by kernel_rfl
@[go_sem] theorem tf_bytes29 : bytesT Tryd.prog 29 = 24 := by kernel_rfl
@[go_sem] theorem tf_zero29 (K : List AV → Prop) : zeroCellsT Tryd.prog 29 K = K [.r (.v (.slice none 0 0))] := by kernel_rfl
@[go_sem] theorem tf_zis29 : (zeroT Tryd.prog 29).isSome = true := by kernel_rfl
@[go_sem] theorem tf_int29 : intT Tryd.prog 29 = none := by kernel_rfl
@[go_sem] theorem tf_flo29 : floatT Tryd.prog 29 = none := by kernel_rfl
@[go_sem] theorem tf_sl29 : sliceT Tryd.prog 29 = true := by kernel_rfl
@[go_sem] theorem tf_str29 : stringT Tryd.prog 29 = false := by kernel_rfl
@[go_sem] theorem tf_bool29 : boolT Tryd.prog 29 = false := by kernel_rfl
@[go_sem] theorem tf_ptr29 : ptrT Tryd.prog 29 = false := by kernel_rfl
@[go_sem] theorem tf_zval29 : zeroT Tryd.prog 29 = some (.slice none 0 0) := by kernel_rfl
@[go_sem] theorem tf_elem29 : elemT Tryd.prog 29 = some 9 := by kernel_rfl
@[go_sem] theorem tf_size32 : sizeT Tryd.prog 32 = 1 := by kernel_rfl
@[go_sem] theorem tf_agg32 : aggT Tryd.prog 32 = false := by kernel_rfl
@[go_sem] theorem tf_known32 : knownT Tryd.prog 32 = true := by kernel_rfl
@[go_sem] theorem tf_bytes32 : bytesT Tryd.prog 32 = 24 := by kernel_rfl
@[go_sem] theorem tf_zero32 (K : List AV → Prop) : zeroCellsT Tryd.prog 32 K = K [.r (.v (.slice none 0 0))] := by kernel_rfl
@[go_sem] theorem tf_zis32 : (zeroT Tryd.prog 32).isSome = true := by kernel_rfl
@[go_sem] theorem tf_int32 : intT Tryd.prog 32 = none := by kernel_rfl
@[go_sem] theorem tf_flo32 : floatT Tryd.prog 32 = none := by kernel_rfl
@[go_sem] theorem tf_sl32 : sliceT Tryd.prog 32 = true := by kernel_rfl
@[go_sem] theorem tf_str32 : stringT Tryd.prog 32 = false := by kernel_rfl
@[go_sem] theorem tf_bool32 : boolT Tryd.prog 32 = false := by kernel_rfl
@[go_sem] theorem tf_ptr32 : ptrT Tryd.prog 32 = false := by kernel_rfl
@[go_sem] theorem tf_zval32 : zeroT Tryd.prog 32 = some (.slice none 0 0) := by kernel_rfl
@[go_sem] theorem tf_elem32 : elemT Tryd.prog 32 = some 47 := by kernel_rfl
@[go_sem] theorem tf_size33 : sizeT Tryd.prog 33 = 1 := by kernel_rfl
@[go_sem] theorem tf_agg33 : aggT Tryd.prog 33 = false := by kernel_rfl
@[go_sem] theorem tf_known33 : knownT Tryd.prog 33 = true := by kernel_rfl
@[go_sem] theorem tf_bytes33 : bytesT Tryd.prog 33 = 24 := by kernel_rfl
@[go_sem] theorem tf_zero33 (K : List AV → Prop) : zeroCellsT Tryd.prog 33 K = K [.r (.v (.slice none 0 0))] := by kernel_rfl
@[go_sem] theorem tf_zis33 : (zeroT Tryd.prog 33).isSome = true := by kernel_rfl
@[go_sem] theorem tf_int33 : intT Tryd.prog 33 = none := by kernel_rfl
@[go_sem] theorem tf_flo33 : floatT Tryd.prog 33 = none := by kernel_rfl
@[go_sem] theorem tf_sl33 : sliceT Tryd.prog 33 = true := by kernel_rfl
@[go_sem] theorem tf_str33 : stringT Tryd.prog 33 = false := by kernel_rfl
@[go_sem] theorem tf_bool33 : boolT Tryd.prog 33 = false := by kernel_rfl
@[go_sem] theorem tf_ptr33 : ptrT Tryd.prog 33 = false := by kernel_rfl
@[go_sem] theorem tf_zval33 : zeroT Tryd.prog 33 = some (.slice none 0 0) := by kernel_rfl
@[go_sem] theorem tf_elem33 : elemT Tryd.prog 33 = some 23 := by kernel_rfl
@[go_sem] theorem tf_size35 : sizeT Tryd.prog 35 = 3 := by kernel_rfl
@[go_sem] theorem tf_agg35 : aggT Tryd.prog 35 = true := by kernel_rfl
@[go_sem] theorem tf_known35 : knownT Tryd.prog 35 = true := by kernel_rfl
@[go_sem] theorem tf_bytes35 : bytesT Tryd.prog 35 = 72 := by kernel_rfl
@[go_sem] theorem tf_zero35 (K : List AV → Prop) : zeroCellsT Tryd.prog 35 K = K [.r (.v (.slice none 0 0)), .r (.v (.slice none 0 0)), .r (.v (.slice none 0 0))] := by kernel_rfl
@[go_sem] theorem tf_zis35 : (zeroT Tryd.prog 35).isSome = true := by kernel_rfl
@[go_sem] theorem tf_int35 : intT Tryd.prog 35 = none := by kernel_rfl
@[go_sem] theorem tf_flo35 : floatT Tryd.prog 35 = none := by kernel_rfl
@[go_sem] theorem tf_sl35 : sliceT Tryd.prog 35 = false := by kernel_rfl
@[go_sem] theorem tf_str35 : stringT Tryd.prog 35 = false := by kernel_rfl
@[go_sem] theorem tf_bool35 : boolT Tryd.prog 35 = false := by kernel_rfl
@[go_sem] theorem tf_ptr35 : ptrT Tryd.prog 35 = false := by kernel_rfl
@[go_sem] theorem tf_elem35 : elemT Tryd.prog 35 = none := by kernel_rfl
@[go_sem] theorem tf_struct35 : structT Tryd.prog 35 = true := by kernel_rfl
@[go_sem] theorem tf_bld35 : buildT Tryd.prog 35 = true := by kernel_rfl
@[go_sem] theorem tf_eqg35 : Tryd.prog.eqGuardType Tryd.prog.depth 35 = false := by kernel_rfl
@[go_sem] theorem tf_f35_0 : fieldT Tryd.prog 35 0 = some (0, 1) := by kernel_rfl
@[go_sem] theorem tf_part35_0 : partT Tryd.prog 35 0 = some (0, 1) := by kernel_rfl
@[go_sem] theorem tf_f35_1 : fieldT Tryd.prog 35 1 = some (1, 1) := by kernel_rfl
@[go_sem] theorem tf_part35_1 : partT Tryd.prog 35 1 = some (1, 1) := by kernel_rfl
@[go_sem] theorem tf_f35_2 : fieldT Tryd.prog 35 2 = some (2, 1) := by kernel_rfl
@[go_sem] theorem tf_part35_2 : partT Tryd.prog 35 2 = some (2, 1) := by kernel_rfl
@[go_sem] theorem tf_size36 : sizeT Tryd.prog 36 = 1 := by kernel_rfl
@[go_sem] theorem tf_agg36 : aggT Tryd.prog 36 = false := by kernel_rfl
@[go_sem] theorem tf_known36 : knownT Tryd.prog 36 = true := by kernel_rfl
@[go_sem] theorem tf_bytes36 : bytesT Tryd.prog 36 = 24 := by kernel_rfl
@[go_sem] theorem tf_zero36 (K : List AV → Prop) : zeroCellsT Tryd.prog 36 K = K [.r (.v (.slice none 0 0))] := by kernel_rfl
@[go_sem] theorem tf_zis36 : (zeroT Tryd.prog 36).isSome = true := by kernel_rfl
@[go_sem] theorem tf_int36 : intT Tryd.prog 36 = none := by kernel_rfl
@[go_sem] theorem tf_flo36 : floatT Tryd.prog 36 = none := by kernel_rfl
@[go_sem] theorem tf_sl36 : sliceT Tryd.prog 36 = true := by kernel_rfl
@[go_sem] theorem tf_str36 : stringT Tryd.prog 36 = false := by kernel_rfl
@[go_sem] theorem tf_bool36 : boolT Tryd.prog 36 = false := by kernel_rfl
@[go_sem] theorem tf_ptr36 : ptrT Tryd.prog 36 = false := by kernel_rfl
@[go_sem] theorem tf_zval36 : zeroT Tryd.prog 36 = some (.slice none 0 0) := by kernel_rfl
@[go_sem] theorem tf_elem36 : elemT Tryd.prog 36 = some 49 := by kernel_rfl
@[go_sem] theorem tf_size37 : sizeT Tryd.prog 37 = 1 := by kernel_rfl
@[go_sem] theorem tf_agg37 : aggT Tryd.prog 37 = false := by kernel_rfl
@[go_sem] theorem tf_known37 : knownT Tryd.prog 37 = true := by kernel_rfl
@[go_sem] theorem tf_bytes37 : bytesT Tryd.prog 37 = 24 := by kernel_rfl
@[go_sem] theorem tf_zero37 (K : List AV → Prop) : zeroCellsT Tryd.prog 37 K = K [.r (.v (.slice none 0 0))] := by kernel_rfl
@[go_sem] theorem tf_zis37 : (zeroT Tryd.prog 37).isSome = true := by kernel_rfl
@[go_sem] theorem tf_int37 : intT Tryd.prog 37 = none := by kernel_rfl
@[go_sem] theorem tf_flo37 : floatT Tryd.prog 37 = none := by kernel_rfl
@[go_sem] theorem tf_sl37 : sliceT Tryd.prog 37 = true := by kernel_rfl
@[go_sem] theorem tf_str37 : stringT Tryd.prog 37 = false := by kernel_rfl
@[go_sem] theorem tf_bool37 : boolT Tryd.prog 37 = false := by kernel_rfl
@[go_sem] theorem tf_ptr37 : ptrT Tryd.prog 37 = false := by kernel_rfl
@[go_sem] theorem tf_zval37 : zeroT Tryd.prog 37 = some (.slice none 0 0) := by kernel_rfl
@[go_sem] theorem tf_elem37 : elemT Tryd.prog 37 = some 4 := by kernel_rfl
@[go_sem] theorem tf_size38 : sizeT Tryd.prog 38 = 1 := by kernel_rfl
@[go_sem] theorem tf_agg38 : aggT Tryd.prog 38 = false := by kernel_rfl
@[go_sem] theorem tf_known38 : knownT Tryd.prog 38 = true := by kernel_rfl
@[go_sem] theorem tf_bytes38 : bytesT Tryd.prog 38 = 8 := by kernel_rfl
@[go_sem] theorem tf_zero38 (K : List AV → Prop) : zeroCellsT Tryd.prog 38 K = K [.r (.v (.int .i64 0))] := by kernel_rfl
@[go_sem] theorem tf_zis38 : (zeroT Tryd.prog 38).isSome = true := by kernel_rfl
@[go_sem] theorem tf_int38 : intT Tryd.prog 38 = some .i64 := by kernel_rfl
@[go_sem] theorem tf_flo38 : floatT Tryd.prog 38 = none := by kernel_rfl
@[go_sem] theorem tf_sl38 : sliceT Tryd.prog 38 = false := by kernel_rfl
@[go_sem] theorem tf_str38 : stringT Tryd.prog 38 = false := by kernel_rfl
@[go_sem] theorem tf_bool38 : boolT Tryd.prog 38 = false := by kernel_rfl
@[go_sem] theorem tf_ptr38 : ptrT Tryd.prog 38 = false := by kernel_rfl
@[go_sem] theorem tf_zval38 : zeroT Tryd.prog 38 = some (.int .i64 0) := by kernel_rfl
@[go_sem] theorem tf_elem38 : elemT Tryd.prog 38 = none := by kernel_rfl
@[go_sem] theorem tf_size43 : sizeT Tryd.prog 43 = 5 := by kernel_rfl
@[go_sem] theorem tf_agg43 : aggT Tryd.prog 43 = true := by kernel_rfl
@[go_sem] theorem tf_known43 : knownT Tryd.prog 43 = true := by kernel_rfl
@[go_sem] theorem tf_bytes43 : bytesT Tryd.prog 43 = 40 := by kernel_rfl
@[go_sem] theorem tf_zero43 (K : List AV → Prop) : zeroCellsT Tryd.prog 43 K = K [.r (.v (.int .i64 0)), .r (.v (.int .i64 0)), .r (.v (.int .i64 0)), .r (.v (.int .i64 0)), .r (.v (.int .i64 0))] := by kernel_rfl
@[go_sem] theorem tf_zis43 : (zeroT Tryd.prog 43).isSome = true := by kernel_rfl
@[go_sem] theorem tf_int43 : intT Tryd.prog 43 = none := by kernel_rfl
@[go_sem] theorem tf_flo43 : floatT Tryd.prog 43 = none := by kernel_rfl
@[go_sem] theorem tf_sl43 : sliceT Tryd.prog 43 = false := by kernel_rfl
@[go_sem] theorem tf_str43 : stringT Tryd.prog 43 = false := by kernel_rfl
@[go_sem] theorem tf_bool43 : boolT Tryd.prog 43 = false := by kernel_rfl
@[go_sem] theorem tf_ptr43 : ptrT Tryd.prog 43 = false := by kernel_rfl
@[go_sem] theorem tf_elem43 : elemT Tryd.prog 43 = none := by kernel_rfl
@[go_sem] theorem tf_struct43 : structT Tryd.prog 43 = true := by kernel_rfl
@[go_sem] theorem tf_bld43 : buildT Tryd.prog 43 = true := by kernel_rfl
@[go_sem] theorem tf_eqg43 : Tryd.prog.eqGuardType Tryd.prog.depth 43 = false := by kernel_rfl
@[go_sem] theorem tf_f43_0 : fieldT Tryd.prog 43 0 = some (0, 1) := by kernel_rfl
@[go_sem] theorem tf_part43_0 : partT Tryd.prog 43 0 = some (0, 1) := by kernel_rfl
@[go_sem] theorem tf_f43_1 : fieldT Tryd.prog 43 1 = some (1, 1) := by kernel_rfl
@[go_sem] theorem tf_part43_1 : partT Tryd.prog 43 1 = some (1, 1) := by kernel_rfl
@[go_sem] theorem tf_f43_2 : fieldT Tryd.prog 43 2 = some (2, 1) := by kernel_rfl
@[go_sem] theorem tf_part43_2 : partT Tryd.prog 43 2 = some (2, 1) := by kernel_rfl
@[go_sem] theorem tf_f43_3 : fieldT Tryd.prog 43 3 = some (3, 1) := by kernel_rfl
@[go_sem] theorem tf_part43_3 : partT Tryd.prog 43 3 = some (3, 1) := by kernel_rfl
@[go_sem] theorem tf_f43_4 : fieldT Tryd.prog 43 4 = some (4, 1) := by kernel_rfl
@[go_sem] theorem tf_part43_4 : partT Tryd.prog 43 4 = some (4, 1) := by kernel_rfl
@[go_sem] theorem tf_kinds43 : kindsT Tryd.prog 8 43 = some [0, 0, 0, 0, 0] := by kernel_rfl
@[go_sem] theorem tf_size44 : sizeT Tryd.prog 44 = 1 := by kernel_rfl
@[go_sem] theorem tf_agg44 : aggT Tryd.prog 44 = false := by kernel_rfl
@[go_sem] theorem tf_known44 : knownT Tryd.prog 44 = true := by kernel_rfl
@[go_sem] theorem tf_bytes44 : bytesT Tryd.prog 44 = 24 := by kernel_rfl
@[go_sem] theorem tf_zero44 (K : List AV → Prop) : zeroCellsT Tryd.prog 44 K = K [.r (.v (.slice none 0 0))] := by kernel_rfl
@[go_sem] theorem tf_zis44 : (zeroT Tryd.prog 44).isSome = true := by kernel_rfl
@[go_sem] theorem tf_int44 : intT Tryd.prog 44 = none := by kernel_rfl
@[go_sem] theorem tf_flo44 : floatT Tryd.prog 44 = none := by kernel_rfl
@[go_sem] theorem tf_sl44 : sliceT Tryd.prog 44 = true := by kernel_rfl
@[go_sem] theorem tf_str44 : stringT Tryd.prog 44 = false := by kernel_rfl
@[go_sem] theorem tf_bool44 : boolT Tryd.prog 44 = false := by kernel_rfl
@[go_sem] theorem tf_ptr44 : ptrT Tryd.prog 44 = false := by kernel_rfl
@[go_sem] theorem tf_zval44 : zeroT Tryd.prog 44 = some (.slice none 0 0) := by kernel_rfl
@[go_sem] theorem tf_elem44 : elemT Tryd.prog 44 = some 3 := by kernel_rfl
@[go_sem] theorem tf_size45 : sizeT Tryd.prog 45 = 1 := by kernel_rfl
@[go_sem] theorem tf_agg45 : aggT Tryd.prog 45 = false := by kernel_rfl
@[go_sem] theorem tf_known45 : knownT Tryd.prog 45 = true := by kernel_rfl
@[go_sem] theorem tf_bytes45 : bytesT Tryd.prog 45 = 24 := by kernel_rfl
@[go_sem] theorem tf_zero45 (K : List AV → Prop) : zeroCellsT Tryd.prog 45 K = K [.r (.v (.slice none 0 0))] := by kernel_rfl
@[go_sem] theorem tf_zis45 : (zeroT Tryd.prog 45).isSome = true := by kernel_rfl
@[go_sem] theorem tf_int45 : intT Tryd.prog 45 = none := by kernel_rfl
@[go_sem] theorem tf_flo45 : floatT Tryd.prog 45 = none := by kernel_rfl
@[go_sem] theorem tf_sl45 : sliceT Tryd.prog 45 = true := by kernel_rfl
@[go_sem] theorem tf_str45 : stringT Tryd.prog 45 = false := by kernel_rfl
@[go_sem] theorem tf_bool45 : boolT Tryd.prog 45 = false := by kernel_rfl
@[go_sem] theorem tf_ptr45 : ptrT Tryd.prog 45 = false := by kernel_rfl
@[go_sem] theorem tf_zval45 : zeroT Tryd.prog 45 = some (.slice none 0 0) := by kernel_rfl
@[go_sem] theorem tf_elem45 : elemT Tryd.prog 45 = some 43 := by kernel_rfl
@[go_sem] theorem tf_size47 : sizeT Tryd.prog 47 = 5 := by kernel_rfl
@[go_sem] theorem tf_agg47 : aggT Tryd.prog 47 = true := by kernel_rfl
@[go_sem] theorem tf_known47 : knownT Tryd.prog 47 = true := by kernel_rfl
@[go_sem] theorem tf_bytes47 : bytesT Tryd.prog 47 = 72 := by kernel_rfl
@[go_sem] theorem tf_zero47 (K : List AV → Prop) : zeroCellsT Tryd.prog 47 K = K [.r (.v (.int .i64 0)), .r (.v (.int .i64 0)), .r (.v (.bool false)), .r (.v (.slice none 0 0)), .r (.v (.slice none 0 0))] := by kernel_rfl
@[go_sem] theorem tf_zis47 : (zeroT Tryd.prog 47).isSome = true := by kernel_rfl
@[go_sem] theorem tf_int47 : intT Tryd.prog 47 = none := by kernel_rfl
@[go_sem] theorem tf_flo47 : floatT Tryd.prog 47 = none := by kernel_rfl
@[go_sem] theorem tf_sl47 : sliceT Tryd.prog 47 = false := by kernel_rfl
@[go_sem] theorem tf_str47 : stringT Tryd.prog 47 = false := by kernel_rfl
@[go_sem] theorem tf_bool47 : boolT Tryd.prog 47 = false := by kernel_rfl
@[go_sem] theorem tf_ptr47 : ptrT Tryd.prog 47 = false := by kernel_rfl
@[go_sem] theorem tf_elem47 : elemT Tryd.prog 47 = none := by kernel_rfl
@[go_sem] theorem tf_struct47 : structT Tryd.prog 47 = true := by kernel_rfl
@[go_sem] theorem tf_bld47 : buildT Tryd.prog 47 = true := by kernel_rfl
@[go_sem] theorem tf_eqg47 : Tryd.prog.eqGuardType Tryd.prog.depth 47 = false := by kernel_rfl
@[go_sem] theorem tf_f47_0 : fieldT Tryd.prog 47 0 = some (0, 1) := by kernel_rfl
@[go_sem] theorem tf_part47_0 : partT Tryd.prog 47 0 = some (0, 1) := by kernel_rfl
@[go_sem] theorem tf_f47_1 : fieldT Tryd.prog 47 1 = some (1, 1) := by kernel_rfl
@[go_sem] theorem tf_part47_1 : partT Tryd.prog 47 1 = some (1, 1) := by kernel_rfl
@[go_sem] theorem tf_f47_2 : fieldT Tryd.prog 47 2 = some (2, 1) := by kernel_rfl
@[go_sem] theorem tf_part47_2 : partT Tryd.prog 47 2 = some (2, 1) := by kernel_rfl
@[go_sem] theorem tf_f47_3 : fieldT Tryd.prog 47 3 = some (3, 1) := by kernel_rfl
@[go_sem] theorem tf_part47_3 : partT Tryd.prog 47 3 = some (3, 1) := by kernel_rfl
@[go_sem] theorem tf_f47_4 : fieldT Tryd.prog 47 4 = some (4, 1) := by kernel_rfl
@[go_sem] theorem tf_part47_4 : partT Tryd.prog 47 4 = some (4, 1) := by kernel_rfl
@[go_sem] theorem tf_size49 : sizeT Tryd.prog 49 = 1 := by kernel_rfl
@[go_sem] theorem tf_agg49 : aggT Tryd.prog 49 = false := by kernel_rfl
@[go_sem] theorem tf_known49 : knownT Tryd.prog 49 = true := by kernel_rfl
@[go_sem] theorem tf_bytes49 : bytesT Tryd.prog 49 = 24 := by kernel_rfl
@[go_sem] theorem tf_zero49 (K : List AV → Prop) : zeroCellsT Tryd.prog 49 K = K [.r (.v (.slice none 0 0))] := by kernel_rfl
@[go_sem] theorem tf_zis49 : (zeroT Tryd.prog 49).isSome = true := by kernel_rfl
@[go_sem] theorem tf_int49 : intT Tryd.prog 49 = none := by kernel_rfl
@[go_sem] theorem tf_flo49 : floatT Tryd.prog 49 = none := by kernel_rfl
@[go_sem] theorem tf_sl49 : sliceT Tryd.prog 49 = true := by kernel_rfl
@[go_sem] theorem tf_str49 : stringT Tryd.prog 49 = false := by kernel_rfl
@[go_sem] theorem tf_bool49 : boolT Tryd.prog 49 = false := by kernel_rfl
@[go_sem] theorem tf_ptr49 : ptrT Tryd.prog 49 = false := by kernel_rfl
@[go_sem] theorem tf_zval49 : zeroT Tryd.prog 49 = some (.slice none 0 0) := by kernel_rfl
@[go_sem] theorem tf_elem49 : elemT Tryd.prog 49 = some 51 := by kernel_rfl
@[go_sem] theorem tf_size51 : sizeT Tryd.prog 51 = 2 := by kernel_rfl
@[go_sem] theorem tf_agg51 : aggT Tryd.prog 51 = true := by kernel_rfl
@[go_sem] theorem tf_known51 : knownT Tryd.prog 51 = true := by kernel_rfl
@[go_sem] theorem tf_bytes51 : bytesT Tryd.prog 51 = 16 := by kernel_rfl
@[go_sem] theorem tf_zero51 (K : List AV → Prop) : zeroCellsT Tryd.prog 51 K = K [.r (.v (.int .i64 0)), .r (.v (.int .i64 0))] := by kernel_rfl
@[go_sem] theorem tf_zis51 : (zeroT Tryd.prog 51).isSome = true := by kernel_rfl
@[go_sem] theorem tf_int51 : intT Tryd.prog 51 = none := by kernel_rfl
@[go_sem] theorem tf_flo51 : floatT Tryd.prog 51 = none := by kernel_rfl
@[go_sem] theorem tf_sl51 : sliceT Tryd.prog 51 = false := by kernel_rfl
@[go_sem] theorem tf_str51 : stringT Tryd.prog 51 = false := by kernel_rfl
@[go_sem] theorem tf_bool51 : boolT Tryd.prog 51 = false := by kernel_rfl
@[go_sem] theorem tf_ptr51 : ptrT Tryd.prog 51 = false := by kernel_rfl
@[go_sem] theorem tf_elem51 : elemT Tryd.prog 51 = none := by kernel_rfl
@[go_sem] theorem tf_struct51 : structT Tryd.prog 51 = true := by kernel_rfl
@[go_sem] theorem tf_bld51 : buildT Tryd.prog 51 = true := by kernel_rfl
@[go_sem] theorem tf_eqg51 : Tryd.prog.eqGuardType Tryd.prog.depth 51 = false := by kernel_rfl
@[go_sem] theorem tf_f51_0 : fieldT Tryd.prog 51 0 = some (0, 1) := by kernel_rfl
@[go_sem] theorem tf_part51_0 : partT Tryd.prog 51 0 = some (0, 1) := by kernel_rfl
@[go_sem] theorem tf_f51_1 : fieldT Tryd.prog 51 1 = some (1, 1) := by kernel_rfl
@[go_sem] theorem tf_part51_1 : partT Tryd.prog 51 1 = some (1, 1) := by kernel_rfl
@[go_sem] theorem tf_kinds51 : kindsT Tryd.prog 8 51 = some [0, 0] := by kernel_rfl
@[go_sem] theorem tf_size59 : sizeT Tryd.prog 59 = 1 := by kernel_rfl
@[go_sem] theorem tf_agg59 : aggT Tryd.prog 59 = false := by kernel_rfl
@[go_sem] theorem tf_known59 : knownT Tryd.prog 59 = true := by kernel_rfl
@[go_sem] theorem tf_bytes59 : bytesT Tryd.prog 59 = 24 := by kernel_rfl
@[go_sem] theorem tf_zero59 (K : List AV → Prop) : zeroCellsT Tryd.prog 59 K = K [.r (.v (.slice none 0 0))] := by kernel_rfl
@[go_sem] theorem tf_zis59 : (zeroT Tryd.prog 59).isSome = true := by kernel_rfl
@[go_sem] theorem tf_int59 : intT Tryd.prog 59 = none := by kernel_rfl
@[go_sem] theorem tf_flo59 : floatT Tryd.prog 59 = none := by kernel_rfl
@[go_sem] theorem tf_sl59 : sliceT Tryd.prog 59 = true := by kernel_rfl
@[go_sem] theorem tf_str59 : stringT Tryd.prog 59 = false := by kernel_rfl
@[go_sem] theorem tf_bool59 : boolT Tryd.prog 59 = false := by kernel_rfl
@[go_sem] theorem tf_ptr59 : ptrT Tryd.prog 59 = false := by kernel_rfl
@[go_sem] theorem tf_zval59 : zeroT Tryd.prog 59 = some (.slice none 0 0) := by kernel_rfl
@[go_sem] theorem tf_elem59 : elemT Tryd.prog 59 = some 63 := by kernel_rfl
@[go_sem] theorem tf_size63 : sizeT Tryd.prog 63 = 2 := by kernel_rfl
@[go_sem] theorem tf_agg63 : aggT Tryd.prog 63 = true := by kernel_rfl
@[go_sem] theorem tf_known63 : knownT Tryd.prog 63 = true := by kernel_rfl
@[go_sem] theorem tf_bytes63 : bytesT Tryd.prog 63 = 32 := by kernel_rfl
@[go_sem] theorem tf_zero63 (K : List AV → Prop) : zeroCellsT Tryd.prog 63 K = K [.r (.v (.bool false)), .r (.v (.slice none 0 0))] := by kernel_rfl
@[go_sem] theorem tf_zis63 : (zeroT Tryd.prog 63).isSome = true := by kernel_rfl
@[go_sem] theorem tf_int63 : intT Tryd.prog 63 = none := by kernel_rfl
@[go_sem] theorem tf_flo63 : floatT Tryd.prog 63 = none := by kernel_rfl
@[go_sem] theorem tf_sl63 : sliceT Tryd.prog 63 = false := by kernel_rfl
@[go_sem] theorem tf_str63 : stringT Tryd.prog 63 = false := by kernel_rfl
@[go_sem] theorem tf_bool63 : boolT Tryd.prog 63 = false := by kernel_rfl
@[go_sem] theorem tf_ptr63 : ptrT Tryd.prog 63 = false := by kernel_rfl
@[go_sem] theorem tf_elem63 : elemT Tryd.prog 63 = none := by kernel_rfl
@[go_sem] theorem tf_struct63 : structT Tryd.prog 63 = true := by kernel_rfl
@[go_sem] theorem tf_bld63 : buildT Tryd.prog 63 = true := by kernel_rfl
@[go_sem] theorem tf_eqg63 : Tryd.prog.eqGuardType Tryd.prog.depth 63 = false := by kernel_rfl
@[go_sem] theorem tf_f63_0 : fieldT Tryd.prog 63 0 = some (0, 1) := by kernel_rfl
@[go_sem] theorem tf_part63_0 : partT Tryd.prog 63 0 = some (0, 1) := by kernel_rfl
@[go_sem] theorem tf_f63_1 : fieldT Tryd.prog 63 1 = some (1, 1) := by kernel_rfl
@[go_sem] theorem tf_part63_1 : partT Tryd.prog 63 1 = some (1, 1) := by kernel_rfl
@[go_sem] theorem tf_size68 : sizeT Tryd.prog 68 = 1 := by kernel_rfl
@[go_sem] theorem tf_agg68 : aggT Tryd.prog 68 = false := by kernel_rfl
@[go_sem] theorem tf_known68 : knownT Tryd.prog 68 = true := by kernel_rfl
@[go_sem] theorem tf_bytes68 : bytesT Tryd.prog 68 = 8 := by kernel_rfl
@[go_sem] theorem tf_zero68 (K : List AV → Prop) : zeroCellsT Tryd.prog 68 K = K [.r (.v (.float .f64 0))] := by kernel_rfl
@[go_sem] theorem tf_zis68 : (zeroT Tryd.prog 68).isSome = true := by kernel_rfl
@[go_sem] theorem tf_int68 : intT Tryd.prog 68 = none := by kernel_rfl
@[go_sem] theorem tf_flo68 : floatT Tryd.prog 68 = some .f64 := by kernel_rfl
@[go_sem] theorem tf_sl68 : sliceT Tryd.prog 68 = false := by kernel_rfl
@[go_sem] theorem tf_str68 : stringT Tryd.prog 68 = false := by kernel_rfl
@[go_sem] theorem tf_bool68 : boolT Tryd.prog 68 = false := by kernel_rfl
@[go_sem] theorem tf_ptr68 : ptrT Tryd.prog 68 = false := by kernel_rfl
@[go_sem] theorem tf_elem68 : elemT Tryd.prog 68 = none := by kernel_rfl
@[go_sem] theorem tf_size72 : sizeT Tryd.prog 72 = 1 := by kernel_rfl
@[go_sem] theorem tf_agg72 : aggT Tryd.prog 72 = false := by kernel_rfl
@[go_sem] theorem tf_known72 : knownT Tryd.prog 72 = true := by kernel_rfl
@[go_sem] theorem tf_bytes72 : bytesT Tryd.prog 72 = 24 := by kernel_rfl
@[go_sem] theorem tf_zero72 (K : List AV → Prop) : zeroCellsT Tryd.prog 72 K = K [.r (.v (.slice none 0 0))] := by kernel_rfl
@[go_sem] theorem tf_zis72 : (zeroT Tryd.prog 72).isSome = true := by kernel_rfl
@[go_sem] theorem tf_int72 : intT Tryd.prog 72 = none := by kernel_rfl
@[go_sem] theorem tf_flo72 : floatT Tryd.prog 72 = none := by kernel_rfl
@[go_sem] theorem tf_sl72 : sliceT Tryd.prog 72 = true := by kernel_rfl
@[go_sem] theorem tf_str72 : stringT Tryd.prog 72 = false := by kernel_rfl
@[go_sem] theorem tf_bool72 : boolT Tryd.prog 72 = false := by kernel_rfl
@[go_sem] theorem tf_ptr72 : ptrT Tryd.prog 72 = false := by kernel_rfl
@[go_sem] theorem tf_zval72 : zeroT Tryd.prog 72 = some (.slice none 0 0) := by kernel_rfl
@[go_sem] theorem tf_elem72 : elemT Tryd.prog 72 = some 68 := by kernel_rfl
@[go_sem] theorem tf_size84 : sizeT Tryd.prog 84 = 1 := by kernel_rfl
@[go_sem] theorem tf_agg84 : aggT Tryd.prog 84 = false := by kernel_rfl
@[go_sem] theorem tf_known84 : knownT Tryd.prog 84 = true := by kernel_rfl
@[go_sem] theorem tf_bytes84 : bytesT Tryd.prog 84 = 8 := by kernel_rfl
@[go_sem] theorem tf_zero84 (K : List AV → Prop) : zeroCellsT Tryd.prog 84 K = K [.r (.v (.int .u64 0))] := by kernel_rfl
@[go_sem] theorem tf_zis84 : (zeroT Tryd.prog 84).isSome = true := by kernel_rfl
@[go_sem] theorem tf_int84 : intT Tryd.prog 84 = some .u64 := by kernel_rfl
@[go_sem] theorem tf_flo84 : floatT Tryd.prog 84 = none := by kernel_rfl
@[go_sem] theorem tf_sl84 : sliceT Tryd.prog 84 = false := by kernel_rfl
@[go_sem] theorem tf_str84 : stringT Tryd.prog 84 = false := by kernel_rfl
@[go_sem] theorem tf_bool84 : boolT Tryd.prog 84 = false := by kernel_rfl
@[go_sem] theorem tf_ptr84 : ptrT Tryd.prog 84 = false := by kernel_rfl
@[go_sem] theorem tf_zval84 : zeroT Tryd.prog 84 = some (.int .u64 0) := by kernel_rfl
@[go_sem] theorem tf_elem84 : elemT Tryd.prog 84 = none := by kernel_rfl
@[go_sem] theorem tf_size87 : sizeT Tryd.prog 87 = 256 := by kernel_rfl
@[go_sem] theorem tf_agg87 : aggT Tryd.prog 87 = true := by kernel_rfl
@[go_sem] theorem tf_known87 : knownT Tryd.prog 87 = true := by kernel_rfl
@[go_sem] theorem tf_bytes87 : bytesT Tryd.prog 87 = 256 := by kernel_rfl
@[go_sem] theorem tf_int87 : intT Tryd.prog 87 = none := by kernel_rfl
@[go_sem] theorem tf_flo87 : floatT Tryd.prog 87 = none := by kernel_rfl
@[go_sem] theorem tf_sl87 : sliceT Tryd.prog 87 = false := by kernel_rfl
@[go_sem] theorem tf_str87 : stringT Tryd.prog 87 = false := by kernel_rfl
@[go_sem] theorem tf_bool87 : boolT Tryd.prog 87 = false := by kernel_rfl
@[go_sem] theorem tf_ptr87 : ptrT Tryd.prog 87 = false := by kernel_rfl
@[go_sem] theorem tf_elem87 : elemT Tryd.prog 87 = none := by kernel_rfl
@[go_sem] theorem tf_arr87 : arrT Tryd.prog 87 = some (256, 5) := by kernel_rfl
@[go_sem] theorem tf_bld87 : buildT Tryd.prog 87 = true := by kernel_rfl
@[go_sem] theorem tf_size90 : sizeT Tryd.prog 90 = 1 := by kernel_rfl
@[go_sem] theorem tf_agg90 : aggT Tryd.prog 90 = false := by kernel_rfl
@[go_sem] theorem tf_known90 : knownT Tryd.prog 90 = true := by kernel_rfl
@[go_sem] theorem tf_bytes90 : bytesT Tryd.prog 90 = 8 := by kernel_rfl
@[go_sem] theorem tf_zero90 (K : List AV → Prop) : zeroCellsT Tryd.prog 90 K = K [.r (.v (.pointer none))] := by kernel_rfl
@[go_sem] theorem tf_zis90 : (zeroT Tryd.prog 90).isSome = true := by kernel_rfl
@[go_sem] theorem tf_int90 : intT Tryd.prog 90 = none := by kernel_rfl
@[go_sem] theorem tf_flo90 : floatT Tryd.prog 90 = none := by kernel_rfl
@[go_sem] theorem tf_sl90 : sliceT Tryd.prog 90 = false := by kernel_rfl
@[go_sem] theorem tf_str90 : stringT Tryd.prog 90 = false := by kernel_rfl
@[go_sem] theorem tf_bool90 : boolT Tryd.prog 90 = false := by kernel_rfl
@[go_sem] theorem tf_ptr90 : ptrT Tryd.prog 90 = true := by kernel_rfl
@[go_sem] theorem tf_elem90 : elemT Tryd.prog 90 = none := by kernel_rfl
@[go_sem] theorem tf_size92 : sizeT Tryd.prog 92 = 9 := by kernel_rfl
@[go_sem] theorem tf_agg92 : aggT Tryd.prog 92 = true := by kernel_rfl
@[go_sem] theorem tf_known92 : knownT Tryd.prog 92 = true := by kernel_rfl
@[go_sem] theorem tf_bytes92 : bytesT Tryd.prog 92 = 152 := by kernel_rfl
@[go_sem] theorem tf_zero92 (K : List AV → Prop) : zeroCellsT Tryd.prog 92 K = K [.r (.v (.int .i64 0)), .r (.v (.int .i64 0)), .r (.v (.bool false)), .r (.v (.slice none 0 0)), .r (.v (.slice none 0 0)), .r (.v (.slice none 0 0)), .r (.v (.slice none 0 0)), .r (.v (.slice none 0 0)), .r (.v (.bool false))] := by kernel_rfl
@[go_sem] theorem tf_zis92 : (zeroT Tryd.prog 92).isSome = true := by kernel_rfl
@[go_sem] theorem tf_int92 : intT Tryd.prog 92 = none := by kernel_rfl
@[go_sem] theorem tf_flo92 : floatT Tryd.prog 92 = none := by kernel_rfl
@[go_sem] theorem tf_sl92 : sliceT Tryd.prog 92 = false := by kernel_rfl
@[go_sem] theorem tf_str92 : stringT Tryd.prog 92 = false := by kernel_rfl
@[go_sem] theorem tf_bool92 : boolT Tryd.prog 92 = false := by kernel_rfl
@[go_sem] theorem tf_ptr92 : ptrT Tryd.prog 92 = false := by kernel_rfl
@[go_sem] theorem tf_elem92 : elemT Tryd.prog 92 = none := by kernel_rfl
@[go_sem] theorem tf_struct92 : structT Tryd.prog 92 = true := by kernel_rfl
@[go_sem] theorem tf_bld92 : buildT Tryd.prog 92 = true := by kernel_rfl
@[go_sem] theorem tf_eqg92 : Tryd.prog.eqGuardType Tryd.prog.depth 92 = false := by kernel_rfl
@[go_sem] theorem tf_f92_0 : fieldT Tryd.prog 92 0 = some (0, 5) := by kernel_rfl
@[go_sem] theorem tf_part92_0 : partT Tryd.prog 92 0 = some (0, 5) := by kernel_rfl
@[go_sem] theorem tf_f92_1 : fieldT Tryd.prog 92 1 = some (5, 1) := by kernel_rfl
@[go_sem] theorem tf_part92_1 : partT Tryd.prog 92 1 = some (5, 1) := by kernel_rfl
@[go_sem] theorem tf_f92_2 : fieldT Tryd.prog 92 2 = some (6, 1) := by kernel_rfl
@[go_sem] theorem tf_part92_2 : partT Tryd.prog 92 2 = some (6, 1) := by kernel_rfl
@[go_sem] theorem tf_f92_3 : fieldT Tryd.prog 92 3 = some (7, 1) := by kernel_rfl
@[go_sem] theorem tf_part92_3 : partT Tryd.prog 92 3 = some (7, 1) := by kernel_rfl
@[go_sem] theorem tf_f92_4 : fieldT Tryd.prog 92 4 = some (8, 1) := by kernel_rfl
@[go_sem] theorem tf_part92_4 : partT Tryd.prog 92 4 = some (8, 1) := by kernel_rfl
@[go_sem] theorem tf_size98 : sizeT Tryd.prog 98 = 1 := by kernel_rfl
@[go_sem] theorem tf_agg98 : aggT Tryd.prog 98 = false := by kernel_rfl
@[go_sem] theorem tf_known98 : knownT Tryd.prog 98 = true := by kernel_rfl
@[go_sem] theorem tf_bytes98 : bytesT Tryd.prog 98 = 8 := by kernel_rfl
@[go_sem] theorem tf_zero98 (K : List AV → Prop) : zeroCellsT Tryd.prog 98 K = K [.r (.v (.map none))] := by kernel_rfl
@[go_sem] theorem tf_zis98 : (zeroT Tryd.prog 98).isSome = true := by kernel_rfl
@[go_sem] theorem tf_int98 : intT Tryd.prog 98 = none := by kernel_rfl
@[go_sem] theorem tf_flo98 : floatT Tryd.prog 98 = none := by kernel_rfl
@[go_sem] theorem tf_sl98 : sliceT Tryd.prog 98 = false := by kernel_rfl
@[go_sem] theorem tf_str98 : stringT Tryd.prog 98 = false := by kernel_rfl
@[go_sem] theorem tf_bool98 : boolT Tryd.prog 98 = false := by kernel_rfl
@[go_sem] theorem tf_ptr98 : ptrT Tryd.prog 98 = false := by kernel_rfl
@[go_sem] theorem tf_elem98 : elemT Tryd.prog 98 = none := by kernel_rfl
@[go_sem] theorem tf_map98 : mapT Tryd.prog 98 = some (9, 3) := by kernel_rfl
@[go_sem] theorem tf_size102 : sizeT Tryd.prog 102 = 8 := by kernel_rfl
@[go_sem] theorem tf_agg102 : aggT Tryd.prog 102 = true := by kernel_rfl
@[go_sem] theorem tf_known102 : knownT Tryd.prog 102 = true := by kernel_rfl
@[go_sem] theorem tf_bytes102 : bytesT Tryd.prog 102 = 144 := by kernel_rfl
@[go_sem] theorem tf_zero102 (K : List AV → Prop) : zeroCellsT Tryd.prog 102 K = K [.r (.v (.slice none 0 0)), .r (.v (.slice none 0 0)), .r (.v (.slice none 0 0)), .r (.v (.int .i64 0)), .r (.v (.int .i64 0)), .r (.v (.bool false)), .r (.v (.slice none 0 0)), .r (.v (.slice none 0 0))] := by kernel_rfl
@[go_sem] theorem tf_zis102 : (zeroT Tryd.prog 102).isSome = true := by kernel_rfl
@[go_sem] theorem tf_int102 : intT Tryd.prog 102 = none := by kernel_rfl
@[go_sem] theorem tf_flo102 : floatT Tryd.prog 102 = none := by kernel_rfl
@[go_sem] theorem tf_sl102 : sliceT Tryd.prog 102 = false := by kernel_rfl
@[go_sem] theorem tf_str102 : stringT Tryd.prog 102 = false := by kernel_rfl
@[go_sem] theorem tf_bool102 : boolT Tryd.prog 102 = false := by kernel_rfl
@[go_sem] theorem tf_ptr102 : ptrT Tryd.prog 102 = false := by kernel_rfl
@[go_sem] theorem tf_elem102 : elemT Tryd.prog 102 = none := by kernel_rfl
@[go_sem] theorem tf_struct102 : structT Tryd.prog 102 = true := by kernel_rfl
@[go_sem] theorem tf_bld102 : buildT Tryd.prog 102 = true := by kernel_rfl
@[go_sem] theorem tf_eqg102 : Tryd.prog.eqGuardType Tryd.prog.depth 102 = false := by kernel_rfl
@[go_sem] theorem tf_f102_0 : fieldT Tryd.prog 102 0 = some (0, 3) := by kernel_rfl
@[go_sem] theorem tf_part102_0 : partT Tryd.prog 102 0 = some (0, 3) := by kernel_rfl
@[go_sem] theorem tf_f102_1 : fieldT Tryd.prog 102 1 = some (3, 5) := by kernel_rfl
@[go_sem] theorem tf_part102_1 : partT Tryd.prog 102 1 = some (3, 5) := by kernel_rfl
@[go_sem] theorem tf_size105 : sizeT Tryd.prog 105 = 3 := by kernel_rfl
@[go_sem] theorem tf_agg105 : aggT Tryd.prog 105 = true := by kernel_rfl
@[go_sem] theorem tf_known105 : knownT Tryd.prog 105 = true := by kernel_rfl
@[go_sem] theorem tf_bytes105 : bytesT Tryd.prog 105 = 24 := by kernel_rfl
@[go_sem] theorem tf_zero105 (K : List AV → Prop) : zeroCellsT Tryd.prog 105 K = K [.r (.v (.int .i64 0)), .r (.v (.int .i64 0)), .r (.v (.int .i64 0))] := by kernel_rfl
@[go_sem] theorem tf_zis105 : (zeroT Tryd.prog 105).isSome = true := by kernel_rfl
@[go_sem] theorem tf_int105 : intT Tryd.prog 105 = none := by kernel_rfl
@[go_sem] theorem tf_flo105 : floatT Tryd.prog 105 = none := by kernel_rfl
@[go_sem] theorem tf_sl105 : sliceT Tryd.prog 105 = false := by kernel_rfl
@[go_sem] theorem tf_str105 : stringT Tryd.prog 105 = false := by kernel_rfl
@[go_sem] theorem tf_bool105 : boolT Tryd.prog 105 = false := by kernel_rfl
@[go_sem] theorem tf_ptr105 : ptrT Tryd.prog 105 = false := by kernel_rfl
@[go_sem] theorem tf_elem105 : elemT Tryd.prog 105 = none := by kernel_rfl
@[go_sem] theorem tf_arr105 : arrT Tryd.prog 105 = some (3, 3) := by kernel_rfl
@[go_sem] theorem tf_bld105 : buildT Tryd.prog 105 = true := by kernel_rfl
@[go_sem] theorem tf_part105_0 : partT Tryd.prog 105 0 = some (0, 1) := by kernel_rfl
@[go_sem] theorem tf_part105_1 : partT Tryd.prog 105 1 = some (1, 1) := by kernel_rfl
@[go_sem] theorem tf_part105_2 : partT Tryd.prog 105 2 = some (2, 1) := by kernel_rfl
@[go_sem] theorem tf_size107 : sizeT Tryd.prog 107 = 1 := by kernel_rfl
@[go_sem] theorem tf_agg107 : aggT Tryd.prog 107 = false := by kernel_rfl
@[go_sem] theorem tf_known107 : knownT Tryd.prog 107 = true := by kernel_rfl
@[go_sem] theorem tf_bytes107 : bytesT Tryd.prog 107 = 24 := by kernel_rfl
@[go_sem] theorem tf_zero107 (K : List AV → Prop) : zeroCellsT Tryd.prog 107 K = K [.r (.v (.slice none 0 0))] := by kernel_rfl
@[go_sem] theorem tf_zis107 : (zeroT Tryd.prog 107).isSome = true := by kernel_rfl
@[go_sem] theorem tf_int107 : intT Tryd.prog 107 = none := by kernel_rfl
@[go_sem] theorem tf_flo107 : floatT Tryd.prog 107 = none := by kernel_rfl
@[go_sem] theorem tf_sl107 : sliceT Tryd.prog 107 = true := by kernel_rfl
@[go_sem] theorem tf_str107 : stringT Tryd.prog 107 = false := by kernel_rfl
@[go_sem] theorem tf_bool107 : boolT Tryd.prog 107 = false := by kernel_rfl
@[go_sem] theorem tf_ptr107 : ptrT Tryd.prog 107 = false := by kernel_rfl
@[go_sem] theorem tf_zval107 : zeroT Tryd.prog 107 = some (.slice none 0 0) := by kernel_rfl
@[go_sem] theorem tf_elem107 : elemT Tryd.prog 107 = some 109 := by kernel_rfl
@[go_sem] theorem tf_size109 : sizeT Tryd.prog 109 = 2 := by kernel_rfl
@[go_sem] theorem tf_agg109 : aggT Tryd.prog 109 = true := by kernel_rfl
@[go_sem] theorem tf_known109 : knownT Tryd.prog 109 = true := by kernel_rfl
@[go_sem] theorem tf_bytes109 : bytesT Tryd.prog 109 = 16 := by kernel_rfl
@[go_sem] theorem tf_zero109 (K : List AV → Prop) : zeroCellsT Tryd.prog 109 K = K [.r (.v (.int .i64 0)), .r (.v (.int .i64 0))] := by kernel_rfl
@[go_sem] theorem tf_zis109 : (zeroT Tryd.prog 109).isSome = true := by kernel_rfl
@[go_sem] theorem tf_int109 : intT Tryd.prog 109 = none := by kernel_rfl
@[go_sem] theorem tf_flo109 : floatT Tryd.prog 109 = none := by kernel_rfl
@[go_sem] theorem tf_sl109 : sliceT Tryd.prog 109 = false := by kernel_rfl
@[go_sem] theorem tf_str109 : stringT Tryd.prog 109 = false := by kernel_rfl
@[go_sem] theorem tf_bool109 : boolT Tryd.prog 109 = false := by kernel_rfl
@[go_sem] theorem tf_ptr109 : ptrT Tryd.prog 109 = false := by kernel_rfl
@[go_sem] theorem tf_elem109 : elemT Tryd.prog 109 = none := by kernel_rfl
@[go_sem] theorem tf_struct109 : structT Tryd.prog 109 = true := by kernel_rfl
@[go_sem] theorem tf_bld109 : buildT Tryd.prog 109 = true := by kernel_rfl
@[go_sem] theorem tf_eqg109 : Tryd.prog.eqGuardType Tryd.prog.depth 109 = false := by kernel_rfl
@[go_sem] theorem tf_f109_0 : fieldT Tryd.prog 109 0 = some (0, 1) := by kernel_rfl
@[go_sem] theorem tf_part109_0 : partT Tryd.prog 109 0 = some (0, 1) := by kernel_rfl
@[go_sem] theorem tf_f109_1 : fieldT Tryd.prog 109 1 = some (1, 1) := by kernel_rfl
@[go_sem] theorem tf_part109_1 : partT Tryd.prog 109 1 = some (1, 1) := by kernel_rfl
@[go_sem] theorem tf_kinds109 : kindsT Tryd.prog 8 109 = some [0, 0] := by kernel_rfl
@[go_sem] theorem tf_size110 : sizeT Tryd.prog 110 = 1 := by kernel_rfl
@[go_sem] theorem tf_agg110 : aggT Tryd.prog 110 = false := by kernel_rfl
@[go_sem] theorem tf_known110 : knownT Tryd.prog 110 = true := by kernel_rfl
@[go_sem] theorem tf_bytes110 : bytesT Tryd.prog 110 = 4 := by kernel_rfl
@[go_sem] theorem tf_zero110 (K : List AV → Prop) : zeroCellsT Tryd.prog 110 K = K [.r (.v (.int .u32 0))] := by kernel_rfl
@[go_sem] theorem tf_zis110 : (zeroT Tryd.prog 110).isSome = true := by kernel_rfl
@[go_sem] theorem tf_int110 : intT Tryd.prog 110 = some .u32 := by kernel_rfl
@[go_sem] theorem tf_flo110 : floatT Tryd.prog 110 = none := by kernel_rfl
@[go_sem] theorem tf_sl110 : sliceT Tryd.prog 110 = false := by kernel_rfl
@[go_sem] theorem tf_str110 : stringT Tryd.prog 110 = false := by kernel_rfl
@[go_sem] theorem tf_bool110 : boolT Tryd.prog 110 = false := by kernel_rfl
@[go_sem] theorem tf_ptr110 : ptrT Tryd.prog 110 = false := by kernel_rfl
@[go_sem] theorem tf_zval110 : zeroT Tryd.prog 110 = some (.int .u32 0) := by kernel_rfl
@[go_sem] theorem tf_elem110 : elemT Tryd.prog 110 = none := by kernel_rfl
@[go_sem] theorem tf_size112 : sizeT Tryd.prog 112 = 1 := by kernel_rfl
@[go_sem] theorem tf_agg112 : aggT Tryd.prog 112 = false := by kernel_rfl
@[go_sem] theorem tf_known112 : knownT Tryd.prog 112 = true := by kernel_rfl
@[go_sem] theorem tf_bytes112 : bytesT Tryd.prog 112 = 8 := by kernel_rfl
@[go_sem] theorem tf_zero112 (K : List AV → Prop) : zeroCellsT Tryd.prog 112 K = K [.r (.v (.pointer none))] := by kernel_rfl
@[go_sem] theorem tf_zis112 : (zeroT Tryd.prog 112).isSome = true := by kernel_rfl
@[go_sem] theorem tf_int112 : intT Tryd.prog 112 = none := by kernel_rfl
@[go_sem] theorem tf_flo112 : floatT Tryd.prog 112 = none := by kernel_rfl
@[go_sem] theorem tf_sl112 : sliceT Tryd.prog 112 = false := by kernel_rfl
@[go_sem] theorem tf_str112 : stringT Tryd.prog 112 = false := by kernel_rfl
@[go_sem] theorem tf_bool112 : boolT Tryd.prog 112 = false := by kernel_rfl
@[go_sem] theorem tf_ptr112 : ptrT Tryd.prog 112 = true := by kernel_rfl
@[go_sem] theorem tf_elem112 : elemT Tryd.prog 112 = none := by kernel_rfl
@[go_sem] theorem tf_size117 : sizeT Tryd.prog 117 = 1 := by kernel_rfl
@[go_sem] theorem tf_agg117 : aggT Tryd.prog 117 = false := by kernel_rfl
@[go_sem] theorem tf_known117 : knownT Tryd.prog 117 = true := by kernel_rfl
@[go_sem] theorem tf_bytes117 : bytesT Tryd.prog 117 = 24 := by kernel_rfl
@[go_sem] theorem tf_zero117 (K : List AV → Prop) : zeroCellsT Tryd.prog 117 K = K [.r (.v (.slice none 0 0))] := by kernel_rfl
@[go_sem] theorem tf_zis117 : (zeroT Tryd.prog 117).isSome = true := by kernel_rfl
@[go_sem] theorem tf_int117 : intT Tryd.prog 117 = none := by kernel_rfl
@[go_sem] theorem tf_flo117 : floatT Tryd.prog 117 = none := by kernel_rfl
@[go_sem] theorem tf_sl117 : sliceT Tryd.prog 117 = true := by kernel_rfl
@[go_sem] theorem tf_str117 : stringT Tryd.prog 117 = false := by kernel_rfl
@[go_sem] theorem tf_bool117 : boolT Tryd.prog 117 = false := by kernel_rfl
@[go_sem] theorem tf_ptr117 : ptrT Tryd.prog 117 = false := by kernel_rfl
@[go_sem] theorem tf_zval117 : zeroT Tryd.prog 117 = some (.slice none 0 0) := by kernel_rfl
@[go_sem] theorem tf_elem117 : elemT Tryd.prog 117 = some 123 := by kernel_rfl
@[go_sem] theorem tf_size118 : sizeT Tryd.prog 118 = 1 := by kernel_rfl
@[go_sem] theorem tf_agg118 : aggT Tryd.prog 118 = false := by kernel_rfl
@[go_sem] theorem tf_known118 : knownT Tryd.prog 118 = true := by kernel_rfl
@[go_sem] theorem tf_bytes118 : bytesT Tryd.prog 118 = 24 := by kernel_rfl
@[go_sem] theorem tf_zero118 (K : List AV → Prop) : zeroCellsT Tryd.prog 118 K = K [.r (.v (.slice none 0 0))] := by kernel_rfl
@[go_sem] theorem tf_zis118 : (zeroT Tryd.prog 118).isSome = true := by kernel_rfl
@[go_sem] theorem tf_int118 : intT Tryd.prog 118 = none := by kernel_rfl
@[go_sem] theorem tf_flo118 : floatT Tryd.prog 118 = none := by kernel_rfl
@[go_sem] theorem tf_sl118 : sliceT Tryd.prog 118 = true := by kernel_rfl
@[go_sem] theorem tf_str118 : stringT Tryd.prog 118 = false := by kernel_rfl
@[go_sem] theorem tf_bool118 : boolT Tryd.prog 118 = false := by kernel_rfl
@[go_sem] theorem tf_ptr118 : ptrT Tryd.prog 118 = false := by kernel_rfl
@[go_sem] theorem tf_zval118 : zeroT Tryd.prog 118 = some (.slice none 0 0) := by kernel_rfl
@[go_sem] theorem tf_elem118 : elemT Tryd.prog 118 = some 126 := by kernel_rfl
@[go_sem] theorem tf_size120 : sizeT Tryd.prog 120 = 3 := by kernel_rfl
@[go_sem] theorem tf_agg120 : aggT Tryd.prog 120 = true := by kernel_rfl
@[go_sem] theorem tf_known120 : knownT Tryd.prog 120 = true := by kernel_rfl
@[go_sem] theorem tf_bytes120 : bytesT Tryd.prog 120 = 56 := by kernel_rfl
@[go_sem] theorem tf_zero120 (K : List AV → Prop) : zeroCellsT Tryd.prog 120 K = K [.r (.v (.slice none 0 0)), .r (.v (.slice none 0 0)), .r (.v (.int .i64 0))] := by kernel_rfl
@[go_sem] theorem tf_zis120 : (zeroT Tryd.prog 120).isSome = true := by kernel_rfl
@[go_sem] theorem tf_int120 : intT Tryd.prog 120 = none := by kernel_rfl
@[go_sem] theorem tf_flo120 : floatT Tryd.prog 120 = none := by kernel_rfl
@[go_sem] theorem tf_sl120 : sliceT Tryd.prog 120 = false := by kernel_rfl
@[go_sem] theorem tf_str120 : stringT Tryd.prog 120 = false := by kernel_rfl
@[go_sem] theorem tf_bool120 : boolT Tryd.prog 120 = false := by kernel_rfl
@[go_sem] theorem tf_ptr120 : ptrT Tryd.prog 120 = false := by kernel_rfl
@[go_sem] theorem tf_elem120 : elemT Tryd.prog 120 = none := by kernel_rfl
@[go_sem] theorem tf_struct120 : structT Tryd.prog 120 = true := by kernel_rfl
@[go_sem] theorem tf_bld120 : buildT Tryd.prog 120 = true := by kernel_rfl
@[go_sem] theorem tf_eqg120 : Tryd.prog.eqGuardType Tryd.prog.depth 120 = false := by kernel_rfl
@[go_sem] theorem tf_f120_0 : fieldT Tryd.prog 120 0 = some (0, 1) := by kernel_rfl
@[go_sem] theorem tf_part120_0 : partT Tryd.prog 120 0 = some (0, 1) := by kernel_rfl
@[go_sem] theorem tf_f120_1 : fieldT Tryd.prog 120 1 = some (1, 1) := by kernel_rfl
@[go_sem] theorem tf_part120_1 : partT Tryd.prog 120 1 = some (1, 1) := by kernel_rfl
@[go_sem] theorem tf_f120_2 : fieldT Tryd.prog 120 2 = some (2, 1) := by kernel_rfl
@[go_sem] theorem tf_part120_2 : partT Tryd.prog 120 2 = some (2, 1) := by kernel_rfl
@[go_sem] theorem tf_size121 : sizeT Tryd.prog 121 = 1 := by kernel_rfl
@[go_sem] theorem tf_agg121 : aggT Tryd.prog 121 = false := by kernel_rfl
@[go_sem] theorem tf_known121 : knownT Tryd.prog 121 = true := by kernel_rfl
@[go_sem] theorem tf_bytes121 : bytesT Tryd.prog 121 = 2 := by kernel_rfl
@[go_sem] theorem tf_zero121 (K : List AV → Prop) : zeroCellsT Tryd.prog 121 K = K [.r (.v (.int .u16 0))] := by kernel_rfl
@[go_sem] theorem tf_zis121 : (zeroT Tryd.prog 121).isSome = true := by kernel_rfl
@[go_sem] theorem tf_int121 : intT Tryd.prog 121 = some .u16 := by kernel_rfl
@[go_sem] theorem tf_flo121 : floatT Tryd.prog 121 = none := by kernel_rfl
@[go_sem] theorem tf_sl121 : sliceT Tryd.prog 121 = false := by kernel_rfl
@[go_sem] theorem tf_str121 : stringT Tryd.prog 121 = false := by kernel_rfl
@[go_sem] theorem tf_bool121 : boolT Tryd.prog 121 = false := by kernel_rfl
@[go_sem] theorem tf_ptr121 : ptrT Tryd.prog 121 = false := by kernel_rfl
@[go_sem] theorem tf_zval121 : zeroT Tryd.prog 121 = some (.int .u16 0) := by kernel_rfl
@[go_sem] theorem tf_elem121 : elemT Tryd.prog 121 = none := by kernel_rfl
@[go_sem] theorem tf_size123 : sizeT Tryd.prog 123 = 3 := by kernel_rfl
@[go_sem] theorem tf_agg123 : aggT Tryd.prog 123 = true := by kernel_rfl
@[go_sem] theorem tf_known123 : knownT Tryd.prog 123 = true := by kernel_rfl
@[go_sem] theorem tf_bytes123 : bytesT Tryd.prog 123 = 6 := by kernel_rfl
@[go_sem] theorem tf_zero123 (K : List AV → Prop) : zeroCellsT Tryd.prog 123 K = K [.r (.v (.int .u16 0)), .r (.v (.int .u16 0)), .r (.v (.int .u16 0))] := by kernel_rfl
@[go_sem] theorem tf_zis123 : (zeroT Tryd.prog 123).isSome = true := by kernel_rfl
@[go_sem] theorem tf_int123 : intT Tryd.prog 123 = none := by kernel_rfl
@[go_sem] theorem tf_flo123 : floatT Tryd.prog 123 = none := by kernel_rfl
@[go_sem] theorem tf_sl123 : sliceT Tryd.prog 123 = false := by kernel_rfl
@[go_sem] theorem tf_str123 : stringT Tryd.prog 123 = false := by kernel_rfl
@[go_sem] theorem tf_bool123 : boolT Tryd.prog 123 = false := by kernel_rfl
@[go_sem] theorem tf_ptr123 : ptrT Tryd.prog 123 = false := by kernel_rfl
@[go_sem] theorem tf_elem123 : elemT Tryd.prog 123 = none := by kernel_rfl
@[go_sem] theorem tf_struct123 : structT Tryd.prog 123 = true := by kernel_rfl
@[go_sem] theorem tf_bld123 : buildT Tryd.prog 123 = true := by kernel_rfl
@[go_sem] theorem tf_eqg123 : Tryd.prog.eqGuardType Tryd.prog.depth 123 = false := by kernel_rfl
@[go_sem] theorem tf_f123_0 : fieldT Tryd.prog 123 0 = some (0, 1) := by kernel_rfl
@[go_sem] theorem tf_part123_0 : partT Tryd.prog 123 0 = some (0, 1) := by kernel_rfl
@[go_sem] theorem tf_f123_1 : fieldT Tryd.prog 123 1 = some (1, 1) := by kernel_rfl
@[go_sem] theorem tf_part123_1 : partT Tryd.prog 123 1 = some (1, 1) := by kernel_rfl
@[go_sem] theorem tf_f123_2 : fieldT Tryd.prog 123 2 = some (2, 1) := by kernel_rfl
@[go_sem] theorem tf_part123_2 : partT Tryd.prog 123 2 = some (2, 1) := by kernel_rfl
@[go_sem] theorem tf_kinds123 : kindsT Tryd.prog 8 123 = some [0, 0, 0] := by kernel_rfl
@[go_sem] theorem tf_size126 : sizeT Tryd.prog 126 = 3 := by kernel_rfl
@[go_sem] theorem tf_agg126 : aggT Tryd.prog 126 = true := by kernel_rfl
@[go_sem] theorem tf_known126 : knownT Tryd.prog 126 = true := by kernel_rfl
@[go_sem] theorem tf_bytes126 : bytesT Tryd.prog 126 = 12 := by kernel_rfl
@[go_sem] theorem tf_zero126 (K : List AV → Prop) : zeroCellsT Tryd.prog 126 K = K [.r (.v (.int .u32 0)), .r (.v (.int .u32 0)), .r (.v (.int .u32 0))] := by kernel_rfl
@[go_sem] theorem tf_zis126 : (zeroT Tryd.prog 126).isSome = true := by kernel_rfl
@[go_sem] theorem tf_int126 : intT Tryd.prog 126 = none := by kernel_rfl
@[go_sem] theorem tf_flo126 : floatT Tryd.prog 126 = none := by kernel_rfl
@[go_sem] theorem tf_sl126 : sliceT Tryd.prog 126 = false := by kernel_rfl
@[go_sem] theorem tf_str126 : stringT Tryd.prog 126 = false := by kernel_rfl
@[go_sem] theorem tf_bool126 : boolT Tryd.prog 126 = false := by kernel_rfl
@[go_sem] theorem tf_ptr126 : ptrT Tryd.prog 126 = false := by kernel_rfl
@[go_sem] theorem tf_elem126 : elemT Tryd.prog 126 = none := by kernel_rfl
@[go_sem] theorem tf_struct126 : structT Tryd.prog 126 = true := by kernel_rfl
@[go_sem] theorem tf_bld126 : buildT Tryd.prog 126 = true := by kernel_rfl
@[go_sem] theorem tf_eqg126 : Tryd.prog.eqGuardType Tryd.prog.depth 126 = false := by kernel_rfl
@[go_sem] theorem tf_f126_0 : fieldT Tryd.prog 126 0 = some (0, 1) := by kernel_rfl
@[go_sem] theorem tf_part126_0 : partT Tryd.prog 126 0 = some (0, 1) := by kernel_rfl
@[go_sem] theorem tf_f126_1 : fieldT Tryd.prog 126 1 = some (1, 1) := by kernel_rfl
@[go_sem] theorem tf_part126_1 : partT Tryd.prog 126 1 = some (1, 1) := by kernel_rfl
@[go_sem] theorem tf_f126_2 : fieldT Tryd.prog 126 2 = some (2, 1) := by kernel_rfl
@[go_sem] theorem tf_part126_2 : partT Tryd.prog 126 2 = some (2, 1) := by kernel_rfl
@[go_sem] theorem tf_kinds126 : kindsT Tryd.prog 8 126 = some [0, 0, 0] := by kernel_rfl
@[go_sem] theorem tf_size128 : sizeT Tryd.prog 128 = 39 := by kernel_rfl
@[go_sem] theorem tf_agg128 : aggT Tryd.prog 128 = true := by kernel_rfl
@[go_sem] theorem tf_known128 : knownT Tryd.prog 128 = true := by kernel_rfl
@[go_sem] theorem tf_bytes128 : bytesT Tryd.prog 128 = 624 := by kernel_rfl
@[go_sem] theorem tf_zero128 (K : List AV → Prop) : zeroCellsT Tryd.prog 128 K = K [.r (.v (.string ⟨#[]⟩)), .r (.v (.string ⟨#[]⟩)), .r (.v (.string ⟨#[]⟩)), .r (.v (.string ⟨#[]⟩)), .r (.v (.string ⟨#[]⟩)), .r (.v (.string ⟨#[]⟩)), .r (.v (.string ⟨#[]⟩)), .r (.v (.string ⟨#[]⟩)), .r (.v (.string ⟨#[]⟩)), .r (.v (.string ⟨#[]⟩)), .r (.v (.string ⟨#[]⟩)), .r (.v (.string ⟨#[]⟩)), .r (.v (.string ⟨#[]⟩)), .r (.v (.string ⟨#[]⟩)), .r (.v (.string ⟨#[]⟩)), .r (.v (.string ⟨#[]⟩)), .r (.v (.string ⟨#[]⟩)), .r (.v (.string ⟨#[]⟩)), .r (.v (.string ⟨#[]⟩)), .r (.v (.string ⟨#[]⟩)), .r (.v (.string ⟨#[]⟩)), .r (.v (.string ⟨#[]⟩)), .r (.v (.string ⟨#[]⟩)), .r (.v (.string ⟨#[]⟩)), .r (.v (.string ⟨#[]⟩)), .r (.v (.string ⟨#[]⟩)), .r (.v (.string ⟨#[]⟩)), .r (.v (.string ⟨#[]⟩)), .r (.v (.string ⟨#[]⟩)), .r (.v (.string ⟨#[]⟩)), .r (.v (.string ⟨#[]⟩)), .r (.v (.string ⟨#[]⟩)), .r (.v (.string ⟨#[]⟩)), .r (.v (.string ⟨#[]⟩)), .r (.v (.string ⟨#[]⟩)), .r (.v (.string ⟨#[]⟩)), .r (.v (.string ⟨#[]⟩)), .r (.v (.string ⟨#[]⟩)), .r (.v (.string ⟨#[]⟩))] := by kernel_rfl
@[go_sem] theorem tf_zis128 : (zeroT Tryd.prog 128).isSome = true := by kernel_rfl
@[go_sem] theorem tf_int128 : intT Tryd.prog 128 = none := by kernel_rfl
@[go_sem] theorem tf_flo128 : floatT Tryd.prog 128 = none := by kernel_rfl
@[go_sem] theorem tf_sl128 : sliceT Tryd.prog 128 = false := by kernel_rfl
@[go_sem] theorem tf_str128 : stringT Tryd.prog 128 = false := by kernel_rfl
@[go_sem] theorem tf_bool128 : boolT Tryd.prog 128 = false := by kernel_rfl
@[go_sem] theorem tf_ptr128 : ptrT Tryd.prog 128 = false := by kernel_rfl
@[go_sem] theorem tf_elem128 : elemT Tryd.prog 128 = none := by kernel_rfl
@[go_sem] theorem tf_arr128 : arrT Tryd.prog 128 = some (39, 9) := by kernel_rfl
@[go_sem] theorem tf_bld128 : buildT Tryd.prog 128 = true := by kernel_rfl
@[go_sem] theorem tf_part128_0 : partT Tryd.prog 128 0 = some (0, 1) := by kernel_rfl
@[go_sem] theorem tf_part128_1 : partT Tryd.prog 128 1 = some (1, 1) := by kernel_rfl
@[go_sem] theorem tf_part128_2 : partT Tryd.prog 128 2 = some (2, 1) := by kernel_rfl
@[go_sem] theorem tf_part128_3 : partT Tryd.prog 128 3 = some (3, 1) := by kernel_rfl
@[go_sem] theorem tf_part128_4 : partT Tryd.prog 128 4 = some (4, 1) := by kernel_rfl
@[go_sem] theorem tf_part128_5 : partT Tryd.prog 128 5 = some (5, 1) := by kernel_rfl
@[go_sem] theorem tf_part128_6 : partT Tryd.prog 128 6 = some (6, 1) := by kernel_rfl
@[go_sem] theorem tf_part128_7 : partT Tryd.prog 128 7 = some (7, 1) := by kernel_rfl
@[go_sem] theorem tf_part128_8 : partT Tryd.prog 128 8 = some (8, 1) := by kernel_rfl
@[go_sem] theorem tf_part128_9 : partT Tryd.prog 128 9 = some (9, 1) := by kernel_rfl
@[go_sem] theorem tf_part128_10 : partT Tryd.prog 128 10 = some (10, 1) := by kernel_rfl
@[go_sem] theorem tf_part128_11 : partT Tryd.prog 128 11 = some (11, 1) := by kernel_rfl
@[go_sem] theorem tf_part128_12 : partT Tryd.prog 128 12 = some (12, 1) := by kernel_rfl
@[go_sem] theorem tf_part128_13 : partT Tryd.prog 128 13 = some (13, 1) := by kernel_rfl
@[go_sem] theorem tf_part128_14 : partT Tryd.prog 128 14 = some (14, 1) := by kernel_rfl
@[go_sem] theorem tf_part128_15 : partT Tryd.prog 128 15 = some (15, 1) := by kernel_rfl
@[go_sem] theorem tf_part128_16 : partT Tryd.prog 128 16 = some (16, 1) := by kernel_rfl
@[go_sem] theorem tf_part128_17 : partT Tryd.prog 128 17 = some (17, 1) := by kernel_rfl
@[go_sem] theorem tf_part128_18 : partT Tryd.prog 128 18 = some (18, 1) := by kernel_rfl
@[go_sem] theorem tf_part128_19 : partT Tryd.prog 128 19 = some (19, 1) := by kernel_rfl
@[go_sem] theorem tf_part128_20 : partT Tryd.prog 128 20 = some (20, 1) := by kernel_rfl
@[go_sem] theorem tf_part128_21 : partT Tryd.prog 128 21 = some (21, 1) := by kernel_rfl
@[go_sem] theorem tf_part128_22 : partT Tryd.prog 128 22 = some (22, 1) := by kernel_rfl
@[go_sem] theorem tf_part128_23 : partT Tryd.prog 128 23 = some (23, 1) := by kernel_rfl
@[go_sem] theorem tf_part128_24 : partT Tryd.prog 128 24 = some (24, 1) := by kernel_rfl
@[go_sem] theorem tf_part128_25 : partT Tryd.prog 128 25 = some (25, 1) := by kernel_rfl
@[go_sem] theorem tf_part128_26 : partT Tryd.prog 128 26 = some (26, 1) := by kernel_rfl
@[go_sem] theorem tf_part128_27 : partT Tryd.prog 128 27 = some (27, 1) := by kernel_rfl
@[go_sem] theorem tf_part128_28 : partT Tryd.prog 128 28 = some (28, 1) := by kernel_rfl
@[go_sem] theorem tf_part128_29 : partT Tryd.prog 128 29 = some (29, 1) := by kernel_rfl
@[go_sem] theorem tf_part128_30 : partT Tryd.prog 128 30 = some (30, 1) := by kernel_rfl
@[go_sem] theorem tf_part128_31 : partT Tryd.prog 128 31 = some (31, 1) := by kernel_rfl
@[go_sem] theorem tf_part128_32 : partT Tryd.prog 128 32 = some (32, 1) := by kernel_rfl
@[go_sem] theorem tf_part128_33 : partT Tryd.prog 128 33 = some (33, 1) := by kernel_rfl
@[go_sem] theorem tf_part128_34 : partT Tryd.prog 128 34 = some (34, 1) := by kernel_rfl
@[go_sem] theorem tf_part128_35 : partT Tryd.prog 128 35 = some (35, 1) := by kernel_rfl
@[go_sem] theorem tf_part128_36 : partT Tryd.prog 128 36 = some (36, 1) := by kernel_rfl
@[go_sem] theorem tf_part128_37 : partT Tryd.prog 128 37 = some (37, 1) := by kernel_rfl
@[go_sem] theorem tf_part128_38 : partT Tryd.prog 128 38 = some (38, 1) := by kernel_rfl
@[go_sem] theorem tf_size131 : sizeT Tryd.prog 131 = 1 := by kernel_rfl
@[go_sem] theorem tf_agg131 : aggT Tryd.prog 131 = false := by kernel_rfl
@[go_sem] theorem tf_known131 : knownT Tryd.prog 131 = true := by kernel_rfl
@[go_sem] theorem tf_bytes131 : bytesT Tryd.prog 131 = 8 := by kernel_rfl
@[go_sem] theorem tf_zero131 (K : List AV → Prop) : zeroCellsT Tryd.prog 131 K = K [.r (.v (.int .u64 0))] := by kernel_rfl
@[go_sem] theorem tf_zis131 : (zeroT Tryd.prog 131).isSome = true := by kernel_rfl
@[go_sem] theorem tf_int131 : intT Tryd.prog 131 = some .u64 := by kernel_rfl
@[go_sem] theorem tf_flo131 : floatT Tryd.prog 131 = none := by kernel_rfl
@[go_sem] theorem tf_sl131 : sliceT Tryd.prog 131 = false := by kernel_rfl
@[go_sem] theorem tf_str131 : stringT Tryd.prog 131 = false := by kernel_rfl
@[go_sem] theorem tf_bool131 : boolT Tryd.prog 131 = false := by kernel_rfl
@[go_sem] theorem tf_ptr131 : ptrT Tryd.prog 131 = false := by kernel_rfl
@[go_sem] theorem tf_zval131 : zeroT Tryd.prog 131 = some (.int .u64 0) := by kernel_rfl
@[go_sem] theorem tf_elem131 : elemT Tryd.prog 131 = none := by kernel_rfl
theorem en2 : Enters Tryd.prog 2 := fun args w => Tryd.call2 args w
theorem en3 : Enters Tryd.prog 3 := fun args w => Tryd.call3 args w
theorem en4 : Enters Tryd.prog 4 := fun args w => Tryd.call4 args w
theorem en5 : Enters Tryd.prog 5 := fun args w => Tryd.call5 args w
theorem en6 : Enters Tryd.prog 6 := fun args w => Tryd.call6 args w
theorem en7 : Enters Tryd.prog 7 := fun args w => Tryd.call7 args w
theorem en8 : Enters Tryd.prog 8 := fun args w => Tryd.call8 args w
theorem en9 : Enters Tryd.prog 9 := fun args w => Tryd.call9 args w
theorem en10 : Enters Tryd.prog 10 := fun args w => Tryd.call10 args w
theorem en11 : Enters Tryd.prog 11 := fun args w => Tryd.call11 args w
theorem en12 : Enters Tryd.prog 12 := fun args w => Tryd.call12 args w
theorem en13 : Enters Tryd.prog 13 := fun args w => Tryd.call13 args w
theorem en14 : Enters Tryd.prog 14 := fun args w => Tryd.call14 args w
theorem en15 : Enters Tryd.prog 15 := fun args w => Tryd.call15 args w
theorem en16 : Enters Tryd.prog 16 := fun args w => Tryd.call16 args w
theorem en17 : Enters Tryd.prog 17 := fun args w => Tryd.call17 args w
theorem en18 : Enters Tryd.prog 18 := fun args w => Tryd.call18 args w
theorem en19 : Enters Tryd.prog 19 := fun args w => Tryd.call19 args w
theorem en20 : Enters Tryd.prog 20 := fun args w => Tryd.call20 args w
theorem en21 : Enters Tryd.prog 21 := fun args w => Tryd.call21 args w
theorem en22 : Enters Tryd.prog 22 := fun args w => Tryd.call22 args w
theorem en23 : Enters Tryd.prog 23 := fun args w => Tryd.call23 args w
theorem en24 : Enters Tryd.prog 24 := fun args w => Tryd.call24 args w
theorem en25 : Enters Tryd.prog 25 := fun args w => Tryd.call25 args w
theorem en26 : Enters Tryd.prog 26 := fun args w => Tryd.call26 args w
theorem en27 : Enters Tryd.prog 27 := fun args w => Tryd.call27 args w
theorem en28 : Enters Tryd.prog 28 := fun args w => Tryd.call28 args w
theorem en29 : Enters Tryd.prog 29 := fun args w => Tryd.call29 args w
theorem en30 : Enters Tryd.prog 30 := fun args w => Tryd.call30 args w
theorem en31 : Enters Tryd.prog 31 := fun args w => Tryd.call31 args w
theorem en32 : Enters Tryd.prog 32 := fun args w => Tryd.call32 args w
theorem en33 : Enters Tryd.prog 33 := fun args w => Tryd.call33 args w
theorem en34 : Enters Tryd.prog 34 := fun args w => Tryd.call34 args w
theorem en35 : Enters Tryd.prog 35 := fun args w => Tryd.call35 args w
theorem en36 : Enters Tryd.prog 36 := fun args w => Tryd.call36 args w
theorem en37 : Enters Tryd.prog 37 := fun args w => Tryd.call37 args w
theorem en38 : Enters Tryd.prog 38 := fun args w => Tryd.call38 args w
theorem en39 : Enters Tryd.prog 39 := fun args w => Tryd.call39 args w
theorem en40 : Enters Tryd.prog 40 := fun args w => Tryd.call40 args w
theorem en41 : Enters Tryd.prog 41 := fun args w => Tryd.call41 args w
theorem en42 : Enters Tryd.prog 42 := fun args w => Tryd.call42 args w
theorem en43 : Enters Tryd.prog 43 := fun args w => Tryd.call43 args w
theorem en44 : Enters Tryd.prog 44 := fun args w => Tryd.call44 args w
theorem en45 : Enters Tryd.prog 45 := fun args w => Tryd.call45 args w
theorem en46 : Enters Tryd.prog 46 := fun args w => Tryd.call46 args w
theorem en47 : Enters Tryd.prog 47 := fun args w => Tryd.call47 args w
theorem en48 : Enters Tryd.prog 48 := fun args w => Tryd.call48 args w
theorem en49 : Enters Tryd.prog 49 := fun args w => Tryd.call49 args w
theorem en50 : Enters Tryd.prog 50 := fun args w => Tryd.call50 args w
theorem en51 : Enters Tryd.prog 51 := fun args w => Tryd.call51 args w
theorem en52 : Enters Tryd.prog 52 := fun args w => Tryd.call52 args w
theorem en53 : Enters Tryd.prog 53 := fun args w => Tryd.call53 args w
theorem en56 : Enters Tryd.prog 56 := fun args w => Tryd.call56 args w
theorem en57 : Enters Tryd.prog 57 := fun args w => Tryd.call57 args w
theorem en58 : Enters Tryd.prog 58 := fun args w => Tryd.call58 args w
theorem en59 : Enters Tryd.prog 59 := fun args w => Tryd.call59 args w
theorem en60 : Enters Tryd.prog 60 := fun args w => Tryd.call60 args w
theorem en61 : Enters Tryd.prog 61 := fun args w => Tryd.call61 args w
theorem en62 : Enters Tryd.prog 62 := fun args w => Tryd.call62 args w
theorem en63 : Enters Tryd.prog 63 := fun args w => Tryd.call63 args w
theorem en64 : Enters Tryd.prog 64 := fun args w => Tryd.call64 args w
theorem en65 : Enters Tryd.prog 65 := fun args w => Tryd.call65 args w
theorem en66 : Enters Tryd.prog 66 := fun args w => Tryd.call66 args w
theorem en67 : Enters Tryd.prog 67 := fun args w => Tryd.call67 args w
theorem en68 : Enters Tryd.prog 68 := fun args w => Tryd.call68 args w
theorem en69 : Enters Tryd.prog 69 := fun args w => Tryd.call69 args w
theorem en70 : Enters Tryd.prog 70 := fun args w => Tryd.call70 args w
theorem en71 : Enters Tryd.prog 71 := fun args w => Tryd.call71 args w
theorem en72 : Enters Tryd.prog 72 := fun args w => Tryd.call72 args w
theorem en73 : Enters Tryd.prog 73 := fun args w => Tryd.call73 args w
theorem en74 : Enters Tryd.prog 74 := fun args w => Tryd.call74 args w
theorem en75 : Enters Tryd.prog 75 := fun args w => Tryd.call75 args w
theorem en76 : Enters Tryd.prog 76 := fun args w => Tryd.call76 args w
theorem en77 : Enters Tryd.prog 77 := fun args w => Tryd.call77 args w
theorem en78 : Enters Tryd.prog 78 := fun args w => Tryd.call78 args w
theorem en79 : Enters Tryd.prog 79 := fun args w => Tryd.call79 args w
theorem en80 : Enters Tryd.prog 80 := fun args w => Tryd.call80 args w
theorem en81 : Enters Tryd.prog 81 := fun args w => Tryd.call81 args w
theorem en82 : Enters Tryd.prog 82 := fun args w => Tryd.call82 args w
theorem en83 : Enters Tryd.prog 83 := fun args w => Tryd.call83 args w
theorem en84 : Enters Tryd.prog 84 := fun args w => Tryd.call84 args w
theorem en85 : Enters Tryd.prog 85 := fun args w => Tryd.call85 args w
theorem en86 : Enters Tryd.prog 86 := fun args w => Tryd.call86 args w
theorem en110 : Enters Tryd.prog 110 := fun args w => Tryd.call110 args w
abbrev lv2 : List (Nat × List Nat) := [(0, [])]
abbrev lv3 : List (Nat × List Nat) := [(0, [0, 1, 2]), (1, [0, 4, 5]), (2, [0, 4, 5, 7, 8]), (3, [0, 4, 5, 7, 8, 9, 10]), (4, [0, 4, 5, 7, 8, 9, 10, 11, 12]), (5, [4, 7, 8, 9, 10, 11, 12, 13, 14])]
abbrev lv4 : List (Nat × List Nat) := [(0, [0, 1, 2]), (1, [1, 2, 3]), (2, [1, 2, 3, 7, 8, 9]), (3, []), (4, [1, 2, 3, 7, 8]), (5, [2, 7, 8, 10]), (6, [2, 7, 8, 10, 52]), (7, [2, 7, 8, 10, 52]), (8, []), (9, [2, 7, 8, 10, 52]), (10, [2, 7, 8, 10, 52]), (11, [2, 7, 8, 10]), (12, [2, 7, 8, 10, 52]), (13, [2, 7, 8, 10]), (14, [2, 7, 8, 10, 52]), (15, [2, 7, 8, 10]), (16, [2, 7, 8, 52]), (17, [2, 7]), (18, [2, 7, 8])]
abbrev lv5 : List (Nat × List Nat) := [(0, [0, 1]), (1, [1, 2]), (2, [1, 2, 6, 7]), (3, []), (4, [1, 2]), (5, [1, 2, 8]), (6, [1, 2, 8]), (7, [2, 8]), (8, [2])]
abbrev lv6 : List (Nat × List Nat) := [(0, [0, 1]), (1, [1, 2]), (2, [1, 2, 5, 6, 7]), (3, [1, 2, 5, 6, 7, 8]), (4, []), (5, [1, 2, 5, 6, 7, 8]), (6, [1, 2, 5, 6, 7]), (7, [1, 2, 5, 6, 7, 8]), (8, [5, 6, 7, 8]), (9, [1, 2, 5, 6, 7]), (10, [5, 6, 7, 9]), (11, []), (12, [5, 6, 7, 9]), (13, [5, 6, 7, 73, 74, 75]), (14, [5, 6, 7, 73, 74, 75]), (15, [5, 6, 7, 11, 12, 73, 74, 75]), (16, []), (17, [5, 6, 7, 73, 74, 75]), (18, [7])]
abbrev lv7 : List (Nat × List Nat) := [(0, [0, 1]), (1, [0, 3, 4]), (2, [0, 3, 4]), (3, [3, 4]), (4, [0, 3, 4]), (5, [3, 4]), (6, [0, 3, 4]), (7, [3, 4]), (8, [4])]
abbrev lv8 : List (Nat × List Nat) := [(0, [0, 1, 2]), (1, [0, 4, 5, 6]), (2, [0, 4, 5, 6]), (3, [0, 4, 5, 6]), (4, [0, 4, 5, 6]), (5, [4, 5, 6]), (6, [0, 4, 5, 6]), (7, [0, 4, 5, 6]), (8, [6])]
abbrev lv9 : List (Nat × List Nat) := [(0, [0, 1]), (1, [0, 3, 4]), (2, [0, 3, 4]), (3, [3, 4]), (4, [0, 3, 4]), (5, [3, 4]), (6, [0, 3, 4]), (7, [3, 4]), (8, [4])]
abbrev lv10 : List (Nat × List Nat) := [(0, [0, 1, 2]), (1, [0, 4, 5, 6]), (2, [0, 4, 5, 6]), (3, [0, 4, 5, 6, 8, 9]), (4, [0, 4, 5, 6, 8, 9, 10]), (5, [0, 4, 5, 6, 8, 9, 10, 11]), (6, [6]), (7, [0, 4, 5, 6, 8, 9, 10, 11, 45]), (8, [4, 5, 6, 8, 9, 11]), (9, [6, 8, 9]), (10, [4, 5, 6]), (11, [0, 4, 5, 6, 8, 9, 10, 11, 45]), (12, [0, 4, 5, 6, 8, 9, 10, 11, 45]), (13, [0, 4, 5, 6, 8, 9, 10, 11]), (14, [6]), (15, [0, 4, 5, 6, 8, 9, 11]), (16, [0, 6, 8, 9, 11, 12, 13]), (17, [0, 6, 8, 9]), (18, [0, 6, 12, 13]), (19, [0, 4, 5, 6, 8, 9, 10, 11, 45]), (20, [0, 4, 5, 6, 8, 9, 10, 11, 45]), (21, [0, 4, 5, 6, 8, 9, 10, 11, 45]), (22, [0, 4, 5, 6, 8, 9, 10, 11, 45]), (23, [0, 4, 5, 6, 8, 9, 10, 11, 45]), (24, [0, 4, 5, 6, 8, 9, 10, 11]), (25, [6]), (26, [0, 4, 5, 6, 8, 9, 11]), (27, [0, 6, 8, 9]), (28, [0, 4, 5, 6]), (29, [6]), (30, [0, 4, 5, 6]), (31, [4, 5, 6, 133]), (32, [4, 5, 6]), (33, [4, 5, 6, 133]), (34, [4, 5, 6]), (35, [4, 5, 6, 133]), (36, [4, 5, 6]), (37, [4, 5, 6, 133]), (38, [4, 5, 6]), (39, [4, 5, 6])]
abbrev lv11 : List (Nat × List Nat) := [(0, [0]), (1, [1]), (2, [1, 4]), (3, [1]), (4, [1, 4]), (5, [1]), (6, [1, 4]), (7, [1]), (8, [1, 4]), (9, [1]), (10, [1, 4]), (11, [1, 4]), (12, [1]), (13, [1, 4]), (14, [1]), (15, [])]
abbrev lv12 : List (Nat × List Nat) := [(0, [0]), (1, [1]), (2, [1, 4]), (3, [1]), (4, [1, 4]), (5, [1]), (6, [1, 4]), (7, [1]), (8, [1, 4]), (9, [1]), (10, [1, 4]), (11, [1, 4]), (12, [1]), (13, [1, 4]), (14, [1]), (15, [])]
abbrev lv13 : List (Nat × List Nat) := [(0, [0]), (1, [1]), (2, [1])]
abbrev lv14 : List (Nat × List Nat) := [(0, [0]), (1, [1]), (2, [1])]
abbrev lv15 : List (Nat × List Nat) := [(0, [0, 1]), (1, [0, 1]), (2, []), (3, [0, 1]), (4, [0, 1, 12, 13]), (5, [0, 1, 12, 13]), (6, [0, 1, 5, 12, 13]), (7, []), (8, [0, 1, 12, 13]), (9, [])]
abbrev lv16 : List (Nat × List Nat) := [(0, []), (1, [])]
abbrev lv17 : List (Nat × List Nat) := [(0, []), (1, [])]
abbrev lv18 : List (Nat × List Nat) := [(0, [0, 1]), (1, [1, 2]), (2, [1, 2, 7]), (3, [7]), (4, [1, 2]), (5, []), (6, [1, 2]), (7, [8, 9]), (8, [8, 9, 37, 38]), (9, [8, 9, 37, 38]), (10, [8, 9, 11, 37, 38]), (11, [8, 9, 37, 38]), (12, [8, 9])]
abbrev lv19 : List (Nat × List Nat) := [(0, []), (1, []), (2, [1, 2, 3])]
abbrev lv20 : List (Nat × List Nat) := [(0, [0, 1]), (1, [0, 1]), (2, []), (3, [0, 1]), (4, [0, 1, 12, 13]), (5, [0, 1, 12, 13]), (6, [0, 1, 5, 12, 13]), (7, []), (8, [0, 1, 12, 13]), (9, [])]
abbrev lv21 : List (Nat × List Nat) := [(0, [0]), (1, [0]), (2, []), (3, [0])]
abbrev lv22 : List (Nat × List Nat) := [(0, [0]), (1, [0]), (2, []), (3, [0])]
abbrev lv23 : List (Nat × List Nat) := [(0, [0]), (1, [0]), (2, []), (3, [0])]
abbrev lv24 : List (Nat × List Nat) := [(0, [0]), (1, [1]), (2, []), (3, [1]), (4, []), (5, [1]), (6, []), (7, [])]
abbrev lv25 : List (Nat × List Nat) := [(0, [0]), (1, [1]), (2, [1, 3]), (3, [1, 3, 36, 37, 38]), (4, [1, 3, 36, 37, 38]), (5, [1, 3, 5, 36, 37, 38]), (6, [1, 3, 36, 37, 38]), (7, [1, 3]), (8, [1, 3, 50, 51, 52]), (9, [1, 3, 50, 51, 52]), (10, [1, 3, 7, 50, 51, 52]), (11, [1, 3, 50, 51, 52]), (12, [1, 3]), (13, []), (14, [1]), (15, [1, 8]), (16, [1, 8, 81, 82, 83]), (17, [1, 8, 81, 82, 83]), (18, [1, 8, 9, 10, 81, 82, 83]), (19, [1, 8, 9, 10, 81, 82, 83]), (20, [1, 8, 10, 81, 82, 83, 104, 105, 106]), (21, [1, 8, 10, 81, 82, 83, 104, 105, 106]), (22, [1, 8, 10, 12, 81, 82, 83, 104, 105, 106]), (23, [1, 8, 10, 81, 82, 83, 104, 105, 106]), (24, [1, 8, 81, 82, 83]), (25, [1, 8]), (26, [1, 8, 119, 120, 121]), (27, [1, 8, 119, 120, 121]), (28, [1, 8, 14, 119, 120, 121]), (29, [1, 8, 119, 120, 121]), (30, [1, 8]), (31, [1, 8, 150, 151, 152]), (32, [1, 8, 150, 151, 152]), (33, [1, 8, 15, 16, 150, 151, 152]), (34, [1, 8, 15, 16, 150, 151, 152]), (35, [1, 8, 16, 150, 151, 152]), (36, [1, 8, 16, 150, 151, 152]), (37, []), (38, [1, 8, 16, 150, 151, 152]), (39, [1, 8, 16, 150, 151, 152, 192, 193, 194]), (40, [1, 8, 16, 150, 151, 152, 192, 193, 194]), (41, [1, 8, 16, 17, 18, 150, 151, 152, 192, 193, 194]), (42, [1, 8, 16, 150, 151, 152, 192, 193, 194]), (43, [1, 8, 16, 150, 151, 152]), (44, []), (45, [1, 16, 150, 151, 152]), (46, [1, 8, 150, 151, 152]), (47, [8]), (48, []), (49, [])]
abbrev lv26 : List (Nat × List Nat) := [(0, [0, 1, 2]), (1, [0, 1, 2])]
abbrev lv27 : List (Nat × List Nat) := [(0, [0]), (1, [1]), (2, [1, 4]), (3, [1, 4, 5]), (4, []), (5, [1, 4, 5]), (6, [1, 4, 5]), (7, [1, 4, 5, 6]), (8, [1, 4, 5]), (9, [1, 4, 5, 6]), (10, [1, 4, 5, 6, 27, 28, 29]), (11, [1, 4, 5, 6, 27, 28, 29]), (12, [1, 4, 5, 6, 7, 8, 27, 28, 29]), (13, [1, 4, 5, 6, 7, 8, 27, 28, 29]), (14, [1, 4, 5, 6, 7, 8, 9, 27, 28, 29]), (15, [1, 4, 5, 6, 7, 8, 9, 27, 28, 29]), (16, [1, 4, 5, 6, 7, 8, 9, 27, 28, 29]), (17, [1, 4, 5, 6, 7, 8, 9, 27, 28, 29]), (18, [1, 4, 5, 6, 7, 9, 27, 28, 29]), (19, [1, 4, 5, 6, 7, 8, 9, 27, 28, 29, 47]), (20, [1, 4, 5, 6, 7, 8, 9, 27, 28, 29, 47]), (21, [1, 4, 5, 6, 7, 8, 9, 27, 28, 29, 47]), (22, [1, 4, 5, 6, 7, 8, 9, 27, 28, 29, 47]), (23, [1, 4, 5, 6, 8, 9, 27, 28, 29]), (24, [1, 4, 5, 6, 7, 8, 9, 27, 28, 29, 47]), (25, [1, 4, 5, 6, 7, 8, 9, 27, 28, 29]), (26, [1, 4, 5, 6, 7, 8, 9, 27, 28, 29, 47]), (27, [1, 4, 5, 6, 7, 8, 9, 27, 28, 29]), (28, [1, 4, 5, 6, 7, 8, 9, 10, 27, 28, 29]), (29, [1, 4, 5, 6, 7, 9, 27, 28, 29, 47]), (30, [1, 4, 5, 6, 7, 9, 27, 28, 29]), (31, []), (32, [1, 4, 5, 6, 7, 9, 27, 28, 29]), (33, [1, 4, 5, 6, 11, 12, 27, 28, 29]), (34, [1, 4, 5, 6, 12, 27, 28, 29, 108, 109, 110]), (35, [1, 4, 5, 6, 12, 27, 28, 29, 108, 109, 110]), (36, [1, 4, 5, 6, 12, 13, 14, 27, 28, 29, 108, 109, 110]), (37, []), (38, [1, 4, 5, 6, 12, 13, 14, 27, 28, 29, 108, 109, 110]), (39, [1, 4, 5, 6, 12, 13, 14, 27, 28, 29, 108, 109, 110]), (40, [1, 4, 5, 6, 12, 27, 28, 29, 108, 109, 110]), (41, [1, 4, 5, 6, 27, 28, 29]), (42, [5])]
abbrev lv28 : List (Nat × List Nat) := [(0, [0]), (1, [1, 2]), (2, [2]), (3, [1, 2])]
abbrev lv29 : List (Nat × List Nat) := [(0, [0]), (1, [0, 2]), (2, [2]), (3, [2])]
abbrev lv30 : List (Nat × List Nat) := [(0, [0]), (1, [0, 2]), (2, [2]), (3, [0, 2])]
abbrev lv31 : List (Nat × List Nat) := [(0, [0]), (1, [0, 2]), (2, [2]), (3, [0, 2])]
abbrev lv32 : List (Nat × List Nat) := [(0, [0]), (1, [1])]
abbrev lv33 : List (Nat × List Nat) := [(0, [0]), (1, [0, 2])]
abbrev lv34 : List (Nat × List Nat) := [(0, [0, 1, 2]), (1, [0, 1, 2, 6]), (2, [0, 1, 2, 6, 8]), (3, [1, 2, 6]), (4, [0, 1, 2, 6, 8]), (5, [1, 2, 6]), (6, [0, 1, 2, 6, 8]), (7, [1, 2, 6]), (8, [0, 1, 2, 6, 8]), (9, [1, 2, 6]), (10, [0, 1, 2, 6, 8]), (11, [1, 2, 6]), (12, [0, 1, 2, 6])]
abbrev lv35 : List (Nat × List Nat) := [(0, [0, 1, 2]), (1, [0, 1, 2, 6]), (2, [0, 1, 2, 6, 8]), (3, [1, 2, 6]), (4, [0, 1, 2, 6, 8]), (5, [1, 2, 6]), (6, [0, 1, 2, 6, 8]), (7, [1, 2, 6]), (8, [0, 1, 2, 6, 8]), (9, [0, 1, 2, 6, 8]), (10, [0, 1, 2, 6]), (11, [6]), (12, [0, 1, 2, 6]), (13, [1, 2, 6]), (14, [1, 2, 6]), (15, [0, 1, 2, 6])]
abbrev lv36 : List (Nat × List Nat) := [(0, [0]), (1, [1, 2]), (2, [1, 2]), (3, [2])]
abbrev lv37 : List (Nat × List Nat) := [(0, [0]), (1, [0, 2]), (2, [2]), (3, [2])]
abbrev lv38 : List (Nat × List Nat) := [(0, [0]), (1, [0, 2]), (2, [0, 2]), (3, [2])]
abbrev lv39 : List (Nat × List Nat) := [(0, [0]), (1, [0, 2]), (2, [0, 2, 3]), (3, [2, 3]), (4, [2, 3])]
abbrev lv40 : List (Nat × List Nat) := [(0, [0]), (1, [1])]
abbrev lv41 : List (Nat × List Nat) := [(0, [0, 1, 2]), (1, [0, 1, 2])]
abbrev lv42 : List (Nat × List Nat) := [(0, [0]), (1, [0])]
abbrev lv43 : List (Nat × List Nat) := [(0, [0]), (1, [0]), (2, [0, 3]), (3, [0, 3, 4]), (4, [0, 3, 4, 5]), (5, [0, 3, 4, 5, 6]), (6, [0, 3, 4, 5, 6]), (7, [0, 3, 4, 5, 6]), (8, [0, 3, 4, 5, 6, 7]), (9, [0, 3, 4, 5, 6, 7]), (10, [0, 3, 4, 5, 6, 8]), (11, [0, 3, 5, 6, 8]), (12, [0, 3, 5]), (13, [0]), (14, [0, 3]), (15, [0, 9]), (16, [0, 9, 10]), (17, [0, 9, 10]), (18, [0, 9, 10, 12]), (19, [0, 9, 10, 12]), (20, [0, 9, 10, 12]), (21, [0, 9, 10, 11, 12]), (22, [0, 9, 10, 11, 12]), (23, [0, 9, 10, 11, 12]), (24, [0, 9, 10, 11, 12]), (25, [0, 9, 10, 12]), (26, [0, 9, 10, 12]), (27, [0, 9, 10, 12]), (28, [0, 9, 10, 12]), (29, [0, 9, 10, 12]), (30, [0, 9, 10, 11]), (31, [0, 9, 10, 11]), (32, [9])]
abbrev lv44 : List (Nat × List Nat) := [(0, [0]), (1, [1]), (2, [5]), (3, [5]), (4, [5]), (5, [5, 6]), (6, [5, 6]), (7, [5])]
abbrev lv45 : List (Nat × List Nat) := [(0, [0]), (1, [0, 2])]
abbrev lv46 : List (Nat × List Nat) := [(0, [0, 1]), (1, [0, 1]), (2, []), (3, [0, 1]), (4, [0, 1, 12, 13]), (5, [0, 1, 12, 13]), (6, [0, 1, 5, 12, 13]), (7, []), (8, [0, 1, 12, 13]), (9, [])]
abbrev lv47 : List (Nat × List Nat) := [(0, [0]), (1, [1])]
abbrev lv48 : List (Nat × List Nat) := [(0, [0]), (1, [1]), (2, [1, 3]), (3, []), (4, [1]), (5, [1, 4]), (6, [1, 4, 26, 27, 28]), (7, [1, 4, 26, 27, 28]), (8, [1, 4, 6, 26, 27, 28]), (9, []), (10, [1, 4, 6, 26, 27, 28]), (11, [1, 4, 26, 27, 28]), (12, [1])]
abbrev lv49 : List (Nat × List Nat) := [(0, [0, 1]), (1, [0, 1])]
abbrev lv50 : List (Nat × List Nat) := [(0, [0, 1]), (1, [1, 2])]
abbrev lv51 : List (Nat × List Nat) := [(0, [0, 1]), (1, [2, 3]), (2, [3, 5]), (3, []), (4, [3, 5]), (5, [3, 5, 30, 31, 32]), (6, [3, 5, 30, 31, 32]), (7, [3, 5, 6, 7, 30, 31, 32]), (8, []), (9, [3, 5, 30, 31, 32]), (10, [3]), (11, [10])]
abbrev lv52 : List (Nat × List Nat) := [(0, [0, 1, 2, 3]), (1, [2, 4, 5, 7]), (2, [2, 4, 5, 7, 9]), (3, []), (4, [2, 4, 5, 7, 9]), (5, [2, 4, 5, 7, 9, 32, 33]), (6, [2, 4, 5, 7, 9, 32, 33]), (7, [2, 4, 5, 7, 9, 10, 11, 32, 33]), (8, [2, 4, 5, 7, 9, 10, 11, 12, 32, 33]), (9, []), (10, [2, 4, 5, 7, 9, 32, 33]), (11, [2, 4, 5, 7]), (12, [2, 4, 5, 7, 60]), (13, [2, 7]), (14, [4, 5, 7, 60]), (15, [5, 7]), (16, [4, 5, 7, 60]), (17, [5, 7]), (18, [4, 5, 7, 60]), (19, [5]), (20, [4, 5, 7, 60]), (21, [4, 5, 7]), (22, [5, 99, 100, 101]), (23, [5, 99, 100, 101]), (24, [5, 14, 99, 100, 101]), (25, []), (26, [5, 99, 100, 101]), (27, [])]
abbrev lv53 : List (Nat × List Nat) := [(0, [0, 1]), (1, [0, 1]), (2, []), (3, [0, 1]), (4, [0, 1, 12, 13]), (5, [0, 1, 12, 13]), (6, [0, 1, 5, 12, 13]), (7, []), (8, [0, 1, 12, 13]), (9, [])]
abbrev lv56 : List (Nat × List Nat) := [(0, [0, 1, 2]), (1, [0, 1, 2, 6]), (2, [1, 2, 6, 8]), (3, [1, 2, 6]), (4, [1, 2, 6, 8]), (5, [1, 2, 6]), (6, [6])]
abbrev lv57 : List (Nat × List Nat) := [(0, [0, 1, 2]), (1, [0, 1, 2, 6]), (2, [1, 2, 6, 8]), (3, [1, 2, 6]), (4, [1, 2, 6, 8]), (5, [1, 2, 6]), (6, [6])]
abbrev lv58 : List (Nat × List Nat) := [(0, [0, 1]), (1, [0, 1]), (2, [0, 1, 5]), (3, [0, 1, 5, 6]), (4, [0, 1, 5, 6, 14]), (5, [0, 1, 5, 6, 14, 15]), (6, [0, 1, 5, 6, 7, 8, 14]), (7, [0, 1, 5, 6, 7, 14]), (8, [0, 1, 5, 6, 7, 14]), (9, [0, 1, 5, 6, 14]), (10, [0, 1, 5, 6, 7, 14]), (11, [0, 1, 5, 7, 14]), (12, [0, 5, 6]), (13, [0, 5, 6]), (14, [0, 5]), (15, [0, 5, 9]), (16, [0, 9, 47, 48, 49]), (17, [0, 9, 47, 48, 49]), (18, [0, 9, 10, 11, 47, 48, 49]), (19, [0, 9, 47, 48, 49]), (20, [9])]
abbrev lv59 : List (Nat × List Nat) := [(0, [0]), (1, [0]), (2, [0]), (3, [6]), (4, [6]), (5, [6]), (6, [6]), (7, [6]), (8, [6]), (9, [6]), (10, [6]), (11, []), (12, []), (13, [0])]
abbrev lv60 : List (Nat × List Nat) := [(0, [0, 1, 2]), (1, [0]), (2, [0, 1, 2]), (3, [0, 1, 2]), (4, [0, 1]), (5, [0, 1, 2]), (6, [0])]
abbrev lv61 : List (Nat × List Nat) := [(0, [0, 1]), (1, [0, 1, 4, 5]), (2, [0, 1, 4, 5, 22]), (3, [0, 1, 4, 5, 22]), (4, [0, 1, 4, 5, 22]), (5, [0, 1, 4, 5, 22]), (6, [0, 4, 5]), (7, [0, 1, 4, 5, 22]), (8, [0, 1, 4, 5]), (9, [0, 1, 4, 5, 22]), (10, [0, 1, 4, 5]), (11, [0, 1, 4, 5]), (12, [0, 1, 5, 22]), (13, [0, 1, 5]), (14, [0]), (15, [0, 1, 5]), (16, [0, 1, 5])]
abbrev lv62 : List (Nat × List Nat) := [(0, [0]), (1, [0, 2])]
abbrev lv63 : List (Nat × List Nat) := [(0, [0, 1]), (1, [0, 1])]
abbrev lv64 : List (Nat × List Nat) := [(0, [0]), (1, [0])]
abbrev lv65 : List (Nat × List Nat) := [(0, [0]), (1, [1])]
abbrev lv66 : List (Nat × List Nat) := [(0, [0, 1]), (1, [0, 1])]
abbrev lv67 : List (Nat × List Nat) := [(0, [0, 1]), (1, [1, 2])]
abbrev lv68 : List (Nat × List Nat) := [(0, [0, 1]), (1, [0, 1]), (2, [0, 1, 7, 8]), (3, [0, 1, 7, 8]), (4, [0, 1, 5, 7, 8]), (5, [5]), (6, [0, 1, 7, 8]), (7, [])]
abbrev lv69 : List (Nat × List Nat) := [(0, [0, 1, 2]), (1, [1, 3, 5]), (2, [1, 3, 5, 7]), (3, []), (4, [1, 3, 5]), (5, [1, 3, 5, 47]), (6, [1, 5]), (7, [3, 5, 47]), (8, [3, 5]), (9, [3, 5, 47]), (10, [3, 5]), (11, [3, 5, 47]), (12, [3, 5]), (13, [3, 47]), (14, [3]), (15, [])]
abbrev lv70 : List (Nat × List Nat) := [(0, [0]), (1, [0]), (2, [3]), (3, []), (4, [3]), (5, [3]), (6, [3]), (7, [3]), (8, [3]), (9, [3]), (10, [3]), (11, [3]), (12, []), (13, [3]), (14, [3]), (15, [3]), (16, [3]), (17, [3]), (18, [3]), (19, [3]), (20, [3]), (21, [3]), (22, [3]), (23, []), (24, [3]), (25, [3]), (26, []), (27, [3]), (28, [3]), (29, []), (30, [3]), (31, [3]), (32, [3]), (33, [3]), (34, [3]), (35, [3]), (36, [3]), (37, [3]), (38, []), (39, [3]), (40, []), (41, [3]), (42, []), (43, [3]), (44, []), (45, [3]), (46, []), (47, [3]), (48, []), (49, [3]), (50, []), (51, [3]), (52, []), (53, [])]
abbrev lv71 : List (Nat × List Nat) := [(0, [0, 1, 2]), (1, [2, 3, 4]), (2, [3, 4, 7]), (3, [4]), (4, [3, 4, 7]), (5, [3]), (6, [3, 4, 7]), (7, [3]), (8, [3, 4, 7]), (9, [4]), (10, [3, 4, 7]), (11, [4]), (12, [3, 4, 7]), (13, [3]), (14, [4, 7]), (15, [4, 7]), (16, [4]), (17, [])]
abbrev lv72 : List (Nat × List Nat) := [(0, [0, 1]), (1, [0, 1]), (2, [0, 1, 5]), (3, [0, 1, 5, 6]), (4, [1, 5, 6]), (5, [0, 1]), (6, [1, 7]), (7, [1, 7]), (8, [])]
abbrev lv73 : List (Nat × List Nat) := [(0, [0, 1]), (1, [0, 1]), (2, [0, 1, 7, 8]), (3, [0, 1, 7, 8]), (4, [0, 1, 5, 7, 8]), (5, [5]), (6, [0, 1, 7, 8]), (7, [])]
abbrev lv74 : List (Nat × List Nat) := [(0, [0, 1]), (1, [0, 1]), (2, [0, 1, 7, 8]), (3, [0, 1, 7, 8]), (4, [0, 1, 5, 7, 8]), (5, [5]), (6, [0, 1, 7, 8]), (7, [])]
abbrev lv75 : List (Nat × List Nat) := [(0, [0]), (1, [0]), (2, [0, 3]), (3, []), (4, [0, 3])]
abbrev lv76 : List (Nat × List Nat) := [(0, [0, 1, 2]), (1, [0, 1, 2])]
abbrev lv77 : List (Nat × List Nat) := [(0, [0, 1, 2]), (1, [1, 2, 3]), (2, [2, 3, 7]), (3, [2, 3]), (4, [2, 3, 7]), (5, [2, 3]), (6, [2, 3, 7]), (7, [2, 3]), (8, [2, 3, 7]), (9, [2, 3]), (10, [2, 3, 7]), (11, [2, 3]), (12, [2, 3, 7]), (13, [2, 3]), (14, [2, 3, 7]), (15, [2, 3, 7]), (16, [2, 3, 7]), (17, [2, 3]), (18, [2])]
abbrev lv78 : List (Nat × List Nat) := [(0, [0, 1]), (1, [1, 2])]
abbrev lv79 : List (Nat × List Nat) := [(0, [0, 1]), (1, [2, 3])]
abbrev lv80 : List (Nat × List Nat) := [(0, [0, 1]), (1, [0, 1]), (2, [0, 1]), (3, [0, 1, 19, 20]), (4, [0, 1, 19, 20]), (5, [0, 1, 5, 19, 20]), (6, [0, 1, 6, 19, 20]), (7, []), (8, [0, 1, 6, 19, 20]), (9, [1, 6]), (10, [0, 1, 19, 20]), (11, []), (12, [0, 1]), (13, [0, 1, 7]), (14, [0, 1, 7, 8]), (15, [0, 1, 7, 8]), (16, [0, 1, 7, 8, 9]), (17, [0, 1, 7, 8, 9, 10]), (18, [1, 10]), (19, [0, 1, 7, 8, 9, 10]), (20, [0, 1, 7, 9]), (21, [0, 1, 8, 9]), (22, [])]
abbrev lv81 : List (Nat × List Nat) := [(0, [0, 1]), (1, [0, 1]), (2, [0, 1]), (3, [0, 1, 15, 16]), (4, [0, 1, 15, 16]), (5, [0, 1, 5, 15, 16]), (6, [0, 1, 6, 15, 16]), (7, []), (8, [0, 1, 6, 15, 16]), (9, [1, 6]), (10, [0, 1, 15, 16]), (11, []), (12, [0, 1]), (13, [0, 1, 7]), (14, [0, 1, 7, 8]), (15, [0, 1, 7, 8]), (16, [0, 1, 7, 8, 9]), (17, [0, 1, 7, 8, 9, 10]), (18, [1, 10]), (19, [0, 1, 7, 8, 9, 10]), (20, [0, 1, 7, 9]), (21, [0, 1, 8, 9]), (22, [])]
abbrev lv82 : List (Nat × List Nat) := [(0, [0, 1]), (1, [1, 2])]
abbrev lv83 : List (Nat × List Nat) := [(0, [0, 1]), (1, [1, 2])]
abbrev lv84 : List (Nat × List Nat) := [(0, [0, 1]), (1, [0, 1])]
abbrev lv85 : List (Nat × List Nat) := [(0, [0, 1]), (1, [0, 1])]
abbrev lv86 : List (Nat × List Nat) := [(0, [0, 1]), (1, [0, 1]), (2, [0, 1, 7, 8]), (3, [0, 1, 7, 8]), (4, [0, 1, 5, 7, 8]), (5, [5]), (6, [0, 1, 7, 8]), (7, [])]
abbrev lv110 : List (Nat × List Nat) := [(0, []), (1, []), (2, [])]
end Go.Proofs.YtjbhpoolghfhiaaDoor
